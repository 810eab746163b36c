/-
  Law 08: change.
-/
import Derived.Test.YtciaallekkdnhaaGreatMtS
import Derived.Laws.Rows
namespace Go.Proofs.YtciaallekkdnhaaGreat
open Go.RowKit

set_option maxRecDepth 100000 in
theorem mchange_any (k : Int) (had has : Bool) (o0 o1 o2 n0 n1 n2 : Int) (w : World) :
    Calls Tryz.prog 34 #[.int .i64 k, .bool had, .agg #[.int .i64 o0, .int .i64 o1, .int .i64 o2], .bool has, .agg #[.int .i64 n0, .int .i64 n1, .int .i64 n2]] w fun e w' => ∃ A, e = .returned (.agg #[.int .i64 1, .slice A 1 1]) ∧ HoldsC w' A [⟨0, k, had, o0, o1, o2, has, n0, n1, n2⟩] ∧ Fr [] w w' := by
  have hb : Blk ((((w.alloc (.cells #[.int .i64 o0, .int .i64 o1, .int .i64 o2] 57)).alloc (.cells #[.int .i64 n0, .int .i64 n1, .int .i64 n2] 57)).alloc (.cells #[.int .i64 1, .slice (some ⟨w.heap.size + 1 + 1 + 1, 0, none⟩) 1 1] 26)).alloc (.cells #[.int .i64 0, .int .i64 k, .bool had, .int .i64 o0, .int .i64 o1, .int .i64 o2, .bool has, .int .i64 n0, .int .i64 n1, .int .i64 n2] 59)) (w.heap.size + 1 + 1) 26 #[.int .i64 1, .slice (some ⟨w.heap.size + 1 + 1 + 1, 0, none⟩) 1 1] := by
    have h := (Blk.new ((w.alloc (.cells #[.int .i64 o0, .int .i64 o1, .int .i64 o2] 57)).alloc (.cells #[.int .i64 n0, .int .i64 n1, .int .i64 n2] 57)) 26 #[.int .i64 1, .slice (some ⟨w.heap.size + 1 + 1 + 1, 0, none⟩) 1 1]).alloc (.cells #[.int .i64 0, .int .i64 k, .bool had, .int .i64 o0, .int .i64 o1, .int .i64 o2, .bool has, .int .i64 n0, .int .i64 n1, .int .i64 n2] 59)
    simp only [World.size_alloc] at h
    exact h
  have hc : Blk ((((w.alloc (.cells #[.int .i64 o0, .int .i64 o1, .int .i64 o2] 57)).alloc (.cells #[.int .i64 n0, .int .i64 n1, .int .i64 n2] 57)).alloc (.cells #[.int .i64 1, .slice (some ⟨w.heap.size + 1 + 1 + 1, 0, none⟩) 1 1] 26)).alloc (.cells #[.int .i64 0, .int .i64 k, .bool had, .int .i64 o0, .int .i64 o1, .int .i64 o2, .bool has, .int .i64 n0, .int .i64 n1, .int .i64 n2] 59)) (w.heap.size + 1 + 1 + 1) 59 #[.int .i64 0, .int .i64 k, .bool had, .int .i64 o0, .int .i64 o1, .int .i64 o2, .bool has, .int .i64 n0, .int .i64 n1, .int .i64 n2] := by
    have h := Blk.new (((w.alloc (.cells #[.int .i64 o0, .int .i64 o1, .int .i64 o2] 57)).alloc (.cells #[.int .i64 n0, .int .i64 n1, .int .i64 n2] 57)).alloc (.cells #[.int .i64 1, .slice (some ⟨w.heap.size + 1 + 1 + 1, 0, none⟩) 1 1] 26)) 59 #[.int .i64 0, .int .i64 k, .bool had, .int .i64 o0, .int .i64 o1, .int .i64 o2, .bool has, .int .i64 n0, .int .i64 n1, .int .i64 n2]
    simp only [World.size_alloc] at h
    exact h
  have hf : Fr [] w ((((w.alloc (.cells #[.int .i64 o0, .int .i64 o1, .int .i64 o2] 57)).alloc (.cells #[.int .i64 n0, .int .i64 n1, .int .i64 n2] 57)).alloc (.cells #[.int .i64 1, .slice (some ⟨w.heap.size + 1 + 1 + 1, 0, none⟩) 1 1] 26)).alloc (.cells #[.int .i64 0, .int .i64 k, .bool had, .int .i64 o0, .int .i64 o1, .int .i64 o2, .bool has, .int .i64 n0, .int .i64 n1, .int .i64 n2] 59)) := ((((Fr.refl _ _).alloc _).alloc _).alloc _).alloc _
  have HB := Lib.hid hb
  have HC := Lib.hid hc
  have HF := Lib.hid hf
  clear hb hc hf
  go_enter Tryz.func34, Tryz.ntmps34
  go_wp2
  refine bodyPost_ret (results_cell_row rfl _ _ (w.heap.size + 1 + 1) 26 _ (0, 0) _ rfl HB.out Tryz.underlying26 rfl (by kernel_rfl)) rfl ⟨_, rfl, ⟨fun _ => ⟨_, 0, rfl, HC.out.lt, fun i hi j hj => ?_⟩, fun _ ad e => ?_⟩, HF.out⟩
  · have hi0 : i = 0 := by simpa using hi
    subst hi0
    rw [HC.out.cell]
    simp only [Chg.cells, Nat.zero_mul, Nat.zero_add, List.getElem_cons_zero, List.getElem?_toArray]
  · injection e with e
    subst e
    exact ⟨_, _, HC.out⟩
end Go.Proofs.YtciaallekkdnhaaGreat
