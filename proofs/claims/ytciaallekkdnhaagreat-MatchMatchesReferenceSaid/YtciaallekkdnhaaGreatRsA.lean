/-
  Reference 07: In, measure, before, less, Touches.
-/
import Derived.Test.YtciaallekkdnhaaGreatRwB
import Derived.Test.YtciaallekkdnhaaGreatJf
import Derived.Test.YtciaallekkdnhaaGreatJx
import Derived.Test.YtciaallekkdnhaaGreatJc
import Derived.Deep.DeepCutAuto
import Derived.StillTailTactics
namespace Go.Proofs.YtciaallekkdnhaaGreat
open Go.RowKit

set_option maxRecDepth 100000 in
set_option maxHeartbeats 1000000 in
theorem rin_any (q : Qry) (r : RowV) (e : Bool) (w : World) : Calls Tryz.prog 73 #[q.val, r.val, .bool e] w fun e' w' => e' = .returned (.bool (e && Pm.inq q r)) ∧ Fr [] w w' := by
  have F0 : Hid (Fr [] w ((w.alloc (.cells #[.int .i64 q.kind, .int .i64 q.table, .int .i64 q.column, .int .i64 q.low, .int .i64 q.high, .int .i64 q.by_, .int .i64 q.other] 35)).alloc (.cells #[.int .i64 r.t, .int .i64 r.k, .int .i64 r.x, .int .i64 r.y, .int .i64 r.z] 116))) := Lib.hid (((Fr.refl [] w).alloc _).alloc _)
  have HQ : Hid (QAt ((w.alloc (.cells #[.int .i64 q.kind, .int .i64 q.table, .int .i64 q.column, .int .i64 q.low, .int .i64 q.high, .int .i64 q.by_, .int .i64 q.other] 35)).alloc (.cells #[.int .i64 r.t, .int .i64 r.k, .int .i64 r.x, .int .i64 r.y, .int .i64 r.z] 116)) w.heap.size q) := Lib.hid (Blk.alloc (QAt.new w q) _)
  have hb := Blk.new (w.alloc (.cells #[.int .i64 q.kind, .int .i64 q.table, .int .i64 q.column, .int .i64 q.low, .int .i64 q.high, .int .i64 q.by_, .int .i64 q.other] 35)) 116 #[.int .i64 r.t, .int .i64 r.k, .int .i64 r.x, .int .i64 r.y, .int .i64 r.z]
  rw [World.size_alloc] at hb
  have HR : Hid (Blk ((w.alloc (.cells #[.int .i64 q.kind, .int .i64 q.table, .int .i64 q.column, .int .i64 q.low, .int .i64 q.high, .int .i64 q.by_, .int .i64 q.other] 35)).alloc (.cells #[.int .i64 r.t, .int .i64 r.k, .int .i64 r.x, .int .i64 r.y, .int .i64 r.z] 116)) (w.heap.size + 1) 116 #[.int .i64 r.t, .int .i64 r.k, .int .i64 r.x, .int .i64 r.y, .int .i64 r.z]) := Lib.hid hb
  clear hb
  obtain ⟨v, HV⟩ : ∃ v, Hid (r.value q.column = v) := ⟨_, Lib.hid rfl⟩
  have HC := Lib.hid (fun W => rfValue_any r q.column W)
  rw [HV.out] at HC
  have HI : Hid (Pm.inq q r = (decide (r.t = q.table) && (decide (q.low ≤ v) && decide (v ≤ q.high)))) := Lib.hid (by rw [← HV.out]; rfl)
  obtain ⟨o, HRES⟩ : ∃ o, Hid ((e && Pm.inq q r) = o) := ⟨_, Lib.hid rfl⟩
  rw [HRES.out]
  rw [HI.out] at HRES
  go_enter Tryz.func73, Tryz.ntmps73
  go_upto_region 1 with (fail)
  generalize ((w.alloc (.cells #[.int .i64 q.kind, .int .i64 q.table, .int .i64 q.column, .int .i64 q.low, .int .i64 q.high, .int .i64 q.by_, .int .i64 q.other] 35)).alloc (.cells #[.int .i64 r.t, .int .i64 r.k, .int .i64 r.x, .int .i64 r.y, .int .i64 r.z] 116)) = w2 at *
  have hr := HR.out
  have q2 := HQ.out.c2
  go_upto_region 2 with (first
    | (refine wpList_load_row rfl _ _ rfl (w.heap.size + 1) rfl 116 _ (0, 0) _ hr Tryz.underlying116 rfl (by kernel_rfl) ?_)
    | (go_at_call 120; refine (HC.out _).mono ?_; rintro e w3 ⟨rfl, f3⟩; have F3 := Lib.hid f3; clear f3))
  clear hr q2 HC HI HV
  replace F0 := Lib.hid (F0.out.trans F3.out)
  have q1 := (HQ.out.fr F3.out (by simp)).c1
  have q3 := (HQ.out.fr F3.out (by simp)).c3
  have q4 := (HQ.out.fr F3.out (by simp)).c4
  have r0 := (HR.out.fr F3.out (by simp)).cell 0
  have r0 : w3.cell? ⟨w.heap.size + 1, 0, none⟩ = some (.int .i64 r.t) := r0
  clear F3 HQ HR
  cases e
  · have HO : Hid (o = false) := Lib.hid (by rw [← HRES.out]; rfl)
    go_wp2_with fail
    go_ret
    exact ⟨by rw [HO.out]; rfl, F0.out⟩
  · by_cases e1 : r.t = q.table
    · have e1' : (r.t == q.table) = true := by simpa using e1
      by_cases e2 : q.low ≤ v
      · by_cases e3 : v ≤ q.high
        · have HO : Hid (o = true) := Lib.hid (by rw [← HRES.out]; simp [e1, e2, e3])
          clear e1
          go_wp2_with fail
          go_ret
          exact ⟨by rw [HO.out]; rfl, F0.out⟩
        · have HO : Hid (o = false) := Lib.hid (by rw [← HRES.out]; simp [e1, e2, e3])
          have e3' : decide (v ≤ q.high) = false := decide_eq_false e3
          clear e1
          go_wp2_with fail
          go_ret
          exact ⟨by rw [HO.out]; rfl, F0.out⟩
      · have HO : Hid (o = false) := Lib.hid (by rw [← HRES.out]; simp [e1, e2])
        have e2' : decide (q.low ≤ v) = false := decide_eq_false e2
        clear e1
        go_wp2_with fail
        go_ret
        exact ⟨by rw [HO.out]; rfl, F0.out⟩
    · have HO : Hid (o = false) := Lib.hid (by rw [← HRES.out]; simp [e1])
      have e1' : (r.t == q.table) = false := by simpa using e1
      clear e1
      go_wp2_with fail
      go_ret
      exact ⟨by rw [HO.out]; rfl, F0.out⟩

set_option maxRecDepth 100000 in
set_option maxHeartbeats 1000000 in
theorem rmeasure_any (q : Qry) (r : RowV) (i : Bool) (w : World) : Calls Tryz.prog 74 #[q.val, r.val, .bool i] w fun e' w' => e' = .returned (.int .i64 (if i = true then r.value q.by_ else 0)) ∧ Fr [] w w' := by
  have F0 : Hid (Fr [] w ((w.alloc (.cells #[.int .i64 q.kind, .int .i64 q.table, .int .i64 q.column, .int .i64 q.low, .int .i64 q.high, .int .i64 q.by_, .int .i64 q.other] 35)).alloc (.cells #[.int .i64 r.t, .int .i64 r.k, .int .i64 r.x, .int .i64 r.y, .int .i64 r.z] 116))) := Lib.hid (((Fr.refl [] w).alloc _).alloc _)
  have HQ : Hid (QAt ((w.alloc (.cells #[.int .i64 q.kind, .int .i64 q.table, .int .i64 q.column, .int .i64 q.low, .int .i64 q.high, .int .i64 q.by_, .int .i64 q.other] 35)).alloc (.cells #[.int .i64 r.t, .int .i64 r.k, .int .i64 r.x, .int .i64 r.y, .int .i64 r.z] 116)) w.heap.size q) := Lib.hid (Blk.alloc (QAt.new w q) _)
  have hb := Blk.new (w.alloc (.cells #[.int .i64 q.kind, .int .i64 q.table, .int .i64 q.column, .int .i64 q.low, .int .i64 q.high, .int .i64 q.by_, .int .i64 q.other] 35)) 116 #[.int .i64 r.t, .int .i64 r.k, .int .i64 r.x, .int .i64 r.y, .int .i64 r.z]
  rw [World.size_alloc] at hb
  have HR : Hid (Blk ((w.alloc (.cells #[.int .i64 q.kind, .int .i64 q.table, .int .i64 q.column, .int .i64 q.low, .int .i64 q.high, .int .i64 q.by_, .int .i64 q.other] 35)).alloc (.cells #[.int .i64 r.t, .int .i64 r.k, .int .i64 r.x, .int .i64 r.y, .int .i64 r.z] 116)) (w.heap.size + 1) 116 #[.int .i64 r.t, .int .i64 r.k, .int .i64 r.x, .int .i64 r.y, .int .i64 r.z]) := Lib.hid hb
  clear hb
  obtain ⟨v, HV⟩ : ∃ v, Hid (r.value q.by_ = v) := ⟨_, Lib.hid rfl⟩
  have HC := Lib.hid (fun W => rfValue_any r q.by_ W)
  rw [HV.out] at HC ⊢
  clear HV
  obtain ⟨o, HRES⟩ : ∃ o, Hid ((if i = true then v else 0) = o) := ⟨_, Lib.hid rfl⟩
  rw [HRES.out]
  go_enter Tryz.func74, Tryz.ntmps74
  go_upto_region 1 with (fail)
  generalize ((w.alloc (.cells #[.int .i64 q.kind, .int .i64 q.table, .int .i64 q.column, .int .i64 q.low, .int .i64 q.high, .int .i64 q.by_, .int .i64 q.other] 35)).alloc (.cells #[.int .i64 r.t, .int .i64 r.k, .int .i64 r.x, .int .i64 r.y, .int .i64 r.z] 116)) = w2 at *
  cases i
  · have HO : Hid (o = 0) := Lib.hid (by rw [← HRES.out]; rfl)
    go_wp2_with fail
    go_ret
    exact ⟨by rw [HO.out]; rfl, F0.out⟩
  · have HO : Hid (o = v) := Lib.hid (by rw [← HRES.out]; rfl)
    have hr := HR.out
    have q5 := HQ.out.c5
    go_wp2_with (first
      | (refine wpList_load_row rfl _ _ rfl (w.heap.size + 1) rfl 116 _ (0, 0) _ hr Tryz.underlying116 rfl (by kernel_rfl) ?_)
      | (go_at_call 120; refine (HC.out _).mono ?_; rintro e w3 ⟨rfl, f3⟩; have F3 := Lib.hid f3; clear f3))
    go_ret
    exact ⟨by rw [HO.out]; rfl, F0.out.trans F3.out⟩

end Go.Proofs.YtciaallekkdnhaaGreat
