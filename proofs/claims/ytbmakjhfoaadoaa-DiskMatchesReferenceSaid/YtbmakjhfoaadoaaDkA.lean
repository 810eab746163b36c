/-
  A disk in memory; contracts of the small methods.
-/
import Derived.Test.YtbmakjhfoaadoaaDkP
import Derived.Test.YtbmakjhfoaadoaaOk
import Derived.Test.YtbmakjhfoaadoaaRow2
import Derived.Lib.BufferWrite
import Derived.IntWalk
namespace Go.Proofs.Ytbmakjhfoaadoaa
open Go.RowKit

def Dm.Wr.cells (u : Dm.Wr) : List Value := [.int .i64 u.off, .string ⟨u.s.toArray⟩]
theorem Dm.Wr.cells_len (u : Dm.Wr) : u.cells.length = 2 := rfl
theorem Dm.Wr.cells_one (u : Dm.Wr) : ∀ v ∈ u.cells, v.oneCell' = true := by
  intro v hv
  simp only [Dm.Wr.cells, List.mem_cons, List.not_mem_nil, or_false] at hv
  rcases hv with rfl | rfl <;> rfl
def diskCells (d : Dm.Dk) (gs gv : Nat) (vp : Value) : Array Value := #[.bool d.off, .int .i64 d.left, .slice (some ⟨gs, 0, none⟩) d.sure.length d.sure.length, .slice (some ⟨gv, 0, none⟩) d.sure.length d.sure.length, vp]
/-- At block b lies the disk d: its contents at gs and gv, its pending writes in vp. -/
structure DiskAt (w : World) (b gs gv : Nat) (vp : Value) (d : Dm.Dk) : Prop where
  blk : Blk w b 65 (diskCells d gs gv vp)
  sure : Blk w gs 5 (Lib.byteCells d.sure).toArray
  vis : Blk w gv 5 (Lib.byteCells d.vis).toArray
  pend : OwnL 69 2 Dm.Wr.cells w vp d.pend
  ne : gs ≠ gv
  ok : Dm.Ok d
theorem DiskAt.fr0 {w w' : World} {b gs gv : Nat} {vp : Value} {d : Dm.Dk} (h : DiskAt w b gs gv vp d) (hf : Fr [] w w') : DiskAt w' b gs gv vp d :=
  ⟨h.blk.fr hf (by simp), h.sure.fr hf (by simp), h.vis.fr hf (by simp), h.pend.fr hf (by simp), h.ne, h.ok⟩
theorem check_nil (w : World) : Calls Try.prog 28 #[.pointer none] w fun e w' => e = .returned (.int .i64 1) ∧ w = w' := by
  go_enter Try.func28, Try.ntmps28
  go_wp2
  go_ret
  exact ⟨rfl, rfl⟩
theorem check_any (b gs gv : Nat) (vp : Value) (d : Dm.Dk) (w : World) (h : DiskAt w b gs gv vp d) : Calls Try.prog 28 #[.pointer (some ⟨b, 0, none⟩)] w fun e w' => e = .returned (.int .i64 (if d.off = true then 221 else 0)) ∧ w = w' := by
  have b0 : w.cell? ⟨b, 0, none⟩ = some (.bool d.off) := h.blk.cell 0
  go_enter Try.func28, Try.ntmps28
  cases hd : d.off
  · rw [hd] at b0
    go_wp2
    go_ret
    exact ⟨rfl, rfl⟩
  · rw [hd] at b0
    go_wp2
    go_ret
    exact ⟨rfl, rfl⟩
theorem size_nil (w : World) : Calls Try.prog 16 #[.pointer none] w fun e w' => e = .returned (.int .i64 0) ∧ w = w' := by
  go_enter Try.func16, Try.ntmps16
  go_wp2
  go_ret
  exact ⟨rfl, rfl⟩
theorem size_any (b gs gv : Nat) (vp : Value) (d : Dm.Dk) (w : World) (h : DiskAt w b gs gv vp d) : Calls Try.prog 16 #[.pointer (some ⟨b, 0, none⟩)] w fun e w' => e = .returned (.int .i64 d.sure.length) ∧ w = w' := by
  have b2 : w.cell? ⟨b, 2, none⟩ = some (.slice (some ⟨gs, 0, none⟩) d.sure.length d.sure.length) := h.blk.cell 2
  go_enter Try.func16, Try.ntmps16
  go_wp2
  go_ret
  exact ⟨rfl, rfl⟩
theorem pending_nil (w : World) : Calls Try.prog 17 #[.pointer none] w fun e w' => e = .returned (.int .i64 0) ∧ w = w' := by
  go_enter Try.func17, Try.ntmps17
  go_wp2
  go_ret
  exact ⟨rfl, rfl⟩
theorem pending_any (b gs gv : Nat) (vp : Value) (d : Dm.Dk) (w : World) (h : DiskAt w b gs gv vp d) : Calls Try.prog 17 #[.pointer (some ⟨b, 0, none⟩)] w fun e w' => e = .returned (.int .i64 d.pend.length) ∧ w = w' := by
  obtain ⟨A, cap, hv⟩ := h.pend.val
  subst hv
  have b4 : w.cell? ⟨b, 4, none⟩ = some (.slice A d.pend.length cap) := h.blk.cell 4
  go_enter Try.func17, Try.ntmps17
  go_wp2
  go_ret
  exact ⟨rfl, rfl⟩
theorem inside_any (b gs gv : Nat) (vp : Value) (d : Dm.Dk) (off n : Int) (w : World) (h : DiskAt w b gs gv vp d) (ho : okI off) : Calls Try.prog 29 #[.pointer (some ⟨b, 0, none⟩), .int .i64 off, .int .i64 n] w fun e w' => e = .returned (.bool (Dm.inside d off n)) ∧ w = w' := by
  have b2 : w.cell? ⟨b, 2, none⟩ = some (.slice (some ⟨gs, 0, none⟩) d.sure.length d.sure.length) := h.blk.cell 2
  have hb := okI_bounds ho
  have h2 := h.ok.n2
  have HI : Hid (Dm.inside d off n = decide (0 ≤ off ∧ 0 ≤ n ∧ off ≤ d.sure.length ∧ n ≤ (d.sure.length : Int) - off)) := Lib.hid rfl
  clear h
  go_enter Try.func29, Try.ntmps29
  by_cases h1 : 0 ≤ off
  · by_cases h3 : 0 ≤ n
    · by_cases h4 : off ≤ d.sure.length
      · by_cases h5 : n ≤ (d.sure.length : Int) - off
        · have HR : Hid (Dm.inside d off n = true) := Lib.hid (by rw [HI.out, decide_eq_true ⟨h1, h3, h4, h5⟩])
          go_wp2
          go_ret
          exact ⟨by rw [HR.out]; rfl, rfl⟩
        · have HR : Hid (Dm.inside d off n = false) := Lib.hid (by rw [HI.out, decide_eq_false (fun h => h5 h.2.2.2)])
          go_wp2
          go_ret
          exact ⟨by rw [HR.out]; rfl, rfl⟩
      · have HR : Hid (Dm.inside d off n = false) := Lib.hid (by rw [HI.out, decide_eq_false (fun h => h4 h.2.2.1)])
        go_wp2
        go_ret
        exact ⟨by rw [HR.out]; rfl, rfl⟩
    · have HR : Hid (Dm.inside d off n = false) := Lib.hid (by rw [HI.out, decide_eq_false (fun h => h3 h.2.1)])
      go_wp2
      go_ret
      exact ⟨by rw [HR.out]; rfl, rfl⟩
  · have HR : Hid (Dm.inside d off n = false) := Lib.hid (by rw [HI.out, decide_eq_false (fun h => h1 h.1)])
    go_wp2
    go_ret
    exact ⟨by rw [HR.out]; rfl, rfl⟩
end Go.Proofs.Ytbmakjhfoaadoaa
