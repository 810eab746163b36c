/-
  The rows of a change as reference 03 gives them.
-/
import Derived.Test.YtciaallekkdnhaaGreatJf
import Derived.Test.YtciaallekkdnhaaGreatJc
namespace Go.Proofs.YtciaallekkdnhaaGreat
open Go.RowKit

namespace Pm
/-- The row before or behind a change, zero if there is none. -/
def rowB (c : Chg) : RowV := if c.had = true then ⟨c.t, c.k, c.o0, c.o1, c.o2⟩ else ⟨0, 0, 0, 0, 0⟩
def rowA (c : Chg) : RowV := if c.has = true then ⟨c.t, c.k, c.n0, c.n1, c.n2⟩ else ⟨0, 0, 0, 0, 0⟩
theorem inB (q : Qry) (c : Chg) : (c.had && inq q (rowB c)) = (B q c).isSome := by
  unfold B sc bef rowB
  cases c.had with
  | false => rfl
  | true =>
    rw [if_pos rfl, if_pos rfl]
    cases h : inq q ⟨c.t, c.k, c.o0, c.o1, c.o2⟩ <;> simp [Option.filter, h]
theorem inA (q : Qry) (c : Chg) : (c.has && inq q (rowA c)) = (A q c).isSome := by
  unfold A sc aft rowA
  cases c.has with
  | false => rfl
  | true =>
    rw [if_pos rfl, if_pos rfl]
    cases h : inq q ⟨c.t, c.k, c.n0, c.n1, c.n2⟩ <;> simp [Option.filter, h]
theorem B_some {q : Qry} {c : Chg} {b : RowV} (h : B q c = some b) : b = rowB c := by
  unfold B sc bef at h
  unfold rowB
  cases hh : c.had with
  | false => rw [hh] at h; cases h
  | true =>
    rw [hh, if_pos rfl] at h
    rw [if_pos rfl]
    cases hi : inq q ⟨c.t, c.k, c.o0, c.o1, c.o2⟩ <;> simp [Option.filter, hi] at h
    exact h.symm
theorem A_some {q : Qry} {c : Chg} {b : RowV} (h : A q c = some b) : b = rowA c := by
  unfold A sc aft at h
  unfold rowA
  cases hh : c.has with
  | false => rw [hh] at h; cases h
  | true =>
    rw [hh, if_pos rfl] at h
    rw [if_pos rfl]
    cases hi : inq q ⟨c.t, c.k, c.n0, c.n1, c.n2⟩ <;> simp [Option.filter, hi] at h
    exact h.symm
theorem mB (q : Qry) (c : Chg) : (if (B q c).isSome = true then (rowB c).value q.by_ else 0) = old q c := by
  unfold old
  cases h : B q c with
  | none => rfl
  | some b => rw [B_some h]; rfl
theorem mA (q : Qry) (c : Chg) : (if (A q c).isSome = true then (rowA c).value q.by_ else 0) = now q c := by
  unfold now
  cases h : A q c with
  | none => rfl
  | some b => rw [A_some h]; rfl
end Pm
theorem rhad_row (c : Chg) (w : World) : Calls Tryz.prog 71 #[c.val] w fun e w' => e = .returned (.tuple #[(Pm.rowB c).val, .bool c.had]) ∧ Fr [] w w' := by
  have h := rfBefore_any c w
  have e : (if c.had = true then rowVal c.t c.k c.o0 c.o1 c.o2 else rowVal 0 0 0 0 0) = (Pm.rowB c).val := by
    unfold Pm.rowB
    split <;> rfl
  rw [e] at h
  exact h
theorem rhas_row (c : Chg) (w : World) : Calls Tryz.prog 72 #[c.val] w fun e w' => e = .returned (.tuple #[(Pm.rowA c).val, .bool c.has]) ∧ Fr [] w w' := by
  have h := rfAfter_any c w
  have e : (if c.has = true then rowVal c.t c.k c.n0 c.n1 c.n2 else rowVal 0 0 0 0 0) = (Pm.rowA c).val := by
    unfold Pm.rowA
    split <;> rfl
  rw [e] at h
  exact h
end Go.Proofs.YtciaallekkdnhaaGreat
