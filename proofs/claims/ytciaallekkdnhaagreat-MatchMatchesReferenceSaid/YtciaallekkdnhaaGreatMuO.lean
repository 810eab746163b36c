/-
  An argument that is a slice of changes.
-/
import Derived.Test.YtciaallekkdnhaaGreatJs
import Derived.Test.YtciaallekkdnhaaGreatJk
namespace Go.Proofs.YtciaallekkdnhaaGreat
open Go.RowKit Go.WideShapes Go.ChangeShapes

theorem ChgFit.rows {c : Chg} (h : ChgFit c) : okI c.t ∧ ∀ r ∈ Mm.rows c, ∀ k, okI (r.value k) := ⟨h.t, rows_okI h.k h.o0 h.o1 h.o2 h.n0 h.n1 h.n2⟩
set_option maxRecDepth 100000 in
theorem open_chgsA {H : Type} {enc : TypeId × Value → H} {W : World} {base : Nat} {v : Value} {d : DataW H} {p : List MemPlace} (hv : Value.okWide Tryz.prog W .any base 24 v)
    (h : DataW.Trod enc Tryz.prog W 0 (fun _ => true) true 24 v d p) :
    ∃ A n cap cs, v = .slice A n cap ∧ n ≤ cap ∧ cap ≤ maxLen ∧ cs.length = n ∧ ChgsAt W A cs ∧ ∀ c ∈ cs, ChgFit c := by
  obtain ⟨a0, len, cap, rfl⟩ := okWide_slice Tryz.underlying24 hv
  obtain ⟨fuel, hf⟩ := h
  exact open_chgs hf
end Go.Proofs.YtciaallekkdnhaaGreat
