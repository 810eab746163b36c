/-
  EvalPairs: the walk of the law.
-/
import Derived.Test.YthiaaminkfkjpaaEbg
import Derived.Test.YthiaaminkfkjpaaEaw
import Derived.BigQuiet
namespace Go.Proofs.Ythiaaminkfkjpaa
open Go.RowKit

namespace Em
theorem partner_get {s : Sm.Sta} (ho : Sm.Ok s) {t k : Int} (ht : okI t) (hk : okI k) : partner (tab s t) t k = mget s.M (idOf t k) := by
  have hp := sel_picked s 0 (inTab t)
  have hm : ∀ r, r ∈ tab s t ↔ r ∈ s.M.map (·.2) ∧ r.t = t := fun r => by
    unfold tab
    rw [hp.perm.mem_iff, List.mem_filter]
    simp [inTab]
  unfold partner
  cases hf : (tab s t).find? (fun x => decide (x.t = t) && decide (x.k = k)) with
  | some r =>
    have h1 := List.find?_some hf
    have h2 := List.mem_of_find?_eq_some hf
    simp only [Bool.and_eq_true, decide_eq_true_eq] at h1
    exact ((Sm.mem_of_mget ho.nd ho.key ht hk).2 ⟨((hm r).1 h2).1, h1.1, h1.2⟩).symm
  | none =>
    cases hg : mget s.M (idOf t k) with
    | none => rfl
    | some r =>
      obtain ⟨h1, h2, h3⟩ := (Sm.mem_of_mget ho.nd ho.key ht hk).1 hg
      have h4 := List.find?_eq_none.1 hf r ((hm r).2 ⟨h1, h2⟩)
      simp [h2, h3] at h4
theorem joined_even (q : Qry) (others : List RowV) : ∀ rows : List RowV, (joined q rows others).length % 2 = 0
  | [] => by simp [joined]
  | r :: l => by
    have h := joined_even q others l
    unfold joined at *
    rw [List.flatMap_cons, List.length_append]
    have : (pair q others r).length % 2 = 0 := by unfold pair; split <;> simp
    omega
theorem joined_at (q : Qry) (others : List RowV) {rows : List RowV} {k : Nat} (hk : k < rows.length) : joined q rows others = joined q (rows.take k) others ++ (pair q others rows[k] ++ joined q (rows.drop (k + 1)) others) := by
  unfold joined
  conv => lhs; rw [← List.take_append_drop k rows, List.drop_eq_getElem_cons hk, List.flatMap_append, List.flatMap_cons]
theorem joined_succ (q : Qry) (others : List RowV) {rows : List RowV} {k : Nat} (hk : k < rows.length) : joined q (rows.take (k + 1)) others = joined q (rows.take k) others ++ pair q others rows[k] := by
  unfold joined
  rw [List.take_succ_eq_append_getElem hk, List.flatMap_append]
  simp
end Em

end Go.Proofs.Ythiaaminkfkjpaa
