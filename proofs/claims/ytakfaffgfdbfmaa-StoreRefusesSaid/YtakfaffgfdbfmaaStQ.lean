/-
  What makes a record that fits unfit.
-/
import Derived.Test.YtakfaffgfdbfmaaStU
namespace Go.Proofs.Ytakfaffgfdbfmaa
namespace Sm

theorem refuse_pos {s : Sta} {r : Rec} (h : fits s r = true) {p : Int} (hp : p ≠ r.p) : fits s ⟨p, r.cs⟩ = false := by
  simp only [fits, Bool.and_eq_true, decide_eq_true_eq] at h
  have h1 : ¬ p = s.pos + 1 := by rw [← h.1.2]; exact hp
  simp [fits, h1]
theorem refuse_nil (s : Sta) (p : Int) : fits s ⟨p, []⟩ = false := by
  simp [fits, Rw.valid, Rw.inI]
theorem refuse_meets {s : Sta} {r : Rec} {c : Chg} (hc : c ∈ r.cs) (hm : meets s.M c = false) : fits s r = false := by
  apply Bool.eq_false_iff.2
  intro h
  simp only [fits, Bool.and_eq_true] at h
  have := ((fitsGo_iff _ _ _).1 h.2).1 c hc
  rw [hm] at this
  cases this
theorem refuse_chg {s : Sta} {r : Rec} {c : Chg} (hc : c ∈ r.cs) (hm : Rw.chg c = false) : fits s r = false := by
  apply Bool.eq_false_iff.2
  intro h
  simp only [fits, Bool.and_eq_true] at h
  have := (Rw.valid_all h.1.1).1 c hc
  rw [hm] at this
  cases this
/-- The first damage: what was there is denied, or the other way round. -/
def dmg1 (c : Chg) : Chg := { c with had := !c.had, o0 := 0, o1 := 0, o2 := 0 }
/-- The second damage: an old value is another. -/
def dmg2 (c : Chg) : Chg := { c with o1 := c.o1 + 1 }
theorem refuse1 {s : Sta} {r : Rec} (h : fits s r = true) {i : Nat} (hi : i < r.cs.length) (p : Int) : fits s ⟨p, r.cs.set i (dmg1 r.cs[i])⟩ = false := by
  refine refuse_meets (c := dmg1 r.cs[i]) (List.mem_iff_getElem.2 ⟨i, by simpa using hi, by simp⟩) ?_
  simp only [fits, Bool.and_eq_true] at h
  have hm := ((fitsGo_iff _ _ _).1 h.2).1 _ (List.getElem_mem hi)
  generalize r.cs[i] = c at hm
  unfold meets dmg1 at *
  dsimp only at *
  revert hm
  cases mget s.M (idOf c.t c.k) with
  | none => cases c.had <;> simp
  | some q => cases c.had <;> simp
theorem refuse2 {s : Sta} {r : Rec} (h : fits s r = true) {i : Nat} (hi : i < r.cs.length) (p : Int) : fits s ⟨p, r.cs.set i (dmg2 r.cs[i])⟩ = false := by
  have hmem : dmg2 r.cs[i] ∈ (⟨p, r.cs.set i (dmg2 r.cs[i])⟩ : Rec).cs := List.mem_iff_getElem.2 ⟨i, by simpa using hi, by simp⟩
  simp only [fits, Bool.and_eq_true] at h
  have hm := ((fitsGo_iff _ _ _).1 h.2).1 _ (List.getElem_mem hi)
  have hv := (Rw.valid_all h.1.1).1 _ (List.getElem_mem hi)
  by_cases hh : r.cs[i].had = true
  · refine refuse_meets hmem ?_
    generalize r.cs[i] = c at hm hh
    unfold meets dmg2 at *
    dsimp only at *
    revert hm
    cases mget s.M (idOf c.t c.k) with
    | none => simp [hh]
    | some q =>
      simp only [hh, Bool.true_and, decide_eq_true_eq, decide_eq_false_iff_not]
      intro h1 h2
      omega
  · refine refuse_chg hmem ?_
    generalize r.cs[i] = c at hv hh
    have hh' : c.had = false := by simpa using hh
    have h0 : c.o1 = 0 := by
      simp only [Rw.chg, Rw.sound, hh', Bool.and_eq_true] at hv
      have h2 := hv.1.2
      simp at h2
      exact h2.2.1
    simp [Rw.chg, Rw.sound, dmg2, hh', h0]
theorem refused {s : Sta} {r : Rec} (h : fits s r = false) : code s r = 40 ∧ apply s r = s := by
  constructor
  · unfold code; rw [if_neg (by simp [h])]
  · unfold apply; rw [if_neg (by simp [h])]
theorem fits_len {s : Sta} {r : Rec} (h : fits s r = true) : 1 ≤ r.cs.length ∧ r.cs.length ≤ 8 := by
  simp only [fits, Rw.valid, Rw.inI, Bool.and_eq_true, decide_eq_true_eq] at h
  have := h.1.1.1.2
  omega
end Sm
end Go.Proofs.Ytakfaffgfdbfmaa
