/-
  row.Before; law 06's in; a change that concerns no row of a range.
-/
import Derived.Test.YthiaaminkfkjpaaEbg
import Derived.BigQuiet
namespace Go.Proofs.Ythiaaminkfkjpaa
open Go.RowKit

theorem after_any (c : Chg) (w : World) : Calls Try.prog 29 #[c.val] w fun e w' => ∃ t k x y z, e = .returned (.tuple #[.agg #[.int .i64 t, .int .i64 k, .int .i64 x, .int .i64 y, .int .i64 z], .bool c.has]) ∧ Fr [] w w' ∧ (c.has = true → t = c.t ∧ k = c.k ∧ x = c.n0 ∧ y = c.n1 ∧ z = c.n2) := by
  cases h : c.has with
  | false => exact (after_no c h w).mono fun e w' hh => ⟨_, _, _, _, _, hh.1, hh.2, fun h => by cases h⟩
  | true => exact (after_yes c h w).mono fun e w' hh => ⟨_, _, _, _, _, hh.1, hh.2, fun _ => ⟨rfl, rfl, rfl, rfl, rfl⟩⟩
namespace Em
def beforeR (c : Chg) : RowV := ⟨c.t, c.k, c.o0, c.o1, c.o2⟩
theorem filter_put1 {M : List (IdK × RowV)} (hn : Nd M) (hk : Sm.KeyOk M) {c : Chg} (hid : (idOf c.t c.k).1 = (c.t, c.k)) (hm : Sm.meets M c = true) {p : RowV → Bool} (h1 : c.had = true → p (beforeR c) = false) (h2 : c.has = true → p (Sm.after c) = false) :
    ((Sm.put1 M c).map (·.2)).filter p = (M.map (·.2)).filter p := by
  have hdel : ((mdel M (idOf c.t c.k)).map (·.2)).filter p = (M.map (·.2)).filter p := by
    unfold mdel
    have hp : ∀ e ∈ M, e.1 = idOf c.t c.k → p e.2 = false := by
      intro e he hee
      have hg : mget M (idOf c.t c.k) = some e.2 := (mget_iff hn).2 (by rw [← hee]; exact he)
      unfold Sm.meets at hm
      rw [hg] at hm
      simp only [Bool.and_eq_true, decide_eq_true_eq] at hm
      have hke := hk e he
      rw [hee, hid] at hke
      injection hke with e1 e2
      have : e.2 = beforeR c := by
        unfold beforeR
        rw [e1, e2, ← hm.2.1, ← hm.2.2.1, ← hm.2.2.2]
      rw [this]
      exact h1 hm.1
    clear hm hn hk
    induction M with
    | nil => rfl
    | cons e M ih =>
      have ih' := ih (fun e' he' => hp e' (by simp [he']))
      by_cases hee : e.1 = idOf c.t c.k
      · rw [List.filter_cons_of_neg (by simp [hee]), ih', List.map_cons, List.filter_cons_of_neg (by simp [hp e (by simp) hee])]
      · rw [List.filter_cons_of_pos (by simp [hee]), List.map_cons, List.map_cons]
        simp only [List.filter_cons]
        split <;> rw [ih']
  unfold Sm.put1
  split
  · rename_i hh
    unfold mput
    rw [List.map_cons, List.filter_cons_of_neg (by simp [h2 hh])]
    exact hdel
  · exact hdel
theorem res_indep {q : Qry} {rows o1 o2 : List RowV} (h : q.kind ≠ 7) : res q rows o1 = res q rows o2 := by
  unfold res
  split
  · repeat (first | rw [if_neg h] | (split; rfl))
    rfl
  · rfl
theorem sel_put1 {s s' : Sm.Sta} (ho : Sm.Ok s) {c : Chg} (hM : s'.M = Sm.put1 s.M c) (hid : (idOf c.t c.k).1 = (c.t, c.k)) (hm : Sm.meets s.M c = true) {p : RowV → Bool} (h1 : c.had = true → p (beforeR c) = false) (h2 : c.has = true → p (Sm.after c) = false) (col : Int) :
    sel s' col p = sel s col p := by
  unfold sel
  rw [hM, filter_put1 ho.nd ho.key hid hm h1 h2]
theorem of_local {s s' : Sm.Sta} (ho : Sm.Ok s) {c : Chg} {q : Qry} (hM : s'.M = Sm.put1 s.M c) (hid : (idOf c.t c.k).1 = (c.t, c.k)) (hm : Sm.meets s.M c = true) (h1 : c.had = true → inRng q.table q.column q.low q.high (beforeR c) = false) (h2 : c.has = true → inRng q.table q.column q.low q.high (Sm.after c) = false)
    (h3 : q.kind = 7 → c.t ≠ q.other) : of s' q = of s q := by
  have hsc : scan s' q = scan s q := sel_put1 ho hM hid hm h1 h2 _
  unfold of
  rw [hsc]
  by_cases h7 : q.kind = 7
  · have ht : tab s' q.other = tab s q.other := sel_put1 ho hM hid hm (fun _ => decide_eq_false (h3 h7)) (fun _ => decide_eq_false (h3 h7)) _
    rw [ht]
  · exact res_indep h7
end Em
theorem RecsAt.fr0 {w w' : World} {A : Option Addr} {l : List Rec} (h : RecsAt w A l) (hf : Fr [] w w') : RecsAt w' A l := by
  obtain ⟨us, h1, h2, h3⟩ := h
  exact ⟨us, h1.fr0 hf, h2, fun u hu => ⟨(h3 u hu).1.fr hf NoC.nil, (h3 u hu).2⟩⟩
theorem CgOk.last {l : List Rec} (h : CgOk l) {n : Nat} (hn : l.length = n + 1) : ∃ p c, ∃ hi : n < l.length, l[n] = ⟨p, [c]⟩ ∧ CgC c ∧ Rw.chg c = true ∧ (idOf c.t c.k).1 = (c.t, c.k) ∧ Sm.meets (Lg.run (l.take n)).M c = true ∧ (Lg.run (l.take (n + 1))).M = Sm.put1 (Lg.run (l.take n)).M c := by
  have hi : n < l.length := by omega
  obtain ⟨c, hc, hcc⟩ := h.one _ (List.getElem_mem hi)
  have hf := h.fits n hi
  have hap := (Lg.fits_pos hf).2
  rw [← Lg.run_succ l hi] at hap
  have hf2 := hf
  simp only [Sm.fits, Bool.and_eq_true, decide_eq_true_eq] at hf2
  have hch := (Rw.valid_all hf2.1.1).1 c (by rw [hc]; simp)
  have hms := Sm.fitsGo_meets _ _ _ hf2.2 c (by rw [hc]; simp)
  refine ⟨l[n].p, c, hi, ?_, hcc, hch, Rw.chg_id hch, hms, ?_⟩
  · rw [← hc]
  · rw [hap, hc]
    rfl
end Go.Proofs.Ythiaaminkfkjpaa
