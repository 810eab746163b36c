/-
  PLAIN LAWS of a state: what a record that fits leaves.
-/
import Derived.Test.YthiaaminkfkjpaaEae
namespace Go.Proofs.Ythiaaminkfkjpaa

theorem Rw.chg_bounds {c : Chg} (h : Rw.chg c = true) : 0 ≤ c.t ∧ c.t ≤ 3 ∧ 1 ≤ c.k ∧ c.k ≤ 1000000 := by
  simp only [Rw.chg, Bool.and_eq_true] at h
  obtain ⟨⟨h1, h2⟩, h3⟩ := h
  have hr : ∀ a b d, Rw.row c.t c.k a b d = true → 0 ≤ c.t ∧ c.t ≤ 3 ∧ 1 ≤ c.k ∧ c.k ≤ 1000000 := by
    intro a b d hh
    simp only [Rw.row, Rw.inI, Bool.and_eq_true, decide_eq_true_eq] at hh
    omega
  cases hh : c.had
  · cases ha : c.has
    · simp [Rw.turns, hh, ha] at h1
    · rw [ha] at h3
      exact hr _ _ _ h3
  · rw [hh] at h2
    exact hr _ _ _ h2
theorem Rw.chg_id {c : Chg} (h : Rw.chg c = true) : (idOf c.t c.k).1 = (c.t, c.k) := by
  obtain ⟨h1, h2, h3, h4⟩ := Rw.chg_bounds h
  exact idOf_val (okI_mk (by omega) (by omega)) (okI_mk (by omega) (by omega))
/-- Ascending changes, each valid. -/
theorem Rw.chgs_all : ∀ (cs : List Chg) (a b : Int), Rw.chgs a b cs = true → (∀ c ∈ cs, Rw.chg c = true ∧ (a < c.t ∨ (a = c.t ∧ b < c.k))) ∧ cs.Pairwise (fun c d => c.t < d.t ∨ (c.t = d.t ∧ c.k < d.k))
  | [], _, _, _ => ⟨by simp, List.Pairwise.nil⟩
  | c :: cs, a, b, h => by
    simp only [Rw.chgs, Bool.and_eq_true, Rw.behind, decide_eq_true_eq] at h
    obtain ⟨⟨h1, h2⟩, h3⟩ := h
    obtain ⟨h4, h5⟩ := Rw.chgs_all cs c.t c.k h3
    refine ⟨fun d hd => ?_, List.pairwise_cons.2 ⟨fun d hd => (h4 d hd).2, h5⟩⟩
    rcases List.mem_cons.1 hd with rfl | hd
    · exact ⟨h1, h2⟩
    · have := h4 d hd
      exact ⟨this.1, by omega⟩
theorem Rw.valid_all {r : Rec} (h : Rw.valid r = true) : (∀ c ∈ r.cs, Rw.chg c = true) ∧ r.cs.Pairwise (fun c d => idOf c.t c.k ≠ idOf d.t d.k) := by
  simp only [Rw.valid, Bool.and_eq_true] at h
  obtain ⟨h1, h2⟩ := Rw.chgs_all _ _ _ h.2
  refine ⟨fun c hc => (h1 c hc).1, ?_⟩
  have h3 : ∀ c ∈ r.cs, (idOf c.t c.k).1 = (c.t, c.k) := fun c hc => Rw.chg_id (h1 c hc).1
  refine List.Pairwise.imp_of_mem (fun {c d} hc hd hlt e => ?_) h2
  have e1 := congrArg Subtype.val e
  rw [h3 c hc, h3 d hd] at e1
  simp at e1
  omega

namespace Sm
theorem put1_other {M : List (IdK × RowV)} {c : Chg} {i : IdK} (h : i ≠ idOf c.t c.k) : mget (put1 M c) i = mget M i := by
  unfold put1
  split
  · exact mget_put_other h
  · exact mget_del_other h
theorem put1_nd {M : List (IdK × RowV)} (h : Nd M) (c : Chg) : Nd (put1 M c) := by
  unfold put1
  split
  · exact h.put _ _
  · exact h.del _
theorem put1_len {M : List (IdK × RowV)} (h : Nd M) {c : Chg} (hm : meets M c = true) : ((put1 M c).length : Int) = grow M.length c := by
  unfold meets at hm
  unfold put1 grow
  cases hg : mget M (idOf c.t c.k) with
  | none =>
    rw [hg] at hm
    have hh : c.had = false := by simpa using hm
    cases ha : c.has
    · rw [if_neg (by simp), mdel_none hg, hh]
      simp
    · rw [if_pos rfl, length_mput h, hg, hh]
      simp
  | some u =>
    rw [hg] at hm
    have hh : c.had = true := by
      simp only [Bool.and_eq_true] at hm
      exact hm.1
    cases ha : c.has
    · have := length_mdel (x := idOf c.t c.k) h
      rw [hg] at this
      rw [if_neg (by simp), hh]
      simp at this ⊢
      omega
    · rw [if_pos rfl, length_mput h, hg, hh]
      simp
theorem put1_key {M : List (IdK × RowV)} (h : ∀ e ∈ M, e.1.1 = (e.2.t, e.2.k)) {c : Chg} (hc : Rw.chg c = true) : ∀ e ∈ put1 M c, e.1.1 = (e.2.t, e.2.k) := by
  unfold put1
  intro e he
  split at he
  · rcases mem_mput.1 he with rfl | ⟨he, _⟩
    · exact Rw.chg_id hc
    · exact h e he
  · exact h e (mem_mdel.1 he).1
theorem meets_congr {M M' : List (IdK × RowV)} {c : Chg} (h : mget M' (idOf c.t c.k) = mget M (idOf c.t c.k)) : meets M' c = meets M c := by
  unfold meets
  rw [h]
theorem fold_ok : ∀ (cs : List Chg) (M M' : List (IdK × RowV)), Nd M' → (∀ e ∈ M', e.1.1 = (e.2.t, e.2.k)) → (∀ c ∈ cs, Rw.chg c = true) → cs.Pairwise (fun c d => idOf c.t c.k ≠ idOf d.t d.k) →
    (∀ c ∈ cs, mget M' (idOf c.t c.k) = mget M (idOf c.t c.k)) → fitsGo M M'.length cs = true → Nd (cs.foldl put1 M') ∧ (∀ e ∈ cs.foldl put1 M', e.1.1 = (e.2.t, e.2.k)) ∧ (cs.foldl put1 M').length ≤ 2000
  | [], _, M', h1, h2, _, _, _, h6 => by
    simp only [fitsGo, decide_eq_true_eq] at h6
    exact ⟨h1, h2, by simpa using (by omega : M'.length ≤ 2000)⟩
  | c :: cs, M, M', h1, h2, h3, h4, h5, h6 => by
    simp only [fitsGo, Bool.and_eq_true] at h6
    obtain ⟨h4a, h4b⟩ := List.pairwise_cons.1 h4
    have hm : meets M' c = true := by rw [meets_congr (h5 c (by simp))]; exact h6.1
    have hl := put1_len h1 hm
    refine fold_ok cs M (put1 M' c) (put1_nd h1 c) (put1_key h2 (h3 c (by simp))) (fun d hd => h3 d (by simp [hd])) h4b (fun d hd => ?_) (by rw [hl]; exact h6.2)
    rw [put1_other (fun e => h4a d hd e.symm)]
    exact h5 d (by simp [hd])
theorem fold_len : ∀ (cs : List Chg) (M : List (IdK × RowV)), Nd M → Nd (cs.foldl put1 M) ∧ (cs.foldl put1 M).length ≤ M.length + cs.length
  | [], M, h => ⟨h, by simp⟩
  | c :: cs, M, h => by
    obtain ⟨h1, h2⟩ := fold_len cs (put1 M c) (put1_nd h c)
    refine ⟨h1, ?_⟩
    have h3 : (put1 M c).length ≤ M.length + 1 := by
      unfold put1
      split
      · rw [length_mput h]
        split <;> omega
      · have := length_mdel (x := idOf c.t c.k) h
        split at this <;> omega
    simp only [List.foldl_cons, List.length_cons]
    omega

theorem fold_key : ∀ (cs : List Chg) (M : List (IdK × RowV)), (∀ e ∈ M, e.1.1 = (e.2.t, e.2.k)) → (∀ c ∈ cs, Rw.chg c = true) → ∀ e ∈ cs.foldl put1 M, e.1.1 = (e.2.t, e.2.k)
  | [], _, h, _ => h
  | c :: cs, M, h, hc => fold_key cs (put1 M c) (put1_key h (hc c (by simp))) fun d hd => hc d (by simp [hd])
theorem fold_other : ∀ (cs : List Chg) (M : List (IdK × RowV)) (i : IdK), (∀ c ∈ cs, i ≠ idOf c.t c.k) → mget (cs.foldl put1 M) i = mget M i
  | [], _, _, _ => rfl
  | c :: cs, M, i, h => (fold_other cs (put1 M c) i fun d hd => h d (by simp [hd])).trans (put1_other (h c (by simp)))
theorem fitsGo_meets : ∀ (cs : List Chg) (M : List (IdK × RowV)) (n : Int), fitsGo M n cs = true → ∀ c ∈ cs, meets M c = true
  | [], _, _, _ => by simp
  | c :: cs, M, n, h => by
    simp only [fitsGo, Bool.and_eq_true] at h
    intro d hd
    rcases List.mem_cons.1 hd with rfl | hd
    · exact h.1
    · exact fitsGo_meets cs M _ h.2 d hd
/-- Each change meets what is there when its turn comes. -/
theorem fits_mid {s : Sta} (h : Ok s) {r : Rec} (hf : fits s r = true) (k : Nat) (hk : k < r.cs.length) :
    Nd ((r.cs.take k).foldl put1 s.M) ∧ (∀ e ∈ (r.cs.take k).foldl put1 s.M, e.1.1 = (e.2.t, e.2.k)) ∧ meets ((r.cs.take k).foldl put1 s.M) r.cs[k] = true ∧ ((r.cs.take k).foldl put1 s.M).length ≤ 2000 + k := by
  simp only [fits, Bool.and_eq_true, decide_eq_true_eq] at hf
  obtain ⟨⟨hv, _⟩, hg⟩ := hf
  obtain ⟨a1, a2⟩ := Rw.valid_all hv
  obtain ⟨b1, b2⟩ := fold_len (r.cs.take k) s.M h.nd
  refine ⟨b1, fold_key _ _ h.key fun c hc => a1 c (List.mem_of_mem_take hc), ?_, ?_⟩
  · rw [meets_congr (fold_other _ _ _ fun c hc => ?_)]
    · exact fitsGo_meets _ _ _ hg _ (List.getElem_mem hk)
    · obtain ⟨i, hi, rfl⟩ := List.getElem_of_mem hc
      rw [List.length_take] at hi
      rw [List.getElem_take]
      exact fun e => List.pairwise_iff_getElem.1 a2 i k (by omega) hk (by omega) e.symm
  · rw [List.length_take] at b2
    have := h.len
    omega
theorem Ok.applied {s : Sta} (h : Ok s) (r : Rec) : Ok (Sm.apply s r) := by
  unfold Sm.apply
  split
  · rename_i hf
    have hf' := hf
    simp only [fits, Bool.and_eq_true, decide_eq_true_eq] at hf'
    obtain ⟨⟨hv, hp⟩, hg⟩ := hf'
    obtain ⟨a1, a2⟩ := Rw.valid_all hv
    obtain ⟨b1, b2, b3⟩ := fold_ok r.cs s.M s.M h.nd h.key a1 a2 (fun _ _ => rfl) hg
    have hr : 1 ≤ r.p ∧ r.p ≤ 10000 := by
      simp only [Rw.valid, Rw.inI, Bool.and_eq_true, decide_eq_true_eq] at hv
      omega
    exact ⟨by show 0 ≤ r.p; omega, hr.2, b1, b2, b3⟩
  · exact h
end Sm
end Go.Proofs.Ythiaaminkfkjpaa
