/-
  EvalRow: the plain law. What a row that is added does to a result.
-/
import Derived.Test.YthiaaminkfkjpaaEbk
namespace Go.Proofs.Ythiaaminkfkjpaa
open Go.RowKit

namespace Em
theorem tot_cons (x : Int) (l : List Int) : tot (x :: l) = x + tot l := by
  have h := tot_append [x] l
  have e : tot [x] = x := by simp [tot]
  rw [e] at h
  exact h
theorem val_bounds {s : Sm.Sta} (ho : Sm.Ok s) (hs : Sm.Sound s) (q : Qry) (hv : valid q = true) : (-2000000000000 ≤ (of s q).value ∧ (of s q).value ≤ 2000000000000) ∧ (q.kind ≤ 2 ∨ q.kind = 7 → True) := by
  have hl := scan_len ho q
  have hm : ∀ x ∈ meas q (scan s q), -1000000000 ≤ x ∧ x ≤ 1000000000 := fun x hx => by
    unfold meas at hx
    obtain ⟨r, hr, rfl⟩ := List.mem_map.1 hx
    exact RowV.value_bounds (scan_mem hs hr) _
  have hk : 1 ≤ q.kind ∧ q.kind ≤ 7 := by
    have h := hv
    unfold valid at h
    repeat' split at h
    all_goals first | omega | cases h
  refine ⟨?_, fun _ => trivial⟩
  by_cases k3 : q.kind = 3
  · rw [of_count hv k3]
    dsimp only
    omega
  by_cases k4 : q.kind = 4
  · rw [of_sum hv k4]
    have h1 := tot_bound 1000000000 _ hm
    have h2 : (meas q (scan s q)).length = (scan s q).length := by unfold meas; simp
    rw [h2] at h1
    dsimp only
    omega
  by_cases k5 : q.kind = 5
  · obtain ⟨v, f, e, hx⟩ := of_min (s := s) hv k5
    rw [e]
    dsimp only
    by_cases hn : meas q (scan s q) = []
    · have := hx.none hn
      omega
    · have := hm _ (hx.mem hn)
      omega
  by_cases k6 : q.kind = 6
  · obtain ⟨v, f, e, hx⟩ := of_max (s := s) hv k6
    rw [e]
    dsimp only
    by_cases hn : meas q (scan s q) = []
    · have := hx.none hn
      omega
    · have := hm _ (hx.mem hn)
      omega
  by_cases k7 : q.kind = 7
  · rw [of_join hv k7]
    dsimp only
    omega
  · rw [of_rows hv (by omega)]
    dsimp only
    omega
theorem rows_bound {s : Sm.Sta} (ho : Sm.Ok s) (q : Qry) (hv : valid q = true) (hk : q.kind ≤ 2 ∨ q.kind = 7) : (of s q).rows.length ≤ 4000 := by
  have hl := scan_len ho q
  have h1 : 1 ≤ q.kind := by
    have h := hv
    unfold valid at h
    repeat' split at h
    all_goals first | omega | cases h
  by_cases k7 : q.kind = 7
  · rw [of_join hv k7]
    dsimp only
    have hj : ∀ l : List RowV, (joined q l (tab s q.other)).length ≤ 2 * l.length := fun l => by
      induction l with
      | nil => simp [joined]
      | cons r l ih =>
        have e : joined q (r :: l) (tab s q.other) = pair q (tab s q.other) r ++ joined q l (tab s q.other) := rfl
        rw [e, List.length_append, List.length_cons]
        have hp : (pair q (tab s q.other) r).length ≤ 2 := by
          unfold pair
          cases partner (tab s q.other) q.other (r.value q.by_) <;> simp
        omega
    have := hj (scan s q)
    omega
  · rw [of_rows hv (by omega)]
    dsimp only
    omega
/-- A row that is added adds itself. -/
structure RowOk (q : Qry) (r : RowV) (p : Bool) (a b : Res) : Prop where
  rows : q.kind ≤ 2 → ∃ A B, b.rows = A ++ r :: B ∧ a.rows = A ++ B ∧ r ∉ A ∧ r ∉ B
  count : q.kind = 3 → b.value = a.value + 1
  sum : q.kind = 4 → b.value = a.value + r.value q.by_
  min : q.kind = 5 → b.found = true ∧ b.value ≤ r.value q.by_ ∧ (a.found = true → b.value = min a.value (r.value q.by_))
  max : q.kind = 6 → b.found = true ∧ r.value q.by_ ≤ b.value ∧ (a.found = true → b.value = max a.value (r.value q.by_))
  join : q.kind = 7 → b.rows.length = a.rows.length + (if p = true then 2 else 0)
theorem pair_len (q : Qry) (others : List RowV) (r : RowV) : (pair q others r).length = if (partner others q.other (r.value q.by_)).isSome = true then 2 else 0 := by
  unfold pair
  cases partner others q.other (r.value q.by_) <;> rfl
theorem row_ok {s s' : Sm.Sta} (ho : Sm.Ok s) (ho' : Sm.Ok s') {x : IdK} {r : RowV} {q : Qry} (hv : valid q = true) (hg : mget s.M x = none) (hM : s'.M = mput s.M x r) (hr : inRng q.table q.column q.low q.high r = true) (hno : ∀ e ∈ s.M, e.2 ≠ r)
    (ht : q.kind = 7 → tab s' q.other = tab s q.other) (h1 : okI q.other) (h2 : okI (r.value q.by_)) {p : Bool} (hp : q.kind = 7 → (mget s'.M (idOf q.other (r.value q.by_))).isSome = p) : RowOk q r p (of s q) (of s' q) := by
  obtain ⟨A, B, e1, e2, n1, n2⟩ := scan_add ho ho' hg hM hr hno
  have em1 : meas q (scan s' q) = meas q A ++ r.value q.by_ :: meas q B := by rw [e1]; simp [meas]
  have em2 : meas q (scan s q) = meas q A ++ meas q B := by rw [e2]; simp [meas]
  have hne : meas q (scan s' q) ≠ [] := by rw [em1]; simp
  refine ⟨fun hk => ?_, fun hk => ?_, fun hk => ?_, fun hk => ?_, fun hk => ?_, fun hk => ?_⟩
  · have hk1 : q.kind = 1 ∨ q.kind = 2 := by
      unfold valid at hv
      repeat' split at hv
      all_goals first | omega | cases hv
    rw [of_rows hv hk1, of_rows hv hk1]
    exact ⟨A, B, e1, e2, n1, n2⟩
  · rw [of_count hv hk, of_count hv hk, e1, e2]
    dsimp only
    rw [List.length_append, List.length_append, List.length_cons]
    omega
  · rw [of_sum hv hk, of_sum hv hk, em1, em2]
    dsimp only
    rw [tot_append, tot_append, tot_cons]
    omega
  · obtain ⟨v, f, e, h⟩ := of_min (s := s) hv hk
    obtain ⟨v', f', e', h'⟩ := of_min (s := s') hv hk
    rw [e, e']
    dsimp only
    have hf' : f' = true := by rw [h'.found]; cases hm : meas q (scan s' q) with
      | nil => exact absurd hm hne
      | cons a l => rfl
    have hm1 := h'.le (r.value q.by_) (by rw [em1]; simp)
    refine ⟨hf', hm1, fun hf => ?_⟩
    have hne2 : meas q (scan s q) ≠ [] := by
      intro h0
      have := h.found
      rw [hf, h0] at this
      cases this
    have h3 := h'.mem hne
    rw [em1] at h3
    have h4 := h.mem hne2
    rw [em2] at h4
    have h5 : v' ≤ v := h'.le v (by rw [em1]; simp only [List.mem_append, List.mem_cons] at h4 ⊢; rcases h4 with h4 | h4 <;> simp [h4])
    simp only [List.mem_append, List.mem_cons] at h3
    have h6 : v' = r.value q.by_ ∨ v ≤ v' := by
      rcases h3 with h3 | h3 | h3
      · exact .inr (h.le _ (by rw [em2]; simp [h3]))
      · exact .inl h3
      · exact .inr (h.le _ (by rw [em2]; simp [h3]))
    omega
  · obtain ⟨v, f, e, h⟩ := of_max (s := s) hv hk
    obtain ⟨v', f', e', h'⟩ := of_max (s := s') hv hk
    rw [e, e']
    dsimp only
    have hf' : f' = true := by rw [h'.found]; cases hm : meas q (scan s' q) with
      | nil => exact absurd hm hne
      | cons a l => rfl
    have hm1 := h'.le (r.value q.by_) (by rw [em1]; simp)
    refine ⟨hf', hm1, fun hf => ?_⟩
    have hne2 : meas q (scan s q) ≠ [] := by
      intro h0
      have := h.found
      rw [hf, h0] at this
      cases this
    have h3 := h'.mem hne
    rw [em1] at h3
    have h4 := h.mem hne2
    rw [em2] at h4
    have h5 : v ≤ v' := h'.le v (by rw [em1]; simp only [List.mem_append, List.mem_cons] at h4 ⊢; rcases h4 with h4 | h4 <;> simp [h4])
    simp only [List.mem_append, List.mem_cons] at h3
    have h6 : v' = r.value q.by_ ∨ v' ≤ v := by
      rcases h3 with h3 | h3 | h3
      · exact .inr (h.le _ (by rw [em2]; simp [h3]))
      · exact .inl h3
      · exact .inr (h.le _ (by rw [em2]; simp [h3]))
    omega
  · rw [of_join hv hk, of_join hv hk, ht hk, e1, e2]
    dsimp only
    have e3 : joined q (A ++ r :: B) (tab s q.other) = joined q A (tab s q.other) ++ (pair q (tab s q.other) r ++ joined q B (tab s q.other)) := by
      rw [joined_append]
      rfl
    rw [e3, joined_append, List.length_append, List.length_append, List.length_append, pair_len, ← ht hk, partner_get ho' h1 h2, hp hk]
    omega
/-- The state with the row. -/
theorem row_law {l : List Rec} (h : CgOk l) (hl : l.length ≤ 40) {q : Qry} (hv : valid q = true) {a b c : Int} (ht : 0 ≤ q.table ∧ q.table ≤ 3) (ha : 0 ≤ a ∧ a ≤ 19) (hb : 0 ≤ b ∧ b ≤ 13) (hc : -10 ≤ c ∧ c ≤ 29) (hr : inRng q.table q.column q.low q.high ⟨q.table, 500, a, b, c⟩ = true) (hj : q.kind = 7 → q.other ≠ q.table) (h1 : okI q.other) (h2 : okI ((⟨q.table, 500, a, b, c⟩ : RowV).value q.by_))
    {p : Bool} (hp : (mget (Sm.apply (Lg.run l) ⟨l.length + 1, [addC q.table 500 a b c]⟩).M (idOf q.other ((⟨q.table, 500, a, b, c⟩ : RowV).value q.by_))).isSome = p) :
    RowOk q ⟨q.table, 500, a, b, c⟩ p (of (Lg.run l) q) (of (Sm.apply (Lg.run l) ⟨l.length + 1, [addC q.table 500 a b c]⟩) q) := by
  obtain ⟨hf, hg, hM⟩ := add_fits h hl ht ha hb hc
  have hk := (h.left l.length (Nat.le_refl _)).1
  rw [List.take_length] at hk
  have hid : (idOf q.table 500).1 = (q.table, 500) := idOf_val (okI_mk (by omega) (by omega)) (okI_mk (by omega) (by omega))
  refine row_ok (Lg.run_ok l) ((Lg.run_ok l).applied _) hv hg hM hr (fun e he e2 => ?_) (fun h7 => ?_) h1 h2 (fun _ => hp)
  · have := hk e he
    rw [e2] at this
    dsimp only at this
    omega
  · unfold tab
    refine sel_put1 (c := addC q.table 500 a b c) (Lg.run_ok l) (by rw [hM]; rfl) hid (by unfold Sm.meets; rw [hg]; rfl) (fun h => (by cases h)) (fun _ => ?_) _
    unfold inTab
    exact decide_eq_false (fun e => hj h7 e.symm)
/-- What holds of every record of a log, and of one behind it. -/
theorem fits_snoc {l : List Rec} {r : Rec} (h : ∀ i (h : i < l.length), Sm.fits (Lg.run (l.take i)) l[i] = true) (hr : Sm.fits (Lg.run l) r = true) : ∀ i (h : i < (l ++ [r]).length), Sm.fits (Lg.run ((l ++ [r]).take i)) (l ++ [r])[i] = true := by
  intro i hi
  by_cases hl : i < l.length
  · rw [List.getElem_append_left hl, List.take_append_of_le_length (by omega)]
    exact h i hl
  · have e : i = l.length := by simp at hi; omega
    subst e
    rw [List.getElem_append_right (Nat.le_refl _), List.take_append_of_le_length (Nat.le_refl _), List.take_length]
    simpa using hr
/-- Which element stands where. -/
theorem add_get {A B : List RowV} {r : RowV} {i : Nat} (h : i < (A ++ r :: B).length) (hA : r ∉ A) (hB : r ∉ B) :
    (i = A.length ∧ (A ++ r :: B)[i] = r) ∨ (i < A.length ∧ (A ++ r :: B)[i] ≠ r ∧ ∃ h2 : i < (A ++ B).length, (A ++ B)[i] = (A ++ r :: B)[i]) ∨ (A.length < i ∧ (A ++ r :: B)[i] ≠ r ∧ ∃ h2 : i - 1 < (A ++ B).length, (A ++ B)[i - 1] = (A ++ r :: B)[i]) := by
  rcases Nat.lt_trichotomy i A.length with hl | he | hg
  · have e1 : (A ++ r :: B)[i] = A[i] := List.getElem_append_left hl
    refine .inr (.inl ⟨hl, ?_, by rw [List.length_append]; omega, ?_⟩)
    · rw [e1]
      intro e
      exact hA (e ▸ List.getElem_mem hl)
    · rw [e1]
      exact List.getElem_append_left hl
  · subst he
    refine .inl ⟨rfl, ?_⟩
    rw [List.getElem_append_right (Nat.le_refl _)]
    simp
  · have hlen : (A ++ r :: B).length = A.length + B.length + 1 := by simp; omega
    have e1 : (A ++ r :: B)[i] = B[i - A.length - 1]'(by omega) := by
      rw [List.getElem_append_right (by omega)]
      have e : i - A.length = (i - A.length - 1) + 1 := by omega
      have e2 : ∀ k (hk : k < (r :: B).length), k = (i - A.length - 1) + 1 → (r :: B)[k] = B[i - A.length - 1]'(by omega) := by
        intro k hk ek
        subst ek
        rfl
      exact e2 _ _ e
    refine .inr (.inr ⟨hg, ?_, by rw [List.length_append]; omega, ?_⟩)
    · rw [e1]
      intro e
      exact hB (e ▸ List.getElem_mem _)
    · rw [e1, List.getElem_append_right (by omega)]
      congr 1
      omega
end Em
end Go.Proofs.Ythiaaminkfkjpaa
