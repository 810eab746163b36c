/-
  PLAIN LAWS: what the missing spans are.
-/
import Derived.Test.YtlolinaggobbdaaGapP
namespace Go.Proofs.Ytlolinaggobbdaa

/-- The spans l are those of the positions p + 1 .. p + k that are not in S. -/
structure Gm.Spans (S : Int → Prop) (p : Int) (k : Nat) (l : List (Int × Int)) : Prop where
  rng : ∀ i (h : i < l.length), p < l[i].1 ∧ l[i].1 ≤ l[i].2 ∧ l[i].2 ≤ p + k
  gap : ∀ i j (hi : i < l.length) (hj : j < l.length), i < j → l[i].2 + 1 < l[j].1
  out : ∀ i (h : i < l.length) q, l[i].1 ≤ q → q ≤ l[i].2 → ¬ S q
  all : ∀ q, p < q → q ≤ p + k → ¬ S q → ∃ i, ∃ h : i < l.length, l[i].1 ≤ q ∧ q ≤ l[i].2

theorem Gm.Spans.zero (S : Int → Prop) (p : Int) : Gm.Spans S p 0 [] :=
  ⟨fun i h => by simp at h, fun i j h => by simp at h, fun i h => by simp at h, fun q h1 h2 => by omega⟩
theorem Gm.Spans.skip {S : Int → Prop} {p : Int} {k : Nat} {l : List (Int × Int)} (h : Gm.Spans S p k l) (hs : S (p + k + 1)) : Gm.Spans S p (k + 1) l := by
  refine ⟨fun i hi => ?_, h.gap, h.out, fun q h1 h2 h3 => ?_⟩
  · obtain ⟨a, b, c⟩ := h.rng i hi
    exact ⟨a, b, by omega⟩
  · by_cases hq : q = p + k + 1
    · rw [hq] at h3; exact absurd hs h3
    · exact h.all q h1 (by omega) h3
theorem Gm.Spans.append {S : Int → Prop} {p : Int} {k : Nat} {l : List (Int × Int)} (h : Gm.Spans S p k l) (hs : ¬ S (p + k + 1)) (hl : ∀ i (hi : i < l.length), l[i].2 < p + k) : Gm.Spans S p (k + 1) (l ++ [(p + k + 1, p + k + 1)]) := by
  have hlen : (l ++ [(p + (k : Int) + 1, p + (k : Int) + 1)]).length = l.length + 1 := by simp
  have hget : ∀ i (hi : i < (l ++ [(p + (k : Int) + 1, p + (k : Int) + 1)]).length), (∃ h' : i < l.length, (l ++ [(p + (k : Int) + 1, p + (k : Int) + 1)])[i] = l[i]) ∨ (i = l.length ∧ (l ++ [(p + (k : Int) + 1, p + (k : Int) + 1)])[i] = (p + (k : Int) + 1, p + (k : Int) + 1)) := by
    intro i hi
    by_cases h' : i < l.length
    · exact .inl ⟨h', List.getElem_append_left h'⟩
    · have : i = l.length := by rw [hlen] at hi; omega
      subst this
      exact .inr ⟨rfl, by simp⟩
  refine ⟨fun i hi => ?_, fun i j hi hj hij => ?_, fun i hi q h1 h2 => ?_, fun q h1 h2 h3 => ?_⟩
  · rcases hget i hi with ⟨h', e⟩ | ⟨_, e⟩
    · rw [e]; obtain ⟨a, b, c⟩ := h.rng i h'; exact ⟨a, b, by omega⟩
    · rw [e]; exact ⟨by dsimp only; omega, by dsimp only; omega, by dsimp only; omega⟩
  · rcases hget i hi with ⟨h1, e1⟩ | ⟨h1, e1⟩ <;> rcases hget j hj with ⟨h2, e2⟩ | ⟨h2, e2⟩
    · rw [e1, e2]; exact h.gap i j h1 h2 hij
    · rw [e1, e2]; have := hl i h1; dsimp only; omega
    · omega
    · omega
  · rcases hget i hi with ⟨h', e⟩ | ⟨_, e⟩
    · rw [e] at h1 h2; exact h.out i h' q h1 h2
    · rw [e] at h1 h2
      dsimp only at h1 h2
      have : q = p + k + 1 := by omega
      rw [this]; exact hs
  · by_cases hq : q = p + k + 1
    · refine ⟨l.length, by simp, ?_⟩
      rw [List.getElem_append_right (by omega)]
      simp
      omega
    · obtain ⟨i, hi, h4⟩ := h.all q h1 (by omega) h3
      exact ⟨i, by simp; omega, by rw [List.getElem_append_left hi]; exact h4⟩
theorem Gm.Spans.widen {S : Int → Prop} {p : Int} {k : Nat} {l : List (Int × Int)} (h : Gm.Spans S p k l) (hs : ¬ S (p + k + 1)) : Gm.Spans S p (k + 1) (Gm.widen l (p + k + 1)) := by
  rcases Nat.eq_zero_or_pos l.length with h0 | h0
  · obtain rfl : l = [] := List.eq_nil_of_length_eq_zero h0
    rw [Gm.widen_nil]
    exact h.append hs (fun i hi => by simp at hi)
  obtain ⟨x, y, hxy⟩ : ∃ x y, l[l.length - 1]'(Nat.sub_lt h0 Nat.one_pos) = (x, y) := ⟨_, _, rfl⟩
  have hr := h.rng (l.length - 1) (Nat.sub_lt h0 Nat.one_pos)
  rw [hxy] at hr
  dsimp only at hr
  by_cases ht : y = p + k + 1 - 1
  · rw [Gm.widen_touch h0 hxy ht]
    have hget : ∀ i (hi : i < (l.set (l.length - 1) (x, p + k + 1)).length), (i ≠ l.length - 1 ∧ ∃ h' : i < l.length, (l.set (l.length - 1) (x, p + k + 1))[i] = l[i]) ∨ (i = l.length - 1 ∧ (l.set (l.length - 1) (x, p + k + 1))[i] = (x, p + k + 1)) := by
      intro i hi
      by_cases h' : i = l.length - 1
      · subst h'
        exact .inr ⟨rfl, by simp⟩
      · exact .inl ⟨h', by simpa using hi, List.getElem_set_ne (fun e => h' e.symm) _⟩
    refine ⟨fun i hi => ?_, fun i j hi hj hij => ?_, fun i hi q h1 h2 => ?_, fun q h1 h2 h3 => ?_⟩
    · rcases hget i hi with ⟨_, h', e⟩ | ⟨_, e⟩
      · rw [e]; obtain ⟨a, b, c⟩ := h.rng i h'; exact ⟨a, b, by omega⟩
      · rw [e]; exact ⟨hr.1, by dsimp only; omega, by dsimp only; omega⟩
    · have hlen : (l.set (l.length - 1) (x, p + (k : Int) + 1)).length = l.length := by simp
      rcases hget i hi with ⟨n1, h1, e1⟩ | ⟨h1, e1⟩ <;> rcases hget j hj with ⟨n2, h2, e2⟩ | ⟨h2, e2⟩
      · rw [e1, e2]; exact h.gap i j h1 h2 hij
      · rw [e1, e2]
        have := h.gap i (l.length - 1) h1 (Nat.sub_lt h0 Nat.one_pos) (by omega)
        rw [hxy] at this
        exact this
      · omega
      · omega
    · rcases hget i hi with ⟨_, h', e⟩ | ⟨_, e⟩
      · rw [e] at h1 h2; exact h.out i h' q h1 h2
      · rw [e] at h1 h2
        dsimp only at h1 h2
        by_cases hq : q = p + k + 1
        · rw [hq]; exact hs
        · refine h.out (l.length - 1) (Nat.sub_lt h0 Nat.one_pos) q ?_ ?_
          · rw [hxy]; exact h1
          · rw [hxy]; dsimp only; omega
    · by_cases hq : q = p + k + 1
      · refine ⟨l.length - 1, by simp; omega, ?_⟩
        rw [List.getElem_set_self]
        dsimp only
        omega
      · obtain ⟨i, hi, h4⟩ := h.all q h1 (by omega) h3
        refine ⟨i, by simpa using hi, ?_⟩
        rw [List.getElem_set]
        split
        · rename_i e
          subst e
          rw [hxy] at h4
          dsimp only at h4 ⊢
          omega
        · exact h4
  · rw [Gm.widen_apart h0 hxy ht]
    refine h.append hs (fun i hi => ?_)
    by_cases hi' : i = l.length - 1
    · subst hi'
      rw [hxy]
      dsimp only
      omega
    · have h1 := h.gap i (l.length - 1) hi (Nat.sub_lt h0 Nat.one_pos) (by omega)
      rw [hxy] at h1
      dsimp only at h1
      omega
theorem Gm.missing_spans {c : Gm.Rcv} {S : Int → Prop} (h : Gm.Is c S) (p : Int) (k : Nat) : Gm.Spans S p k (Gm.missing c.L p k) := by
  induction k with
  | zero => exact Gm.Spans.zero S p
  | succ k ih =>
    rcases Gm.missing_succ h p k with ⟨hs, e⟩ | ⟨hs, e⟩
    · rw [e]; exact ih.skip hs
    · rw [e]; exact ih.widen hs
end Go.Proofs.Ytlolinaggobbdaa
