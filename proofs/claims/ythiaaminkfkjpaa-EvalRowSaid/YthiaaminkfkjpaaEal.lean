/-
  LOGS that the reference makes, in plain Lean: small changes; each record fits when its turn comes.
-/
import Derived.Test.YthiaaminkfkjpaaEaj
namespace Go.Proofs.Ythiaaminkfkjpaa

/-- A change of a small log. -/
structure LgC (c : Chg) : Prop where
  t0 : 0 ≤ c.t
  t1 : c.t ≤ 2
  k0 : 1 ≤ c.k
  k1 : c.k ≤ 9
  new : c.has = true → (0 ≤ c.n0 ∧ c.n0 ≤ 9) ∧ (1 ≤ c.n1 ∧ c.n1 ≤ 9) ∧ (-20 ≤ c.n2 ∧ c.n2 ≤ 19)

namespace Lg
/-- The state that a log leaves. -/
def run (l : List Rec) : Sm.Sta := l.foldl Sm.apply Sm.new
structure Ok (l : List Rec) : Prop where
  fits : ∀ i (h : i < l.length), Sm.fits (run (l.take i)) l[i] = true
  small : ∀ r ∈ l, ∀ c ∈ r.cs, LgC c
theorem run_nil : run [] = Sm.new := rfl
theorem run_snoc (l : List Rec) (r : Rec) : run (l ++ [r]) = Sm.apply (run l) r := by simp [run]
theorem ok_nil : Ok [] := ⟨fun i h => absurd h (by simp), by simp⟩
theorem Ok.snoc {l : List Rec} {r : Rec} (h : Ok l) (hf : Sm.fits (run l) r = true) (hs : ∀ c ∈ r.cs, LgC c) : Ok (l ++ [r]) := by
  refine ⟨fun i hi => ?_, fun q hq => ?_⟩
  · rw [List.length_append, List.length_singleton] at hi
    rcases Nat.lt_or_ge i l.length with h1 | h1
    · rw [List.take_append_of_le_length (by omega), List.getElem_append_left h1]
      exact h.fits i h1
    · have : i = l.length := by omega
      subst this
      rw [List.take_left, List.getElem_append_right (Nat.le_refl _)]
      simpa using hf
  · rcases List.mem_append.1 hq with h1 | h1
    · exact h.small q h1
    · rw [List.mem_singleton] at h1
      subst h1
      exact hs
theorem code_zero {s : Sm.Sta} {r : Rec} : Sm.code s r = 0 ↔ Sm.fits s r = true := by
  unfold Sm.code
  split <;> simp_all
end Lg
end Go.Proofs.Ythiaaminkfkjpaa
