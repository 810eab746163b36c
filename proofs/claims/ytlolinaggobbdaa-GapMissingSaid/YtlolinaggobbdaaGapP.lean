/-
  PLAIN LAWS of a receiver of records of one change: which positions wait.
-/
import Derived.Test.YtlolinaggobbdaaGapOrder
namespace Go.Proofs.Ytlolinaggobbdaa

/-- Just the positions of S wait, each with its record. -/
def Gm.Is (c : Gm.Rcv) (S : Int → Prop) : Prop := ∀ q, (S q → mget c.L q = some (recOf q)) ∧ (¬ S q → mget c.L q = none)
theorem Gm.Is.congr {c : Gm.Rcv} {S T : Int → Prop} (h : Gm.Is c S) (hst : ∀ q, S q ↔ T q) : Gm.Is c T := fun q => ⟨fun ht => (h q).1 ((hst q).2 ht), fun ht => (h q).2 (fun hs => ht ((hst q).1 hs))⟩
theorem Gm.Is.recs {c : Gm.Rcv} {S : Int → Prop} (h : Gm.Is c S) (hok : Gm.Ok c) : Gm.Recs c.L := fun e he => by
  have h1 : mget c.L e.1 = some e.2 := (mget_iff hok.nd).2 he
  by_cases hs : S e.1
  · rw [(h e.1).1 hs] at h1
    exact (Option.some.inj h1).symm
  · rw [(h e.1).2 hs] at h1
    cases h1
theorem Gm.Is.mem {c : Gm.Rcv} {S : Int → Prop} (h : Gm.Is c S) (hok : Gm.Ok c) {q : Int} (hs : S q) : c.pos < q ∧ q ≤ c.high ∧ q - c.pos ≤ 256 := by
  have h1 := (mget_iff hok.nd).1 ((h q).1 hs)
  exact (hok.key _ h1).2
theorem Gm.is_new (p : Int) : Gm.Is (Gm.new p) (fun _ => False) := fun _ => ⟨fun h => h.elim, fun _ => rfl⟩
theorem valid_recOf {q : Int} (h1 : 1 ≤ q) (h2 : q ≤ 10000) : Rw.valid (recOf q) = true := by
  have h3 : Rw.inI 1 10000 q = true := by simp [Rw.inI]; omega
  have h4 : Rw.inI 1 1000000 q = true := by simp [Rw.inI]; omega
  have e : Rw.valid (recOf q) = (Rw.inI 1 10000 q && true && (((true && true && (Rw.inI 0 3 0 && Rw.inI 1 1000000 q && (Rw.inI (-1000000000) 1000000000 0 && Rw.inI (-1000000000) 1000000000 0 && Rw.inI (-1000000000) 1000000000 0))) && Rw.behind (-1) 0 ⟨0, q, false, 0, 0, 0, true, 0, 0, 0⟩) && true)) := rfl
  rw [e, h3, h4]
  rfl
theorem Gm.receive_is {c : Gm.Rcv} {S : Int → Prop} (h : Gm.Is c S) {q : Int} (h1 : 1 ≤ q) (h2 : q ≤ 10000) (hq : c.pos < q) :
    ((S q ∨ 256 < q - c.pos) ∧ Gm.took c (recOf q) = false ∧ Gm.Is (Gm.receive c (recOf q)) S ∨ (¬ S q ∧ q - c.pos ≤ 256) ∧ Gm.took c (recOf q) = true ∧ Gm.Is (Gm.receive c (recOf q)) (fun x => S x ∨ x = q)) ∧
    (Gm.receive c (recOf q)).pos = c.pos ∧ (Gm.receive c (recOf q)).high = Gm.mx c.high q := by
  have hsee : Gm.sees c (recOf q) = true := by
    unfold Gm.sees
    rw [valid_recOf h1 h2, show (recOf q).p = q from rfl, decide_eq_true hq]
    rfl
  have hrec : Gm.receive c (recOf q) = Gm.kept ⟨c.pos, Gm.mx c.high q, c.L⟩ (recOf q) := by
    unfold Gm.receive
    rw [if_pos hsee]
    rfl
  have htook : Gm.took c (recOf q) = Gm.keeps c (recOf q) := by unfold Gm.took; rw [hsee]; rfl
  have hkk : Gm.keeps ⟨c.pos, Gm.mx c.high q, c.L⟩ (recOf q) = Gm.keeps c (recOf q) := rfl
  refine ⟨?_, by rw [hrec]; rfl, by rw [hrec]; rfl⟩
  by_cases hs : S q
  · left
    have hk : Gm.keeps c (recOf q) = false := by
      unfold Gm.keeps
      rw [show (recOf q).p = q from rfl, (h q).1 hs]
      rfl
    refine ⟨.inl hs, by rw [htook, hk], ?_⟩
    rw [hrec, Gm.kept_no (by rw [hkk, hk])]
    exact h
  by_cases hf : q - c.pos ≤ 256
  · right
    have hk : Gm.keeps c (recOf q) = true := by
      unfold Gm.keeps
      rw [show (recOf q).p = q from rfl, (h q).2 hs]
      simpa using hf
    refine ⟨⟨hs, hf⟩, by rw [htook, hk], ?_⟩
    rw [hrec, Gm.kept_yes (by rw [hkk, hk])]
    intro x
    by_cases hx : x = q
    · subst hx
      exact ⟨fun _ => mget_put_same, fun hn => absurd (.inr rfl) hn⟩
    · show ((S x ∨ x = q) → mget (mput c.L q (recOf q)) x = _) ∧ (¬ (S x ∨ x = q) → mget (mput c.L q (recOf q)) x = none)
      rw [mget_put_other hx]
      exact ⟨fun h0 => (h x).1 (h0.resolve_right hx), fun h0 => (h x).2 (fun h3 => h0 (.inl h3))⟩
  · left
    have hk : Gm.keeps c (recOf q) = false := by
      unfold Gm.keeps
      rw [show (recOf q).p = q from rfl]
      have : decide (q - c.pos ≤ 256) = false := by simpa using hf
      rw [this]
      simp
    refine ⟨.inr (by omega), by rw [htook, hk], ?_⟩
    rw [hrec, Gm.kept_no (by rw [hkk, hk])]
    exact h
theorem Gm.take_is (n : Nat) : ∀ (c : Gm.Rcv) (S : Int → Prop), Gm.Ok c → Gm.Is c S → c.L.length ≤ n → ∃ j : Nat, (Gm.take n c).1.length = j ∧ (Gm.take n c).2.pos = c.pos + j ∧ (Gm.take n c).2.high = c.high ∧
    (∀ i : Int, 1 ≤ i → i ≤ j → S (c.pos + i)) ∧ ¬ S (c.pos + j + 1) ∧ Gm.Is (Gm.take n c).2 (fun q => S q ∧ c.pos + j < q) := by
  induction n with
  | zero =>
    intro c S hok h hn
    have hnil : c.L = [] := List.eq_nil_of_length_eq_zero (by omega)
    refine ⟨0, rfl, by simp [Gm.take], rfl, fun i h1 h2 => by omega, fun hs => ?_, fun q => ?_⟩
    · have := (h _).1 hs
      rw [hnil] at this
      cases this
    · show (S q ∧ c.pos + 0 < q → mget c.L q = _) ∧ (_ → mget c.L q = none)
      rw [hnil]
      refine ⟨fun hs => ?_, fun _ => rfl⟩
      have := (h q).1 hs.1
      rw [hnil] at this
      cases this
  | succ n ih =>
    intro c S hok h hn
    cases hg : mget c.L (c.pos + 1) with
    | none =>
      rw [Gm.take_none hg]
      refine ⟨0, rfl, by simp, rfl, fun i h1 h2 => by omega, fun hs => ?_, fun q => ?_⟩
      · have := (h _).1 hs
        simp at this
        rw [hg] at this
        cases this
      · refine ⟨fun hs => (h q).1 hs.1, fun hs => (h q).2 (fun h0 => hs ⟨h0, ?_⟩)⟩
        have := (h.mem hok h0).1
        simpa using this
    | some r =>
      obtain ⟨e1, e2, e3⟩ := hok.next hg
      have hs1 : S (c.pos + 1) := by
        by_cases hs : S (c.pos + 1)
        · exact hs
        · rw [(h _).2 hs] at hg; cases hg
      have his : Gm.Is ⟨r.p, c.high, mdel c.L r.p⟩ (fun q => S q ∧ q ≠ r.p) := fun q => by
        by_cases hq : q = r.p
        · subst hq
          exact ⟨fun h0 => absurd rfl h0.2, fun _ => mget_del_same⟩
        · show (S q ∧ q ≠ r.p → mget (mdel c.L r.p) q = _) ∧ (_ → mget (mdel c.L r.p) q = none)
          rw [mget_del_other hq]
          exact ⟨fun h0 => (h q).1 h0.1, fun h0 => (h q).2 (fun h3 => h0 ⟨h3, hq⟩)⟩
      obtain ⟨j, k1, k2, k3, k4, k5, k6⟩ := ih _ _ e2 his (by show (mdel c.L r.p).length ≤ n; omega)
      rw [Gm.take_some hg]
      dsimp only at k1 k2 k3 k4 k5 k6 ⊢
      refine ⟨j + 1, by simp [k1], by rw [k2, e1]; omega, k3, fun i h1 h2 => ?_, fun hs => k5 ⟨?_, ?_⟩, k6.congr fun q => ?_⟩
      · by_cases hi : i = 1
        · rw [hi]; exact hs1
        · have := (k4 (i - 1) (by omega) (by omega)).1
          rw [e1] at this
          rw [show c.pos + i = c.pos + 1 + (i - 1) by omega]
          exact this
      · rw [e1]
        rw [show c.pos + 1 + (j : Int) + 1 = c.pos + ((j + 1 : Nat) : Int) + 1 by omega]
        exact hs
      · rw [e1]; omega
      · constructor
        · rintro ⟨⟨h1, h2⟩, h3⟩; exact ⟨h1, by rw [e1] at h3; omega⟩
        · rintro ⟨h1, h3⟩; exact ⟨⟨h1, by rw [e1]; omega⟩, by rw [e1]; omega⟩
theorem Gm.missing_succ {c : Gm.Rcv} {S : Int → Prop} (h : Gm.Is c S) (p : Int) (n : Nat) : (S (p + n + 1) ∧ Gm.missing c.L p (n + 1) = Gm.missing c.L p n) ∨ (¬ S (p + n + 1) ∧ Gm.missing c.L p (n + 1) = Gm.widen (Gm.missing c.L p n) (p + n + 1)) := by
  by_cases hs : S (p + n + 1)
  · left
    refine ⟨hs, ?_⟩
    show (if (mget c.L (p + n + 1)).isSome = true then _ else _) = _
    rw [(h _).1 hs]
    rfl
  · right
    refine ⟨hs, ?_⟩
    show (if (mget c.L (p + n + 1)).isSome = true then _ else _) = _
    rw [(h _).2 hs]
    rfl
end Go.Proofs.Ytlolinaggobbdaa
