/-
  The plain law behind VouchComplete: what a clock of few beats vouches for.
-/
import Derived.Test.YtjiilmobjgdenaaVouchG
namespace Go.Proofs.Ytjiilmobjgdenaa
open Go.RowKit

/-- v is the greatest time of those beats whose positions are in P, 0 if there is none. -/
def Mx (bs : List (Int × Int)) (P : Int → Prop) (v : Int) : Prop := 0 ≤ v ∧ (∀ b ∈ bs, P b.1 → b.2 ≤ v) ∧ (v = 0 ∨ ∃ b ∈ bs, P b.1 ∧ b.2 = v)
theorem Mx.unique {bs : List (Int × Int)} {P : Int → Prop} {v u : Int} (h : Mx bs P v) (k : Mx bs P u) : v = u := by
  obtain ⟨h0, h1, h2⟩ := h
  obtain ⟨k0, k1, k2⟩ := k
  rcases h2 with rfl | ⟨b, hb, hp, rfl⟩
  · rcases k2 with rfl | ⟨b, hb, hp, rfl⟩
    · rfl
    · have := h1 b hb hp; omega
  · have a1 := k1 b hb hp
    rcases k2 with rfl | ⟨b', hb', hp', rfl⟩
    · omega
    · have := h1 b' hb' hp'; omega
theorem isMax_ge (a b : Int) : a ≤ Vm.isMax a b ∧ b ≤ Vm.isMax a b ∧ (Vm.isMax a b = a ∨ Vm.isMax a b = b) := by
  unfold Vm.isMax; split <;> omega
theorem Mx.mono {bs bs' : List (Int × Int)} {P P' : Int → Prop} {v u : Int} (h : Mx bs P v) (k : Mx bs' P' u) (hb : ∀ b ∈ bs, b ∈ bs') (hp : ∀ x, P x → P' x) : v ≤ u := by
  rcases h.2.2 with rfl | ⟨b, h1, h2, rfl⟩
  · exact k.1
  · exact k.2.1 b (hb b h1) (hp _ h2)
theorem Mx.skip {bs : List (Int × Int)} {P : Int → Prop} {v : Int} {b : Int × Int} (h : Mx bs P v) (hb : ¬ P b.1) : Mx (bs ++ [b]) P v := by
  refine ⟨h.1, fun c hc hp => ?_, h.2.2.imp id fun ⟨c, h1, h2⟩ => ⟨c, by simp [h1], h2⟩⟩
  rcases List.mem_append.1 hc with hc | hc
  · exact h.2.1 c hc hp
  · have : c = b := by simpa using hc
    subst this; exact absurd hp hb
theorem Mx.take {bs : List (Int × Int)} {P : Int → Prop} {v : Int} {b : Int × Int} (h : Mx bs P v) (hb : P b.1) (_hpos : 0 ≤ b.2) : Mx (bs ++ [b]) P (Vm.isMax v b.2) := by
  have hm := isMax_ge v b.2
  refine ⟨by have := h.1; omega, fun c hc hp => ?_, ?_⟩
  · rcases List.mem_append.1 hc with hc | hc
    · have := h.2.1 c hc hp; omega
    · have : c = b := by simpa using hc
      subst this; omega
  · rcases hm.2.2 with e | e <;> rw [e]
    · exact h.2.2.imp id fun ⟨c, h1, h2⟩ => ⟨c, by simp [h1], h2⟩
    · exact .inr ⟨b, by simp, hb, rfl⟩

/-- A clock that has heard the beats bs. -/
structure Vm.Heard (bs : List (Int × Int)) (c : Vm.Clk) : Prop where
  asOf : Mx bs (· ≤ c.applied) c.asOf
  wait : ∀ e ∈ c.L, Mx bs (· = e.1) e.2
  all : ∀ b ∈ bs, c.applied < b.1 → ∃ e ∈ c.L, e.1 = b.1
  len : c.L.length ≤ bs.length
theorem Vm.Heard.new : Vm.Heard [] Vm.new := ⟨⟨Int.le_refl _, by simp, .inl rfl⟩, by simp [Vm.new], by simp, by simp [Vm.new]⟩

theorem upTo_spec (p a : Int) (L : List (Int × Int)) : a ≤ Vm.upTo p a L ∧ (∀ e ∈ L, e.1 ≤ p → e.2 ≤ Vm.upTo p a L) ∧ (Vm.upTo p a L = a ∨ ∃ e ∈ L, e.1 ≤ p ∧ Vm.upTo p a L = e.2) := by
  refine rev_ind (motive := fun L => a ≤ Vm.upTo p a L ∧ (∀ e ∈ L, e.1 ≤ p → e.2 ≤ Vm.upTo p a L) ∧ (Vm.upTo p a L = a ∨ ∃ e ∈ L, e.1 ≤ p ∧ Vm.upTo p a L = e.2)) L ⟨Int.le_refl _, by simp, .inl rfl⟩ (fun l b ih => ?_)
  rw [Vm.upTo_snoc]
  obtain ⟨h1, h2, h3⟩ := ih
  have hm := isMax_ge (Vm.upTo p a l) b.2
  split
  · rename_i hb
    refine ⟨by omega, fun e he hp => ?_, ?_⟩
    · rcases List.mem_append.1 he with he | he
      · have := h2 e he hp; omega
      · have : e = b := by simpa using he
        subst this; omega
    · rcases hm.2.2 with e | e <;> rw [e]
      · exact h3.imp id fun ⟨e, a1, a2⟩ => ⟨e, by simp [a1], a2⟩
      · exact .inr ⟨b, by simp, hb, rfl⟩
  · rename_i hb
    refine ⟨h1, fun e he hp => ?_, h3.imp id fun ⟨e, a1, a2⟩ => ⟨e, by simp [a1], a2⟩⟩
    rcases List.mem_append.1 he with he | he
    · exact h2 e he hp
    · have : e = b := by simpa using he
      subst this; exact absurd hp hb
theorem Vm.Heard.applied {bs : List (Int × Int)} {c : Vm.Clk} (h : Vm.Heard bs c) (p : Int) : Vm.Heard bs (Vm.applied c p) := by
  unfold Vm.applied
  split
  · exact h
  · rename_i hlt
    obtain ⟨u1, u2, u3⟩ := upTo_spec p c.asOf c.L
    refine ⟨⟨?_, fun b hb hp => ?_, ?_⟩, fun e he => h.wait e (List.mem_filter.1 he).1, fun b hb hp => ?_, Nat.le_trans (List.length_filter_le _ _) h.len⟩
    · show 0 ≤ Vm.upTo p c.asOf c.L
      have := h.asOf.1; omega
    · show b.2 ≤ Vm.upTo p c.asOf c.L
      by_cases hba : b.1 ≤ c.applied
      · have := h.asOf.2.1 b hb hba; omega
      · obtain ⟨e, he, e1⟩ := h.all b hb (by omega)
        have a1 := (h.wait e he).2.1 b hb e1.symm
        have a2 := u2 e he (by have hp' : b.1 ≤ p := hp; omega)
        omega
    · show Vm.upTo p c.asOf c.L = 0 ∨ _
      rcases u3 with e | ⟨e, he, hp, e1⟩
      · rcases h.asOf.2.2 with a | ⟨b, hb, hp, a⟩
        · exact .inl (by rw [e, a])
        · exact .inr ⟨b, hb, by show b.1 ≤ p; have hp' : b.1 ≤ c.applied := hp; omega, by show b.2 = Vm.upTo p c.asOf c.L; rw [e, a]⟩
      · rcases (h.wait e he).2.2 with a | ⟨b, hb, hp', a⟩
        · exact .inl (by rw [e1, a])
        · exact .inr ⟨b, hb, by show b.1 ≤ p; have : b.1 = e.1 := hp'; omega, by show b.2 = Vm.upTo p c.asOf c.L; rw [e1, a]⟩
    · have hp' : p < b.1 := hp
      obtain ⟨e, he, e1⟩ := h.all b hb (by omega)
      exact ⟨e, List.mem_filter.2 ⟨he, by simpa [e1] using hp'⟩, e1⟩
theorem Vm.Heard.beat {bs : List (Int × Int)} {c : Vm.Clk} (h : Vm.Heard bs c) (hok : Vm.Ok c) (hnd : Nd c.L) (hlen : bs.length ≤ 60) {p t : Int} (hv : Vm.valid p t = true) : Vm.Heard (bs ++ [(p, t)]) (Vm.beat c p t) := by
  have hv' := hv
  simp only [Vm.valid, decide_eq_true_eq] at hv'
  rcases Vm.beat_cases c p t with ⟨e, _⟩ | ⟨_, hle, e⟩ | ⟨_, hlt, e⟩
  · rw [hv] at e; cases e
  · rw [e]
    refine ⟨h.asOf.take hle (by show 0 ≤ t; omega), fun e he => ?_, fun b hb hp => ?_, by simp; have := h.len; omega⟩
    · have := hok.keys e he
      exact (h.wait e he).skip (by show ¬ p = e.1; omega)
    · have hp' : c.applied < b.1 := hp
      rcases List.mem_append.1 hb with hb | hb
      · exact h.all b hb hp
      · have : b = (p, t) := by simpa using hb
        subst this; exact absurd hle (by show ¬ p ≤ c.applied; exact Int.not_le.2 hp')
  · rw [e]
    have hw : Vm.wait c.L p t = mput c.L p (Vm.isMax ((mget c.L p).getD 0) t) := by
      unfold Vm.wait
      dsimp only
      rw [if_neg]
      rw [length_mput hnd]
      have := h.len
      split <;> omega
    rw [hw]
    have hget : Mx bs (· = p) ((mget c.L p).getD 0) := by
      cases hg : mget c.L p with
      | none =>
        refine ⟨Int.le_refl _, fun b hb hp => ?_, .inl rfl⟩
        obtain ⟨e, he, e1⟩ := h.all b hb (by have hp' : b.1 = p := hp; omega)
        exact absurd (e1.trans hp) (mget_none.1 hg e he)
      | some u => exact h.wait (p, u) ((mget_iff hnd).1 hg)
    refine ⟨h.asOf.skip (by show ¬ p ≤ c.applied; omega), fun e he => ?_, fun b hb hp => ?_, ?_⟩
    · rcases mem_mput.1 he with rfl | ⟨h1, h2⟩
      · exact hget.take rfl (by show 0 ≤ t; omega)
      · exact (h.wait e h1).skip (fun e1 => h2 e1.symm)
    · rcases List.mem_append.1 hb with hb | hb
      · obtain ⟨e, he, e1⟩ := h.all b hb hp
        by_cases h1 : e.1 = p
        · exact ⟨_, mem_mput.2 (.inl rfl), h1.symm.trans e1⟩
        · exact ⟨e, mem_mput.2 (.inr ⟨he, h1⟩), e1⟩
      · have : b = (p, t) := by simpa using hb
        subst this
        exact ⟨_, mem_mput.2 (.inl rfl), rfl⟩
    · have := h.len
      show (mput c.L p _).length ≤ _
      rw [length_mput hnd]
      simp only [List.length_append, List.length_singleton]
      split <;> omega

/-- The steps of the law. -/
def bt (x : Stp) : Int × Int := (pickI x.pos 60, 1 + pickI x.time 200)
def isB (x : Stp) : Bool := decide (pickI x.call 4 ≠ 0)
def bts (xs : List Stp) (k : Nat) : List (Int × Int) := ((xs.take k).filter isB).map bt
def wantF (ap v : Int) (x : Stp) : Int := if isB x = true ∧ (bt x).1 ≤ ap then Vm.isMax v (bt x).2 else v
def wantTo (xs : List Stp) (ap : Int) (k : Nat) : Int := (xs.take k).foldl (wantF ap) 0
theorem bts_succ {xs : List Stp} {k : Nat} (h : k < xs.length) : bts xs (k + 1) = if isB xs[k] = true then bts xs k ++ [bt xs[k]] else bts xs k := by
  unfold bts
  rw [List.take_succ_eq_append_getElem h, List.filter_append, List.map_append]
  split
  · rename_i h1; rw [List.filter_cons_of_pos h1]; rfl
  · rename_i h1; rw [List.filter_cons_of_neg h1]; simp
theorem bts_len (xs : List Stp) (k : Nat) : (bts xs k).length ≤ k := by
  unfold bts
  rw [List.length_map]
  exact Nat.le_trans (List.length_filter_le _ _) (List.length_take_le _ _)
theorem wantTo_succ {xs : List Stp} {k : Nat} (ap : Int) (h : k < xs.length) : wantTo xs ap (k + 1) = wantF ap (wantTo xs ap k) xs[k] := by
  unfold wantTo
  rw [List.take_succ_eq_append_getElem h, List.foldl_append]
  rfl
theorem bt_pos (x : Stp) : 0 ≤ (bt x).1 ∧ (bt x).1 < 60 ∧ 1 ≤ (bt x).2 ∧ (bt x).2 ≤ 200 := by
  have h1 := pickI_nonneg x.pos (show (1 : Int) ≤ 60 by decide)
  have h2 := pickI_lt x.pos (show (1 : Int) ≤ 60 by decide)
  have h3 := pickI_nonneg x.time (show (1 : Int) ≤ 200 by decide)
  have h4 := pickI_lt x.time (show (1 : Int) ≤ 200 by decide)
  simp only [bt]
  omega
theorem wantTo_mx (xs : List Stp) (ap : Int) : ∀ k, k ≤ xs.length → Mx (bts xs k) (· ≤ ap) (wantTo xs ap k)
  | 0, _ => ⟨Int.le_refl _, by simp [bts], .inl rfl⟩
  | k + 1, h => by
    have ih := wantTo_mx xs ap k (by omega)
    rw [bts_succ (by omega), wantTo_succ ap (by omega)]
    unfold wantF
    have hp := bt_pos (xs[k]'(by omega))
    by_cases h1 : isB (xs[k]'(by omega)) = true
    · rw [if_pos h1]
      by_cases h2 : (bt (xs[k]'(by omega))).1 ≤ ap
      · rw [if_pos ⟨h1, h2⟩]
        exact ih.take h2 (by omega)
      · rw [if_neg (fun h3 => h2 h3.2)]
        exact ih.skip h2
    · rw [if_neg h1, if_neg (fun h3 => h1 h3.1)]
      exact ih
end Go.Proofs.Ytjiilmobjgdenaa
