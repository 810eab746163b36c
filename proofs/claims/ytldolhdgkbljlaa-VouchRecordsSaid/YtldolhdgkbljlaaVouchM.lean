/-
  PACKAGE vouch IN PLAIN LEAN: what its functions compute.
-/
import Derived.Test.YtldolhdgkbljlaaBase
namespace Go.Proofs.Ytldolhdgkbljlaa.Vm

def cmpI (x y : Int) : Int := if x < y then -1 else if y < x then 1 else 0
def or2 (x y : Int) : Int := if x = 0 then y else x
def later (p t p' t' : Int) : Bool := decide (t' < t ∨ (t = t' ∧ p' < p))
def worse (p t p' t' : Int) : Bool := decide (t < t' ∨ (t = t' ∧ p' < p))
def valid (p t : Int) : Bool := decide (0 ≤ p ∧ p ≤ 10000 ∧ 1 ≤ t ∧ t ≤ 1000000)

structure Clk where
  applied : Int
  asOf : Int
  lp : Int
  lt : Int
  L : List (Int × Int)

def new : Clk := ⟨0, 0, 0, 0, []⟩
def worst (L : List (Int × Int)) : Int × Int := L.foldl (fun o b => if o = (0, 0) ∨ worse b.1 b.2 o.1 o.2 = true then b else o) (0, 0)
def isMax (a b : Int) : Int := if a < b then b else a
def wait (L : List (Int × Int)) (p t : Int) : List (Int × Int) :=
  let L1 := mput L p (isMax ((mget L p).getD 0) t)
  if 64 < L1.length then mdel L1 (worst L1).1 else L1
def beat (c : Clk) (p t : Int) : Clk :=
  if valid p t = true then
    let lp := if later p t c.lp c.lt = true then p else c.lp
    let lt := if later p t c.lp c.lt = true then t else c.lt
    if p ≤ c.applied then ⟨c.applied, isMax c.asOf t, lp, lt, c.L⟩ else ⟨c.applied, c.asOf, lp, lt, wait c.L p t⟩
  else c
def applied (c : Clk) (p : Int) : Clk :=
  if p ≤ c.applied then c
  else ⟨p, (c.L.filter fun e => decide (e.1 ≤ p)).foldl (fun a e => isMax a e.2) c.asOf, c.lp, c.lt, c.L.filter fun e => decide (p < e.1)⟩

theorem worst_snoc (L : List (Int × Int)) (b : Int × Int) : worst (L ++ [b]) = if worst L = (0, 0) ∨ worse b.1 b.2 (worst L).1 (worst L).2 = true then b else worst L := by
  show List.foldl _ _ (L ++ [b]) = _
  rw [List.foldl_append]
  rfl
def IsWorst (L : List (Int × Int)) (x : Int × Int) : Prop := x ∈ L ∧ ∀ b ∈ L, b = x ∨ worse x.1 x.2 b.1 b.2 = true
theorem worst_spec : ∀ (L : List (Int × Int)), (∀ e ∈ L, 1 ≤ e.1) → (L = [] ∧ worst L = (0, 0)) ∨ IsWorst L (worst L) := by
  intro L
  refine rev_ind (motive := fun L => (∀ e ∈ L, 1 ≤ e.1) → (L = [] ∧ worst L = (0, 0)) ∨ IsWorst L (worst L)) L ?_ ?_
  · intro _; exact .inl ⟨rfl, rfl⟩
  · intro l b ih hp
    right
    have hb := hp b (by simp)
    rw [worst_snoc]
    rcases ih (fun e he => hp e (by simp [he])) with ⟨rfl, h0⟩ | ⟨hm, ha⟩
    · rw [if_pos (.inl h0)]
      exact ⟨by simp, fun x hx => .inl (by simpa using hx)⟩
    · have hw := hp _ (List.mem_append_left [b] hm)
      have hz : ¬ worst l = (0, 0) := fun e => by rw [e] at hw; simp at hw
      by_cases hc : worse b.1 b.2 (worst l).1 (worst l).2 = true
      · rw [if_pos (.inr hc)]
        refine ⟨by simp, fun x hx => ?_⟩
        rcases List.mem_append.1 hx with hx | hx
        · right
          rcases ha x hx with rfl | h1
          · exact hc
          · simp only [worse, decide_eq_true_eq] at hc h1 ⊢
            omega
        · exact .inl (by simpa using hx)
      · rw [if_neg (fun h1 => h1.elim hz hc)]
        refine ⟨by simp [hm], fun x hx => ?_⟩
        rcases List.mem_append.1 hx with hx | hx
        · exact ha x hx
        · obtain rfl : x = b := by simpa using hx
          by_cases e1 : x = worst l
          · exact .inl e1
          · right
            have : x.1 ≠ (worst l).1 ∨ x.2 ≠ (worst l).2 := by
              rcases Decidable.em (x.1 = (worst l).1) with h1 | h1
              · exact .inr fun h2 => e1 (Prod.ext h1 h2)
              · exact .inl h1
            simp only [worse, decide_eq_true_eq] at hc ⊢
            omega
theorem worst_perm {L L' : List (Int × Int)} (h : L.Perm L') (hp : ∀ e ∈ L, 1 ≤ e.1) : worst L = worst L' := by
  rcases worst_spec L hp with ⟨rfl, h0⟩ | ⟨hm, ha⟩
  · rw [h.nil_eq]
  · rcases worst_spec L' (fun e he => hp e (h.mem_iff.2 he)) with ⟨rfl, _⟩ | ⟨hm', ha'⟩
    · rw [h.eq_nil] at hm; simp at hm
    · rcases ha _ (h.mem_iff.2 hm') with e1 | e1
      · exact e1.symm
      · rcases ha' _ (h.mem_iff.1 hm) with e2 | e2
        · exact e2
        · simp only [worse, decide_eq_true_eq] at e1 e2
          omega

/-! ### 'Applied' -/
def upTo (p a : Int) (L : List (Int × Int)) : Int := (L.filter fun e => decide (e.1 ≤ p)).foldl (fun a e => isMax a e.2) a
theorem upTo_snoc (p a : Int) (L : List (Int × Int)) (e : Int × Int) : upTo p a (L ++ [e]) = if e.1 ≤ p then isMax (upTo p a L) e.2 else upTo p a L := by
  unfold upTo
  rw [List.filter_append]
  by_cases h : e.1 ≤ p
  · rw [if_pos h, List.filter_cons_of_pos (by simpa using h), List.foldl_append]
    rfl
  · rw [if_neg h, List.filter_cons_of_neg (by simpa using h)]
    simp
theorem upTo_perm (p a : Int) {L L' : List (Int × Int)} (h : L.Perm L') : upTo p a L = upTo p a L' := by
  unfold upTo
  refine (h.filter _).foldl_eq' (fun x _ y _ z => ?_) a
  simp only [isMax]
  repeat' split
  all_goals omega

end Go.Proofs.Ytldolhdgkbljlaa.Vm
