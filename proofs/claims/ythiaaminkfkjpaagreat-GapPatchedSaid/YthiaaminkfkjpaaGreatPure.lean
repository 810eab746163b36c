/-
  A CALL WHOSE CALLEE LEAVES THE WORLD AS IT IS MAY BE TAKEN FIRST in a drawn region's head, as a load may. And: what is held may become more on the way (the cells of a slice that the region itself has made).
-/
import Derived.Test.YthiaaminkfkjpaaGreatGbk
namespace Go.Proofs.YthiaaminkfkjpaaGreat
open Go

section
variable {P : Program} {ops : Array Oper} {Q : Exit → Act → World → Prop} {md : Region.Mode} {S S' : World → Prop}
/-- In state 'a', in every world of S, the call 'o' hands back 'v' and leaves the world as it is. -/
def CallIf (P : Program) (ops : Array Oper) (S : World → Prop) (o : Oper) (v : Value) (a : Act) : Prop :=
  Region.wanted o (yielded ops a.tmps) = true ∧ ∀ w, S w → ∃ f args, (execOp a.eval o).run P w = .ok (.enter f args) w ∧ Calls P f args w (fun e w' => e = .returned v ∧ w = w')
theorem CallIf.runs {i : Nat} {o : Oper} {v : Value} {a : Act} (hi : ops[i]? = some o) (hy : CallIf P ops S o v a) {K : Act → World → Prop} {w : World} (hS : S w) (h : K (a.put o.dst v) w) : wpOp P ops Q i K a w := by
  obtain ⟨hw, hv⟩ := hy
  obtain ⟨f, args, hr, hc⟩ := hv w hS
  unfold wpOp
  simp only [hi, hw, if_true]
  refine .inl ?_
  unfold Oper.wp
  rw [hr]
  refine Calls.mono hc ?_
  rintro e w' ⟨rfl, rfl⟩
  exact h
theorem CallIf.same {o : Oper} {v : Value} {a a' : Act} (hy : CallIf P ops S o v a) (he : execOp a'.eval o = execOp a.eval o) (hw : Region.wanted o (yielded ops a'.tmps) = Region.wanted o (yielded ops a.tmps)) : CallIf P ops S o v a' := by
  unfold CallIf at *
  rw [he, hw]
  exact hy
theorem CallIf.past {j : Nat} {oi oj : Oper} {v : Value} (hj : ops[j]? = some oj) (hap : oi.apart ops oj = true) (hsi : ∀ cs b, oi.op ≠ .select cs b) (hsj : ∀ cs b, oj.op ≠ .select cs b)
    (hQ : ∀ c a w, Q (.panic c) (a.put oi.dst v) w → Q (.panic c) a w) {K : Act → World → Prop} {a : Act} {w : World} (hy : CallIf P ops S oi v a) (h : wpOp P ops Q j K (a.put oi.dst v) w) :
    wpOp P ops Q j (fun a' w' => CallIf P ops S oi v a' ∧ K (a'.put oi.dst v) w') a w := by
  obtain ⟨h1, h2, h3⟩ := Oper.apart_spec hap
  have put_ : ∀ (b : Act), CallIf P ops S oi v b → ∀ u, CallIf P ops S oi v (b.put oj.dst u) := fun b hb u => hb.same (execOp_put oi hsi b oj.dst u h3) (wanted_put oi b oj.dst u h3)
  unfold wpOp at *
  simp only [hj] at *
  rw [wanted_put oj a oi.dst v h1] at h
  by_cases hw : Region.wanted oj (yielded ops a.tmps) = true
  · simp only [hw, if_true] at h ⊢
    rcases h with h | ⟨ha, hl⟩
    · refine .inl ?_
      unfold Oper.wp at *
      rw [execOp_put oj hsj a oi.dst v h1] at h
      generalize (execOp a.eval oj).run P w = r at *
      have put0 : ∀ d, CallIf P ops S oi v { a with defers := d :: a.defers } := fun d => hy.same rfl rfl
      cases r with
      | ok n w' =>
        cases n <;> simp only [Oper.upon] at h ⊢
        case value u => exact ⟨put_ a hy u, by rw [← Act.put_comm a v u h2]; exact h⟩
        case skip => exact ⟨put_ a hy _, by rw [← Act.put_comm a v undef h2]; exact h⟩
        case defer d => exact ⟨put_ _ (put0 d) _, by rw [← Act.put_comm _ v undef h2, ← Act.put_defers]; exact h⟩
        case enter f args =>
          refine Calls.mono h fun e w'' he => ?_
          cases e with
          | returned u => exact ⟨put_ a hy u, by rw [← Act.put_comm a v u h2]; exact he⟩
          | panicked c => exact hQ _ _ _ he
          | outgrown => exact he
        case row row args => exact Rows.mono h fun u w'' he => ⟨put_ a hy u, by rw [← Act.put_comm a v u h2]; exact he⟩
      | halt x w' =>
        cases x <;> simp only [Oper.upon] at h ⊢
        case panic u => exact hQ _ _ _ h
    · exact .inr ⟨by unfold Oper.asks at *; rw [execOp_put oj hsj a oi.dst v h1] at ha; exact ha, hl⟩
  · simp only [hw] at h ⊢
    exact ⟨put_ a hy _, by rw [← Act.put_comm a v undef h2]; exact h⟩
theorem HeadS.firstC {n i : Nat} {oi : Oper} {v : Value} {L : Array Bool → Act → World → Prop} (hi : ops[i]? = some oi) (hsel : ∀ (j : Nat) (o : Oper) cs b, ops[j]? = some o → o.op ≠ .select cs b)
    (hQ : ∀ c a w, Q (.panic c) (a.put oi.dst v) w → Q (.panic c) a w)
    (hs : Region.sinkB md ops n = true) (hc : Region.chainB md ops n = true) (hn : n < ops.size) (hin : i < n) (hend : ∀ done a w, L done a w → ∀ j ∈ Region.ready md ops done, n ≤ j) :
    ∀ (f : Nat) (done : Array Bool) (a : Act) (w : World), HeadInv md ops n done →
      (∀ j oj, ops[j]? = some oj → j ≠ i → done.getD j true = false → (∀ e ∈ oj.after, Region.binds md e = true → e.on ≠ i) → oi.apart ops oj = true) →
      i ∈ Region.ready md ops done → CallIf P ops S oi v a → S w → HeadS P md ops Q S n L f (done.setIfInBounds i true) (a.put oi.dst v) w → HeadS P md ops Q S n L (f + 1) done a w := by
  intro f
  induction f with
  | zero =>
    intro done a w inv _ hr hy hS H
    have hun := (mem_ready.1 hr).1
    refine ⟨List.ne_nil_of_mem hr, fun j hj => ?_⟩
    have hjn : j < n := Nat.lt_of_not_le fun h => tail_waits hs hc hn inv _ i rfl hin hun j h hj
    refine ⟨hjn, ?_⟩
    by_cases e : j = i
    · subst e
      exact hy.runs hi hS ⟨hS, H⟩
    · exact absurd (hend _ _ _ H j (ready_mono hj e)) (by omega)
  | succ f ih =>
    intro done a w inv hfree hr hy hS H
    have hun := (mem_ready.1 hr).1
    refine ⟨List.ne_nil_of_mem hr, fun j hj => ?_⟩
    have hjn : j < n := Nat.lt_of_not_le fun h => tail_waits hs hc hn inv _ i rfl hin hun j h hj
    refine ⟨hjn, ?_⟩
    by_cases e : j = i
    · subst e
      exact hy.runs hi hS ⟨hS, H⟩
    · obtain ⟨hjun, oj, hoj, hall⟩ := mem_ready.1 hj
      have hnot : ∀ e ∈ oj.after, Region.binds md e = true → e.on ≠ i := by
        intro x hx hb hxi
        have h1 := hall x hx hb
        rw [hxi, getD_both hun] at h1
        cases h1
      have h2 := CallIf.past hoj (hfree j oj hoj e hjun hnot) (fun cs b => hsel i oi cs b hi) (fun cs b => hsel j oj cs b hoj) hQ hy (H.2 j (ready_mono hj e)).2
      have hfree' : ∀ k ok, ops[k]? = some ok → k ≠ i → (done.setIfInBounds j true).getD k true = false →
          (∀ e ∈ ok.after, Region.binds md e = true → e.on ≠ i) → oi.apart ops ok = true := fun k ok hk hki hkun hkn => by
        refine hfree k ok hk hki ?_ hkn
        by_cases hjk : j = k
        · subst hjk
          exact hjun
        · rwa [getD_set_ne true hjk] at hkun
      refine wpOp_mono (fun a' w' h3 => ⟨h3.2.1, ih (done.setIfInBounds j true) a' w' (inv.set hj hjn) hfree' (ready_mono hr (Ne.symm e)) h3.1 h3.2.1 ?_⟩) h2
      rw [Array.setIfInBounds_comm _ _ e]
      exact h3.2.2
/-- A call that changes nothing is taken first. -/
theorem wpHead_call {n i : Nat} {oi : Oper} {v : Value} {f : Nat} {done : Array Bool} {a : Act} {w : World} (hi : ops[i]? = some oi)
    (hB : (Region.noSelect ops && (Region.sinkB md ops n && (Region.chainB md ops n && (decide (n < ops.size) && (decide (i < n) && (Region.free md ops done i && (Region.ready md ops done).contains i)))))) = true)
    (hQ : ∀ c a w, Q (.panic c) (a.put oi.dst v) w → Q (.panic c) a w) (hy : CallIf P ops S oi v a) (hS : S w)
    (h : wpHead P md ops Q S n f (done.setIfInBounds i true) (a.put oi.dst v) w) : wpHead P md ops Q S n (f + 1) done a w := fun inv => by
  simp only [Bool.and_eq_true, decide_eq_true_eq] at hB
  obtain ⟨b1, b2, b3, b4, b5, b6, b7⟩ := hB
  have hr : i ∈ Region.ready md ops done := by simpa using b7
  exact HeadS.firstC hi (Region.noSelect_spec b1) hQ b2 b3 b4 b5 (fun d a' w' hL => seqB_ready hL.1) f done a w inv (Region.free_spec hi b6) hr hy hS (h (inv.set hr b5))
theorem HeadS.more {n : Nat} {L : Array Bool → Act → World → Prop} (hm : ∀ w, S' w → S w) : ∀ (f : Nat) (done : Array Bool) (a : Act) (w : World), HeadS P md ops Q S' n L f done a w → HeadS P md ops Q S n L f done a w
  | 0, _, _, _, h => h
  | f + 1, _, _, _, h => ⟨h.1, fun i hi => ⟨(h.2 i hi).1, wpOp_mono (fun _ _ h' => ⟨hm _ h'.1, HeadS.more hm f _ _ _ h'.2⟩) (h.2 i hi).2⟩⟩
/-- From here on more is held. -/
theorem wpHead_more {n f : Nat} {done : Array Bool} {a : Act} {w : World} (S' : World → Prop) (hm : ∀ w, S' w → S w) (h : wpHead P md ops Q S' n f done a w) : wpHead P md ops Q S n f done a w :=
  fun inv => HeadS.more hm _ _ _ _ (h inv)
/-- What is held may be stated anew where it is equivalent: less is held from here on, on a world of which all is known. -/
theorem CallIf.of {o : Oper} {v : Value} {a : Act} (hw : Region.wanted o (yielded ops a.tmps) = true) {f : Nat} {args : Array Value} (he : ∀ w, S w → (execOp a.eval o).run P w = .ok (.enter f args) w) (hc : ∀ w, S w → Calls P f args w (fun e w' => e = .returned v ∧ w = w')) : CallIf P ops S o v a :=
  ⟨hw, fun w h => ⟨f, args, he w h, hc w h⟩⟩
end
end Go.Proofs.YthiaaminkfkjpaaGreat
