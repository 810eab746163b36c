/-
  Results share no memory with arguments, and arguments are not changed; a query that is not valid has a zero result: an arbitrary query, a valid one that integers determine, at most 40 changes that integers determine. Conditions: none.
-/
import Derived.Test.YtlicjokgcahmlaaEwO
import Derived.Test.YtlicjokgcahmlaaQry
namespace Go.Proofs.Ytlicjokgcahmlaa
open Go.RowKit Go.WideShapes Go.ChangeShapes

set_option maxRecDepth 100000 in
theorem owns_law : LawWalk 7 Try.f7 := by
  intro H enc W base args ds p hval0 hA0 hlt hsz
  have hval : ∀ (j : Nat) t v, Try.f7.params[j]? = some t → args[j]? = some v → Value.okWide Try.prog W .any base t v := hval0
  have hA : DataW.TrodAll enc Try.prog W 0 (fun _ => true) true Try.f7.params.toList args.toList ds p := hA0
  clear hA0 hval0 hsz
  rw [Try.params7] at hA hval
  obtain ⟨v0, vs0, d0, ds0, p0, q0, hargs, rfl, rfl, h0, r0⟩ := trodAll_cons hA
  obtain ⟨v1, vs1, d1, ds1, p1, q1, rfl, rfl, rfl, h1, r1⟩ := trodAll_cons r0
  obtain ⟨v2, vs2, d2, ds2, p2, q2, rfl, rfl, rfl, h2, r2⟩ := trodAll_cons r1
  obtain ⟨rfl, rfl, rfl⟩ := trodAll_nil r2
  obtain rfl : args = #[v0, v1, v2] := by cases args; simp_all
  obtain ⟨q0, rfl, hq0⟩ := open_query (hval 0 _ v0 rfl rfl) h0
  obtain ⟨a1, b1, c1, e1, rfl, wa1, wb1, wc1, we1⟩ := open_four (hval 1 _ v1 rfl rfl) h1
  obtain ⟨A2, n2, cap2, rfl, hn2, hmax2, hx2⟩ := open_fours (hval 2 _ v2 rfl rfl) h2
  exact owns_walk q0 a1 b1 c1 e1 A2 n2 cap2 W wa1 wb1 wc1 we1 hn2 hmax2 hx2

set_option maxRecDepth 100000 in
theorem owns_lifted (os : Os) (started : os.Started) (H : Type) (enc : TypeId × Value → H) :
    ReturnsInHanded {} Try.checked os 7 .any (Rows.evalOwnsSpec.pre6 enc Try.prog Try.f7 Rows.evalOwnsRow.domain false) (Rows.evalOwnsSpec.post enc Try.prog Try.f7 false true false false) :=
  law_lifted (s := Rows.evalOwnsSpec) (conds := Rows.evalOwnsRow.domain) Try.func7 (by kernel_rfl) rfl rfl
    (by
      rw [Try.params7]
      intro t ht
      simp only [List.mem_cons, List.not_mem_nil, or_false] at ht
      rcases ht with rfl | rfl | rfl
      all_goals exact ⟨by kernel_rfl, of_decide_eq_true (by kernel_rfl)⟩)
    (fun H ds h => by
      match ds, h with
      | [d0, d1, d2], _ => exact ⟨rfl, rfl, rfl⟩) owns_law os started H enc
    (ChangeSpec.witness6 (enc := enc) (C := Try.checked) false ⟨#[], #[.agg #[.int .i64 0, .int .i64 0, .int .i64 0, .int .i64 0, .int .i64 0, .int .i64 0, .int .i64 0], .agg #[.int .i64 0, .int .i64 0, .int .i64 0, .int .i64 0], .slice none 0 0], []⟩ 8 (by kernel_rfl) (by kernel_rfl) (by kernel_rfl) (by kernel_rfl))

theorem owns_holds : Rows.EvalOwnsSaid :=
  OpenClaim.holds_of_wide 7 Try.f7 rfl rfl rfl rfl rfl rfl rfl ⟨rfl, rfl, rfl, rfl, rfl⟩ rfl rfl rfl rfl rfl (by kernel_rfl) Try.func7 (by kernel_rfl)
    (of_decide_eq_true (by kernel_rfl)) (by unfold Func.isWrapper; rw [if_neg (of_decide_eq_false (by kernel_rfl))]; exact ⟨rfl, rfl⟩)
    (fun os started H enc _ => owns_lifted os started H enc)
#print axioms owns_holds

end Go.Proofs.Ytlicjokgcahmlaa
