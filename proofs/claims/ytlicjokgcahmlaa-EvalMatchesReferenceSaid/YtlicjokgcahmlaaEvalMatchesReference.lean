/-
  Of agrees with the reference implementation: at most 40 changes that integers determine, an arbitrary query, and a valid one that integers determine. Conditions: none.
-/
import Derived.Test.YtlicjokgcahmlaaEwS
import Derived.Test.YtlicjokgcahmlaaQry
namespace Go.Proofs.Ytlicjokgcahmlaa
open Go.RowKit Go.WideShapes Go.ChangeShapes

set_option maxRecDepth 100000 in
theorem ematch_law : LawWalk 4 Try.f4 := by
  intro H enc W base args ds p hval0 hA0 hlt hsz
  have hval : ∀ (j : Nat) t v, Try.f4.params[j]? = some t → args[j]? = some v → Value.okWide Try.prog W .any base t v := hval0
  have hA : DataW.TrodAll enc Try.prog W 0 (fun _ => true) true Try.f4.params.toList args.toList ds p := hA0
  clear hA0 hval0 hsz
  rw [Try.params4] at hA hval
  obtain ⟨v0, vs0, d0, ds0, p0, q0, hargs, rfl, rfl, h0, r0⟩ := trodAll_cons hA
  obtain ⟨v1, vs1, d1, ds1, p1, q1, rfl, rfl, rfl, h1, r1⟩ := trodAll_cons r0
  obtain ⟨v2, vs2, d2, ds2, p2, q2, rfl, rfl, rfl, h2, r2⟩ := trodAll_cons r1
  obtain ⟨rfl, rfl, rfl⟩ := trodAll_nil r2
  obtain rfl : args = #[v0, v1, v2] := by cases args; simp_all
  obtain ⟨A0, n0, cap0, rfl, hn0, hmax0, hx0⟩ := open_fours (hval 0 _ v0 rfl rfl) h0
  obtain ⟨q1, rfl, hq1⟩ := open_query (hval 1 _ v1 rfl rfl) h1
  obtain ⟨a2, b2, c2, e2, rfl, wa2, wb2, wc2, we2⟩ := open_four (hval 2 _ v2 rfl rfl) h2
  exact ematch_walk A0 n0 cap0 q1 a2 b2 c2 e2 W hn0 hmax0 hx0 wa2 wb2 wc2 we2

set_option maxRecDepth 100000 in
theorem ematch_lifted (os : Os) (started : os.Started) (H : Type) (enc : TypeId × Value → H) :
    ReturnsInHanded {} Try.checked os 4 .any (Rows.evalMatchesReferenceSpec.pre6 enc Try.prog Try.f4 Rows.evalMatchesReferenceRow.domain false) (Rows.evalMatchesReferenceSpec.post enc Try.prog Try.f4 false true false false) :=
  law_lifted (s := Rows.evalMatchesReferenceSpec) (conds := Rows.evalMatchesReferenceRow.domain) Try.func4 (by kernel_rfl) rfl rfl
    (by
      rw [Try.params4]
      intro t ht
      simp only [List.mem_cons, List.not_mem_nil, or_false] at ht
      rcases ht with rfl | rfl | rfl
      all_goals exact ⟨by kernel_rfl, of_decide_eq_true (by kernel_rfl)⟩)
    (fun H ds h => by
      match ds, h with
      | [d0, d1, d2], _ => exact ⟨rfl, rfl, rfl⟩) ematch_law os started H enc
    (ChangeSpec.witness6 (enc := enc) (C := Try.checked) false ⟨#[], #[.slice none 0 0, .agg #[.int .i64 0, .int .i64 0, .int .i64 0, .int .i64 0, .int .i64 0, .int .i64 0, .int .i64 0], .agg #[.int .i64 0, .int .i64 0, .int .i64 0, .int .i64 0]], []⟩ 8 (by kernel_rfl) (by kernel_rfl) (by kernel_rfl) (by kernel_rfl))

theorem ematch_holds : Rows.EvalMatchesReferenceSaid :=
  OpenClaim.holds_of_wide 4 Try.f4 rfl rfl rfl rfl rfl rfl rfl ⟨rfl, rfl, rfl, rfl, rfl⟩ rfl rfl rfl rfl rfl (by kernel_rfl) Try.func4 (by kernel_rfl)
    (of_decide_eq_true (by kernel_rfl)) (by unfold Func.isWrapper; rw [if_neg (of_decide_eq_false (by kernel_rfl))]; exact ⟨rfl, rfl⟩)
    (fun os started H enc _ => ematch_lifted os started H enc)
#print axioms ematch_holds

end Go.Proofs.Ytlicjokgcahmlaa
