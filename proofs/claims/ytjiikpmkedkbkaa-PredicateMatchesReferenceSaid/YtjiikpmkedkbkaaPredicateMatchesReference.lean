/-
  PredicateMatchesReference: Touches and Patch agree with the reference implementation, for any query, result and change. Conditions: none.
-/
import Derived.Test.YtjiikpmkedkbkaaPxM
import Derived.Test.YtjiikpmkedkbkaaGar
import Derived.Test.YtjiikpmkedkbkaaGac
namespace Go.Proofs.Ytjiikpmkedkbkaa
open Go.RowKit Go.WideShapes Go.ChangeShapes

set_option maxRecDepth 100000 in
theorem mre_law : LawWalk 3 Try.f3 := by
  intro H enc W base args ds p hval0 hA0 hlt hsz
  have hval : ∀ (j : Nat) t v, Try.f3.params[j]? = some t → args[j]? = some v → Value.okWide Try.prog W .any base t v := hval0
  have hA : DataW.TrodAll enc Try.prog W 0 (fun _ => true) true Try.f3.params.toList args.toList ds p := hA0
  clear hA0 hval0 hsz
  rw [Try.params3] at hA hval
  obtain ⟨v0, vs0, d0, ds0, p0, q0, hargs, rfl, rfl, h0, r0⟩ := trodAll_cons hA
  obtain ⟨v1, vs1, d1, ds1, p1, q1, rfl, rfl, rfl, h1, r1⟩ := trodAll_cons r0
  obtain ⟨v2, vs2, d2, ds2, p2, q2, rfl, rfl, rfl, h2, r2⟩ := trodAll_cons r1
  obtain ⟨v3, vs3, d3, ds3, p3, q3, rfl, rfl, rfl, h3, r3⟩ := trodAll_cons r2
  obtain ⟨v4, vs4, d4, ds4, p4, q4, rfl, rfl, rfl, h4, r4⟩ := trodAll_cons r3
  obtain ⟨rfl, rfl, rfl⟩ := trodAll_nil r4
  obtain rfl : args = #[v0, v1, v2, v3, v4] := by cases args; simp_all
  obtain ⟨a0, b0, c0, e0, f0, rfl, wa0, wb0, wc0, we0, wf0⟩ := open_five (hval 0 _ v0 rfl rfl) h0
  obtain ⟨q1, rfl, hq1⟩ := open_query (hval 1 _ v1 rfl rfl) h1
  obtain ⟨A2, n2, cap2, L2, z2, f2, rfl, hn2, hmax2, hl2, hr2, hz2⟩ := open_result (hval 2 _ v2 rfl rfl) h2
  obtain ⟨q3, rfl, hq3⟩ := open_change (hval 3 _ v3 rfl rfl) h3
  obtain ⟨A4, n4, cap4, rfl, hn4, hmax4, hx4⟩ := open_sixes (hval 4 _ v4 rfl rfl) h4
  exact mref_walk a0 b0 c0 e0 f0 q1 A2 n2 cap2 L2 z2 f2 q3 A4 n4 cap4 W wa0 wb0 wc0 we0 wf0 hq1 hn2 hmax2 hl2 hr2 hq3 hn4 hmax4 hx4

set_option maxRecDepth 100000 in
theorem mre_lifted (os : Os) (started : os.Started) (H : Type) (enc : TypeId × Value → H) :
    ReturnsInHanded {} Try.checked os 3 .any (Rows.predicateMatchesReferenceSpec.pre6 enc Try.prog Try.f3 Rows.predicateMatchesReferenceRow.domain false) (Rows.predicateMatchesReferenceSpec.post enc Try.prog Try.f3 false true false false) :=
  law_lifted (s := Rows.predicateMatchesReferenceSpec) (conds := Rows.predicateMatchesReferenceRow.domain) Try.func3 (by kernel_rfl) rfl rfl
    (by
      rw [Try.params3]
      intro t ht
      simp only [List.mem_cons, List.not_mem_nil, or_false] at ht
      rcases ht with rfl | rfl | rfl | rfl | rfl
      all_goals exact ⟨by kernel_rfl, of_decide_eq_true (by kernel_rfl)⟩)
    (fun H ds h => by
      match ds, h with
      | [d0, d1, d2, d3, d4], _ => exact ⟨rfl, rfl, rfl⟩) mre_law os started H enc
    (ChangeSpec.witness6 (enc := enc) (C := Try.checked) false ⟨#[], #[.agg #[.int .i64 0, .int .i64 0, .int .i64 0, .int .i64 0, .int .i64 0], .agg #[.int .i64 0, .int .i64 0, .int .i64 0, .int .i64 0, .int .i64 0, .int .i64 0, .int .i64 0], .agg #[.slice none 0 0, .int .i64 0, .bool false], .agg #[.int .i64 0, .int .i64 0, .bool false, .int .i64 0, .int .i64 0, .int .i64 0, .bool false, .int .i64 0, .int .i64 0, .int .i64 0], .slice none 0 0], []⟩ 8 (by kernel_rfl) (by kernel_rfl) (by kernel_rfl) (by kernel_rfl))

theorem mre_holds : Rows.PredicateMatchesReferenceSaid :=
  OpenClaim.holds_of_wide 3 Try.f3 rfl rfl rfl rfl rfl rfl rfl ⟨rfl, rfl, rfl, rfl, rfl⟩ rfl rfl rfl rfl rfl (by kernel_rfl) Try.func3 (by kernel_rfl)
    (of_decide_eq_true (by kernel_rfl)) (by unfold Func.isWrapper; rw [if_neg (of_decide_eq_false (by kernel_rfl))]; exact ⟨rfl, rfl⟩)
    (fun os started H enc _ => mre_lifted os started H enc)
#print axioms mre_holds

end Go.Proofs.Ytjiikpmkedkbkaa
