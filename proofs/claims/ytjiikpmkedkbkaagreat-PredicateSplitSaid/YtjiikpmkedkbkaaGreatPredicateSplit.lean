/-
  PredicateSplit: applying a record to a result is applying its changes as records of their own, one after the other; the record touches a query exactly if one of these does. Conditions: none.
-/
import Derived.Test.YtjiikpmkedkbkaaGreatPyS
import Derived.Test.YtjiikpmkedkbkaaGreatPo
import Derived.Test.YtjiikpmkedkbkaaGreatMad
namespace Go.Proofs.YtjiikpmkedkbkaaGreat
open Go.RowKit Go.WideShapes Go.ChangeShapes

set_option maxRecDepth 100000 in
theorem spl_law : LawWalk 6 Tryz.f6 := by
  intro H enc W base args ds p hval0 hA0 hlt hsz
  have hval : ∀ (j : Nat) t v, Tryz.f6.params[j]? = some t → args[j]? = some v → Value.okWide Tryz.prog W .any base t v := hval0
  have hA : DataW.TrodAll enc Tryz.prog W 0 (fun _ => true) true Tryz.f6.params.toList args.toList ds p := hA0
  clear hA0 hval0 hsz
  rw [Tryz.params6] at hA hval
  obtain ⟨v0, vs0, d0, ds0, p0, q0, hargs, rfl, rfl, h0, r0⟩ := trodAll_cons hA
  obtain ⟨v1, vs1, d1, ds1, p1, q1, rfl, rfl, rfl, h1, r1⟩ := trodAll_cons r0
  obtain ⟨rfl, rfl, rfl⟩ := trodAll_nil r1
  obtain rfl : args = #[v0, v1] := by cases args; simp_all
  obtain ⟨A0, n0, cap0, rfl, hn0, hmax0, hx0⟩ := open_sixes (hval 0 _ v0 rfl rfl) h0
  obtain ⟨a1, b1, c1, e1, f1, rfl, wa1, wb1, wc1, we1, wf1⟩ := open_five (hval 1 _ v1 rfl rfl) h1
  exact split_walk A0 n0 cap0 a1 b1 c1 e1 f1 W hn0 hmax0 hx0 wa1 wb1 wc1 we1 wf1

set_option maxRecDepth 100000 in
theorem spl_lifted (os : Os) (started : os.Started) (H : Type) (enc : TypeId × Value → H) :
    ReturnsInHanded {} Tryz.checked os 6 .any (Rows.predicateSplitSpec.pre6 enc Tryz.prog Tryz.f6 Rows.predicateSplitRow.domain false) (Rows.predicateSplitSpec.post enc Tryz.prog Tryz.f6 false true false false) :=
  law_lifted (s := Rows.predicateSplitSpec) (conds := Rows.predicateSplitRow.domain) Tryz.func6 (by kernel_rfl) rfl rfl
    (by
      rw [Tryz.params6]
      intro t ht
      simp only [List.mem_cons, List.not_mem_nil, or_false] at ht
      rcases ht with rfl | rfl
      all_goals exact ⟨by kernel_rfl, of_decide_eq_true (by kernel_rfl)⟩)
    (fun H ds h => by
      match ds, h with
      | [d0, d1], _ => exact ⟨rfl, rfl, rfl⟩) spl_law os started H enc
    (ChangeSpec.witness6 (enc := enc) (C := Tryz.checked) false ⟨#[], #[.slice none 0 0, .agg #[.int .i64 0, .int .i64 0, .int .i64 0, .int .i64 0, .int .i64 0]], []⟩ 8 (by kernel_rfl) (by kernel_rfl) (by kernel_rfl) (by kernel_rfl))

theorem spl_holds : Rows.PredicateSplitSaid :=
  OpenClaim.holds_of_wide 6 Tryz.f6 rfl rfl rfl rfl rfl rfl rfl ⟨rfl, rfl, rfl, rfl, rfl⟩ rfl rfl rfl rfl rfl (by kernel_rfl) Tryz.func6 (by kernel_rfl)
    (of_decide_eq_true (by kernel_rfl)) (by unfold Func.isWrapper; rw [if_neg (of_decide_eq_false (by kernel_rfl))]; exact ⟨rfl, rfl⟩)
    (fun os started H enc _ => spl_lifted os started H enc)
#print axioms spl_holds

end Go.Proofs.YtjiikpmkedkbkaaGreat
