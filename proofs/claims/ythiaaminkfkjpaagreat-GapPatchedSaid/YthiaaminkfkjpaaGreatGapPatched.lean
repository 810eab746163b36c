/-
  GapPatched: a result that is patched with the records that are taken, in whatever order they were received, and computed again where it is unknown, is the result of the query at the position of the receiver. Conditions: none.
-/
import Derived.Test.YthiaaminkfkjpaaGreatGpW
namespace Go.Proofs.YthiaaminkfkjpaaGreat
open Go.RowKit Go.WideShapes Go.ChangeShapes

set_option maxRecDepth 100000 in
theorem gpat_law : LawWalk 3 Tryz.f3 := by
  intro H enc W base args ds p hval0 hA0 hlt hsz
  have hval : ∀ (j : Nat) t v, Tryz.f3.params[j]? = some t → args[j]? = some v → Value.okWide Tryz.prog W .any base t v := hval0
  have hA : DataW.TrodAll enc Tryz.prog W 0 (fun _ => true) true Tryz.f3.params.toList args.toList ds p := hA0
  clear hA0 hval0 hsz
  rw [Tryz.params3] at hA hval
  obtain ⟨v0, vs0, d0, ds0, p0, q0, hargs, rfl, rfl, h0, r0⟩ := trodAll_cons hA
  obtain ⟨v1, vs1, d1, ds1, p1, q1, rfl, rfl, rfl, h1, r1⟩ := trodAll_cons r0
  obtain ⟨v2, vs2, d2, ds2, p2, q2, rfl, rfl, rfl, h2, r2⟩ := trodAll_cons r1
  obtain ⟨rfl, rfl, rfl⟩ := trodAll_nil r2
  obtain rfl : args = #[v0, v1, v2] := by cases args; simp_all
  obtain ⟨A0, n0, cap0, rfl, hn0, hmax0, hx0⟩ := open_sixes (hval 0 _ v0 rfl rfl) h0
  obtain ⟨A1, n1, cap1, xs1, rfl, hn1, hmax1, hx1⟩ := open_intsAt (hval 1 _ v1 rfl rfl) h1
  obtain ⟨a2, b2, c2, e2, rfl, wa2, wb2, wc2, we2⟩ := open_four (hval 2 _ v2 rfl rfl) h2
  exact gpat_walk A0 n0 cap0 A1 n1 cap1 xs1 a2 b2 c2 e2 W hn0 hmax0 hx0 hn1 hmax1 hx1 wa2 wb2 wc2 we2

set_option maxRecDepth 100000 in
theorem gpat_lifted (os : Os) (started : os.Started) (H : Type) (enc : TypeId × Value → H) :
    ReturnsInHanded {} Tryz.checked os 3 .any (Rows.gapPatchedSpec.pre6 enc Tryz.prog Tryz.f3 Rows.gapPatchedRow.domain false) (Rows.gapPatchedSpec.post enc Tryz.prog Tryz.f3 false true false false) :=
  law_lifted (s := Rows.gapPatchedSpec) (conds := Rows.gapPatchedRow.domain) Tryz.func3 (by kernel_rfl) rfl rfl
    (by
      rw [Tryz.params3]
      intro t ht
      simp only [List.mem_cons, List.not_mem_nil, or_false] at ht
      rcases ht with rfl | rfl | rfl
      all_goals exact ⟨by kernel_rfl, of_decide_eq_true (by kernel_rfl)⟩)
    (fun H ds h => by
      match ds, h with
      | [d0, d1, d2], _ => exact ⟨rfl, rfl, rfl⟩) gpat_law os started H enc
    (ChangeSpec.witness6 (enc := enc) (C := Tryz.checked) false ⟨#[], #[.slice none 0 0, .slice none 0 0, .agg #[.int .i64 0, .int .i64 0, .int .i64 0, .int .i64 0]], []⟩ 8 (by kernel_rfl) (by kernel_rfl) (by kernel_rfl) (by kernel_rfl))

theorem gpat_holds : Rows.GapPatchedSaid :=
  OpenClaim.holds_of_wide 3 Tryz.f3 rfl rfl rfl rfl rfl rfl rfl ⟨rfl, rfl, rfl, rfl, rfl⟩ rfl rfl rfl rfl rfl (by kernel_rfl) Tryz.func3 (by kernel_rfl)
    (of_decide_eq_true (by kernel_rfl)) (by unfold Func.isWrapper; rw [if_neg (of_decide_eq_false (by kernel_rfl))]; exact ⟨rfl, rfl⟩)
    (fun os started H enc _ => gpat_lifted os started H enc)
#print axioms gpat_holds

end Go.Proofs.YthiaaminkfkjpaaGreat
