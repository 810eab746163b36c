/-
  Results that are patched only when Match names their queries, and computed anew only when they cannot be patched, are always those of the state. Conditions: none.
-/
import Derived.Test.YtciaallekkdnhaaGreatMuV
namespace Go.Proofs.YtciaallekkdnhaaGreat
open Go.RowKit Go.WideShapes Go.ChangeShapes

set_option maxRecDepth 100000 in
theorem mvi_law : LawWalk 9 Tryz.f9 := by
  intro H enc W base args ds p hval0 hA0 hlt hsz
  have hval : ∀ (j : Nat) t v, Tryz.f9.params[j]? = some t → args[j]? = some v → Value.okWide Tryz.prog W .any base t v := hval0
  have hA : DataW.TrodAll enc Tryz.prog W 0 (fun _ => true) true Tryz.f9.params.toList args.toList ds p := hA0
  clear hA0 hval0 hsz
  rw [Tryz.params9] at hA hval
  obtain ⟨v0, vs0, d0, ds0, p0, q0, hargs, rfl, rfl, h0, r0⟩ := trodAll_cons hA
  obtain ⟨v1, vs1, d1, ds1, p1, q1, rfl, rfl, rfl, h1, r1⟩ := trodAll_cons r0
  obtain ⟨rfl, rfl, rfl⟩ := trodAll_nil r1
  obtain rfl : args = #[v0, v1] := by cases args; simp_all
  obtain ⟨A0, n0, cap0, rfl, hn0, hmax0, hx0⟩ := open_fives (hval 0 _ v0 rfl rfl) h0
  obtain ⟨A1, n1, cap1, rfl, hn1, hmax1, hx1⟩ := open_sixes (hval 1 _ v1 rfl rfl) h1
  exact views_walk A0 n0 cap0 A1 n1 cap1 W hn0 hmax0 hx0 hn1 hmax1 hx1

set_option maxRecDepth 100000 in
theorem mvi_lifted (os : Os) (started : os.Started) (H : Type) (enc : TypeId × Value → H) :
    ReturnsInHanded {} Tryz.checked os 9 .any (Rows.matchViewsSpec.pre6 enc Tryz.prog Tryz.f9 Rows.matchViewsRow.domain false) (Rows.matchViewsSpec.post enc Tryz.prog Tryz.f9 false true false false) :=
  law_lifted (s := Rows.matchViewsSpec) (conds := Rows.matchViewsRow.domain) Tryz.func9 (by kernel_rfl) rfl rfl
    (by
      rw [Tryz.params9]
      intro t ht
      simp only [List.mem_cons, List.not_mem_nil, or_false] at ht
      rcases ht with rfl | rfl
      all_goals exact ⟨by kernel_rfl, of_decide_eq_true (by kernel_rfl)⟩)
    (fun H ds h => by
      match ds, h with
      | [d0, d1], _ => exact ⟨rfl, rfl, rfl⟩) mvi_law os started H enc
    (ChangeSpec.witness6 (enc := enc) (C := Tryz.checked) false ⟨#[], #[.slice none 0 0, .slice none 0 0], []⟩ 8 (by kernel_rfl) (by kernel_rfl) (by kernel_rfl) (by kernel_rfl))

theorem mvi_holds : Rows.MatchViewsSaid :=
  OpenClaim.holds_of_wide 9 Tryz.f9 rfl rfl rfl rfl rfl rfl rfl ⟨rfl, rfl, rfl, rfl, rfl⟩ rfl rfl rfl rfl rfl (by kernel_rfl) Tryz.func9 (by kernel_rfl)
    (of_decide_eq_true (by kernel_rfl)) (by unfold Func.isWrapper; rw [if_neg (of_decide_eq_false (by kernel_rfl))]; exact ⟨rfl, rfl⟩)
    (fun os started H enc _ => mvi_lifted os started H enc)
#print axioms mvi_holds

end Go.Proofs.YtciaallekkdnhaaGreat
