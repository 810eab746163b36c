/-
  An index agrees with the reference implementation, call by call, and match by match. Conditions: none.
-/
import Derived.Test.YtciaallekkdnhaaGreatMuH
namespace Go.Proofs.YtciaallekkdnhaaGreat
open Go.RowKit Go.WideShapes Go.ChangeShapes

set_option maxRecDepth 100000 in
theorem mmr_law : LawWalk 3 Tryz.f3 := by
  intro H enc W base args ds p hval0 hA0 hlt hsz
  have hval : ∀ (j : Nat) t v, Tryz.f3.params[j]? = some t → args[j]? = some v → Value.okWide Tryz.prog W .any base t v := hval0
  have hA : DataW.TrodAll enc Tryz.prog W 0 (fun _ => true) true Tryz.f3.params.toList args.toList ds p := hA0
  clear hA0 hval0 hsz
  rw [Tryz.params3] at hA hval
  obtain ⟨v0, vs0, d0, ds0, p0, q0, hargs, rfl, rfl, h0, r0⟩ := trodAll_cons hA
  obtain ⟨v1, vs1, d1, ds1, p1, q1, rfl, rfl, rfl, h1, r1⟩ := trodAll_cons r0
  obtain ⟨v2, vs2, d2, ds2, p2, q2, rfl, rfl, rfl, h2, r2⟩ := trodAll_cons r1
  obtain ⟨rfl, rfl, rfl⟩ := trodAll_nil r2
  obtain rfl : args = #[v0, v1, v2] := by cases args; simp_all
  obtain ⟨A0, n0, cap0, rfl, hn0, hmax0, hx0⟩ := open_stps8 (hval 0 _ v0 rfl rfl) h0
  obtain ⟨A1, n1, cap1, rfl, hn1, hmax1, hx1⟩ := open_sixes (hval 1 _ v1 rfl rfl) h1
  obtain ⟨z2, A2, n2, cap2, cs2, rfl, hn2, hmax2, hl2, hc2, hf2⟩ := open_record (hval 2 _ v2 rfl rfl) h2
  exact mmr_walk A0 n0 cap0 A1 n1 cap1 z2 A2 n2 cap2 cs2 W hn0 hmax0 hx0 hn1 hmax1 hx1 hn2 hmax2 hl2 hc2 hf2

set_option maxRecDepth 100000 in
theorem mmr_lifted (os : Os) (started : os.Started) (H : Type) (enc : TypeId × Value → H) :
    ReturnsInHanded {} Tryz.checked os 3 .any (Rows.matchMatchesReferenceSpec.pre6 enc Tryz.prog Tryz.f3 Rows.matchMatchesReferenceRow.domain false) (Rows.matchMatchesReferenceSpec.post enc Tryz.prog Tryz.f3 false true false false) :=
  law_lifted (s := Rows.matchMatchesReferenceSpec) (conds := Rows.matchMatchesReferenceRow.domain) Tryz.func3 (by kernel_rfl) rfl rfl
    (by
      rw [Tryz.params3]
      intro t ht
      simp only [List.mem_cons, List.not_mem_nil, or_false] at ht
      rcases ht with rfl | rfl | rfl
      all_goals exact ⟨by kernel_rfl, of_decide_eq_true (by kernel_rfl)⟩)
    (fun H ds h => by
      match ds, h with
      | [d0, d1, d2], _ => exact ⟨rfl, rfl, rfl⟩) mmr_law os started H enc
    (ChangeSpec.witness6 (enc := enc) (C := Tryz.checked) false ⟨#[], #[.slice none 0 0, .slice none 0 0, .agg #[.int .i64 0, .slice none 0 0]], []⟩ 8 (by kernel_rfl) (by kernel_rfl) (by kernel_rfl) (by kernel_rfl))

theorem mmr_holds : Rows.MatchMatchesReferenceSaid :=
  OpenClaim.holds_of_wide 3 Tryz.f3 rfl rfl rfl rfl rfl rfl rfl ⟨rfl, rfl, rfl, rfl, rfl⟩ rfl rfl rfl rfl rfl (by kernel_rfl) Tryz.func3 (by kernel_rfl)
    (of_decide_eq_true (by kernel_rfl)) (by unfold Func.isWrapper; rw [if_neg (of_decide_eq_false (by kernel_rfl))]; exact ⟨rfl, rfl⟩)
    (fun os started H enc _ => mmr_lifted os started H enc)
#print axioms mmr_holds

end Go.Proofs.YtciaallekkdnhaaGreat
