/-
  DiskCut is proved: after Cut(n) exactly n writes succeed, and a crash brings the survivors back. Conditions: none.
-/
import Derived.Test.YtbmakjhfoaadoaaDkW5
namespace Go.Proofs.Ytbmakjhfoaadoaa
open Go.RowKit Go.WideShapes Go.ChangeShapes

set_option maxRecDepth 100000 in
theorem dcut_law : LawWalk 10 Try.f10 := by
  intro H enc W base args ds p hval0 hA0 hlt hsz
  have hval : ∀ (j : Nat) t v, Try.f10.params[j]? = some t → args[j]? = some v → Value.okWide Try.prog W .any base t v := hval0
  have hA : DataW.TrodAll enc Try.prog W 0 (fun _ => true) true Try.f10.params.toList args.toList ds p := hA0
  clear hA0 hval0 hsz
  rw [Try.params10] at hA hval
  obtain ⟨v0, vs0, d0, ds0, p0, q0, hargs, rfl, rfl, h0, r0⟩ := trodAll_cons hA
  obtain ⟨v1, vs1, d1, ds1, p1, q1, rfl, rfl, rfl, h1, r1⟩ := trodAll_cons r0
  obtain ⟨v2, vs2, d2, ds2, p2, q2, rfl, rfl, rfl, h2, r2⟩ := trodAll_cons r1
  obtain ⟨rfl, rfl, rfl⟩ := trodAll_nil r2
  obtain rfl : args = #[v0, v1, v2] := by cases args; simp_all
  obtain ⟨x0, rfl, rfl, rfl, wx0⟩ := open_int Try.underlying3 (hval 0 _ v0 rfl rfl) h0
  obtain ⟨x1, rfl, rfl, rfl, wx1⟩ := open_int Try.underlying3 (hval 1 _ v1 rfl rfl) h1
  obtain ⟨A2, n2, cap2, xs2, rfl, hn2, hmax2, hx2⟩ := open_wps (hval 2 _ v2 rfl rfl) h2
  exact dcut_walk x0 x1 A2 n2 cap2 xs2 W wx0 wx1 hn2 hmax2 hx2

set_option maxRecDepth 100000 in
theorem dcut_lifted (os : Os) (started : os.Started) (H : Type) (enc : TypeId × Value → H) :
    ReturnsInHanded {} Try.checked os 10 .any (Rows.diskCutSpec.pre6 enc Try.prog Try.f10 Rows.diskCutRow.domain false) (Rows.diskCutSpec.post enc Try.prog Try.f10 false true false false) :=
  law_lifted (s := Rows.diskCutSpec) (conds := Rows.diskCutRow.domain) Try.func10 (by kernel_rfl) rfl rfl
    (by
      rw [Try.params10]
      intro t ht
      simp only [List.mem_cons, List.not_mem_nil, or_false] at ht
      rcases ht with rfl | rfl | rfl
      all_goals exact ⟨by kernel_rfl, of_decide_eq_true (by kernel_rfl)⟩)
    (fun H ds h => by
      match ds, h with
      | [d0, d1, d2], _ => exact ⟨rfl, rfl, rfl⟩) dcut_law os started H enc
    (ChangeSpec.witness6 (enc := enc) (C := Try.checked) false ⟨#[], #[.int .i64 0, .int .i64 0, .slice none 0 0], []⟩ 8 (by kernel_rfl) (by kernel_rfl) (by kernel_rfl) (by kernel_rfl))

theorem dcut_holds : Rows.DiskCutSaid :=
  OpenClaim.holds_of_wide 10 Try.f10 rfl rfl rfl rfl rfl rfl rfl ⟨rfl, rfl, rfl, rfl, rfl⟩ rfl rfl rfl rfl rfl (by kernel_rfl) Try.func10 (by kernel_rfl)
    (of_decide_eq_true (by kernel_rfl)) (by unfold Func.isWrapper; rw [if_neg (of_decide_eq_false (by kernel_rfl))]; exact ⟨rfl, rfl⟩)
    (fun os started H enc _ => dcut_lifted os started H enc)
#print axioms dcut_holds

end Go.Proofs.Ytbmakjhfoaadoaa
