/-
  DiskCrashBytes is proved: after a crash each byte has its durable value, or that of the last survivor that covers it. Conditions: none.
-/
import Derived.Test.YtbmakjhfoaadoaaDkW7
namespace Go.Proofs.Ytbmakjhfoaadoaa
open Go.RowKit Go.WideShapes Go.ChangeShapes

set_option maxRecDepth 100000 in
theorem dbytes_law : LawWalk 8 Try.f8 := by
  intro H enc W base args ds p hval0 hA0 hlt hsz
  have hval : ∀ (j : Nat) t v, Try.f8.params[j]? = some t → args[j]? = some v → Value.okWide Try.prog W .any base t v := hval0
  have hA : DataW.TrodAll enc Try.prog W 0 (fun _ => true) true Try.f8.params.toList args.toList ds p := hA0
  clear hA0 hval0 hsz
  rw [Try.params8] at hA hval
  obtain ⟨v0, vs0, d0, ds0, p0, q0, hargs, rfl, rfl, h0, r0⟩ := trodAll_cons hA
  obtain ⟨v1, vs1, d1, ds1, p1, q1, rfl, rfl, rfl, h1, r1⟩ := trodAll_cons r0
  obtain ⟨v2, vs2, d2, ds2, p2, q2, rfl, rfl, rfl, h2, r2⟩ := trodAll_cons r1
  obtain ⟨v3, vs3, d3, ds3, p3, q3, rfl, rfl, rfl, h3, r3⟩ := trodAll_cons r2
  obtain ⟨rfl, rfl, rfl⟩ := trodAll_nil r3
  obtain rfl : args = #[v0, v1, v2, v3] := by cases args; simp_all
  obtain ⟨x0, rfl, rfl, rfl, wx0⟩ := open_int Try.underlying3 (hval 0 _ v0 rfl rfl) h0
  obtain ⟨A1, n1, cap1, xs1, rfl, hn1, hmax1, hx1⟩ := open_wps (hval 1 _ v1 rfl rfl) h1
  obtain ⟨A2, n2, cap2, xs2, rfl, hn2, hmax2, hx2⟩ := open_boolsAt (hval 2 _ v2 rfl rfl) h2
  obtain ⟨x3, rfl, rfl, rfl, wx3⟩ := open_int Try.underlying3 (hval 3 _ v3 rfl rfl) h3
  exact dbytes_walk x0 A1 n1 cap1 xs1 A2 n2 cap2 xs2 x3 W wx0 hn1 hmax1 hx1 hn2 hmax2 hx2 wx3

set_option maxRecDepth 100000 in
theorem dbytes_lifted (os : Os) (started : os.Started) (H : Type) (enc : TypeId × Value → H) :
    ReturnsInHanded {} Try.checked os 8 .any (Rows.diskCrashBytesSpec.pre6 enc Try.prog Try.f8 Rows.diskCrashBytesRow.domain false) (Rows.diskCrashBytesSpec.post enc Try.prog Try.f8 false true false false) :=
  law_lifted (s := Rows.diskCrashBytesSpec) (conds := Rows.diskCrashBytesRow.domain) Try.func8 (by kernel_rfl) rfl rfl
    (by
      rw [Try.params8]
      intro t ht
      simp only [List.mem_cons, List.not_mem_nil, or_false] at ht
      rcases ht with rfl | rfl | rfl | rfl
      all_goals exact ⟨by kernel_rfl, of_decide_eq_true (by kernel_rfl)⟩)
    (fun H ds h => by
      match ds, h with
      | [d0, d1, d2, d3], _ => exact ⟨rfl, rfl, rfl⟩) dbytes_law os started H enc
    (ChangeSpec.witness6 (enc := enc) (C := Try.checked) false ⟨#[], #[.int .i64 0, .slice none 0 0, .slice none 0 0, .int .i64 0], []⟩ 8 (by kernel_rfl) (by kernel_rfl) (by kernel_rfl) (by kernel_rfl))

theorem dbytes_holds : Rows.DiskCrashBytesSaid :=
  OpenClaim.holds_of_wide 8 Try.f8 rfl rfl rfl rfl rfl rfl rfl ⟨rfl, rfl, rfl, rfl, rfl⟩ rfl rfl rfl rfl rfl (by kernel_rfl) Try.func8 (by kernel_rfl)
    (of_decide_eq_true (by kernel_rfl)) (by unfold Func.isWrapper; rw [if_neg (of_decide_eq_false (by kernel_rfl))]; exact ⟨rfl, rfl⟩)
    (fun os started H enc _ => dbytes_lifted os started H enc)
#print axioms dbytes_holds

end Go.Proofs.Ytbmakjhfoaadoaa
