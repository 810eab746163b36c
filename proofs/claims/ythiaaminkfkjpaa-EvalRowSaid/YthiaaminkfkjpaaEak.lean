/-
  Contracts of the reference of rows (cachetierref03): within, Valid, Value, Before, After, ValidChange.
-/
import Derived.Test.YthiaaminkfkjpaaEai
import Derived.Test.YthiaaminkfkjpaaEae
namespace Go.Proofs.Ythiaaminkfkjpaa
open Go.RowKit

theorem rfWithin_any (n lo hi : Int) (w : World) : Calls Try.prog 44 #[.int .i64 n, .int .i64 lo, .int .i64 hi] w fun e w' => e = .returned (.bool (Rw.inI lo hi n)) ∧ w = w' := by
  by_cases h : lo ≤ n ∧ n ≤ hi
  · have H : Hid (Rw.inI lo hi n = true) := Lib.hid (by unfold Rw.inI; exact decide_eq_true h)
    obtain ⟨h1, h2⟩ := h
    go_enter Try.func44, Try.ntmps44
    go_wp2
    go_ret
    exact ⟨by rw [H.out]; simp, rfl⟩
  · have H : Hid (Rw.inI lo hi n = false) := Lib.hid (by unfold Rw.inI; exact decide_eq_false h)
    go_enter Try.func44, Try.ntmps44
    go_wp2
    all_goals
      go_ret
      refine ⟨?_, rfl⟩
      rw [H.out]
      refine congrArg (fun b => Ending.returned (.bool b)) ?_
      (first | rfl | (simp; omega))

theorem rfValid_any (t k x y z : Int) (w : World) : Calls Try.prog 54 #[rowVal t k x y z] w fun e w' => e = .returned (.bool (Rw.row t k x y z)) ∧ Fr [] w w' := by
  have HR : Hid (Rw.row t k x y z = (Rw.inI 0 3 t && Rw.inI 1 1000000 k && (Rw.inI (-1000000000) 1000000000 x && Rw.inI (-1000000000) 1000000000 y && Rw.inI (-1000000000) 1000000000 z))) := Lib.hid rfl
  have f0 : Fr [] w (w.alloc (.cells #[.int .i64 t, .int .i64 k, .int .i64 x, .int .i64 y, .int .i64 z] 33)) := (Fr.refl _ _).alloc _
  have C := rfWithin_any
  have HC := Lib.hid C
  clear C
  unfold rowVal
  cases hx : Rw.inI (-1000000000) 1000000000 x <;> cases hy : Rw.inI (-1000000000) 1000000000 y <;> cases hz : Rw.inI (-1000000000) 1000000000 z <;> cases ht : Rw.inI 0 3 t
  all_goals
    have HX := Lib.hid hx
    have HY := Lib.hid hy
    have HZ := Lib.hid hz
    have HT := Lib.hid ht
    clear hx hy hz ht
    go_enter Try.func54, Try.ntmps54
    go_wp2_with fail
    refine wp_loop_rounds 4 ?_
    rw [rounds_succ]
    go_wp2_with (go_at_call 44; refine (HC.out _ _ _ _).mono ?_; rintro e w' ⟨he, rfl⟩; (first | rw [HX.out] at he | rw [HY.out] at he | rw [HZ.out] at he | rw [HT.out] at he | skip); subst he)
    (try (rw [rounds_succ]; go_wp2_with (go_at_call 44; refine (HC.out _ _ _ _).mono ?_; rintro e w' ⟨he, rfl⟩; (first | rw [HX.out] at he | rw [HY.out] at he | rw [HZ.out] at he | rw [HT.out] at he | skip); subst he)))
    (try (rw [rounds_succ]; go_wp2_with (go_at_call 44; refine (HC.out _ _ _ _).mono ?_; rintro e w' ⟨he, rfl⟩; (first | rw [HX.out] at he | rw [HY.out] at he | rw [HZ.out] at he | rw [HT.out] at he | skip); subst he)))
    (try (rw [rounds_succ]; go_wp2_with (go_at_call 44; refine (HC.out _ _ _ _).mono ?_; rintro e w' ⟨he, rfl⟩; (first | rw [HX.out] at he | rw [HY.out] at he | rw [HZ.out] at he | rw [HT.out] at he | skip); subst he)))
    go_ret
    exact ⟨by rw [HR.out, HX.out, HY.out, HZ.out, HT.out]; simp, f0⟩

theorem rfBefore_any (c : Chg) (w : World) : Calls Try.prog 53 #[c.val] w fun e w' => e = .returned (.tuple #[if c.had = true then rowVal c.t c.k c.o0 c.o1 c.o2 else rowVal 0 0 0 0 0, .bool c.had]) ∧ Fr [] w w' := by
  obtain ⟨t, k, had, o0, o1, o2, has, n0, n1, n2⟩ := c
  unfold Chg.val rowVal
  cases had
  all_goals
    go_enter Try.func53, Try.ntmps53
    go_wp2
    first
      | exact bodyPost_ret (v := .tuple #[.agg #[.int .i64 t, .int .i64 k, .int .i64 o0, .int .i64 o1, .int .i64 o2], .bool true]) (by simp [results, Try.results53, go_sem]) rfl ⟨rfl, (((Fr.refl _ _).alloc _).alloc _).alloc _⟩
      | exact bodyPost_ret (v := .tuple #[.agg #[.int .i64 t, .int .i64 k, .int .i64 o0, .int .i64 o1, .int .i64 o2], .bool true]) (by simp [results, Try.results53, go_sem]) rfl ⟨rfl, ((Fr.refl _ _).alloc _).alloc _⟩
      | exact bodyPost_ret (v := .tuple #[.agg #[.int .i64 0, .int .i64 0, .int .i64 0, .int .i64 0, .int .i64 0], .bool false]) (by simp [results, Try.results53, go_sem]) rfl ⟨rfl, (((Fr.refl _ _).alloc _).alloc _).alloc _⟩
      | exact bodyPost_ret (v := .tuple #[.agg #[.int .i64 0, .int .i64 0, .int .i64 0, .int .i64 0, .int .i64 0], .bool false]) (by simp [results, Try.results53, go_sem]) rfl ⟨rfl, ((Fr.refl _ _).alloc _).alloc _⟩
      | fail "x"
theorem rfAfter_any (c : Chg) (w : World) : Calls Try.prog 27 #[c.val] w fun e w' => e = .returned (.tuple #[if c.has = true then rowVal c.t c.k c.n0 c.n1 c.n2 else rowVal 0 0 0 0 0, .bool c.has]) ∧ Fr [] w w' := by
  obtain ⟨t, k, had, o0, o1, o2, has, n0, n1, n2⟩ := c
  unfold Chg.val rowVal
  cases has
  all_goals
    go_enter Try.func27, Try.ntmps27
    go_wp2
    first
      | exact bodyPost_ret (v := .tuple #[.agg #[.int .i64 t, .int .i64 k, .int .i64 n0, .int .i64 n1, .int .i64 n2], .bool true]) (by simp [results, Try.results27, go_sem]) rfl ⟨rfl, (((Fr.refl _ _).alloc _).alloc _).alloc _⟩
      | exact bodyPost_ret (v := .tuple #[.agg #[.int .i64 t, .int .i64 k, .int .i64 n0, .int .i64 n1, .int .i64 n2], .bool true]) (by simp [results, Try.results27, go_sem]) rfl ⟨rfl, ((Fr.refl _ _).alloc _).alloc _⟩
      | exact bodyPost_ret (v := .tuple #[.agg #[.int .i64 0, .int .i64 0, .int .i64 0, .int .i64 0, .int .i64 0], .bool false]) (by simp [results, Try.results27, go_sem]) rfl ⟨rfl, (((Fr.refl _ _).alloc _).alloc _).alloc _⟩
      | exact bodyPost_ret (v := .tuple #[.agg #[.int .i64 0, .int .i64 0, .int .i64 0, .int .i64 0, .int .i64 0], .bool false]) (by simp [results, Try.results27, go_sem]) rfl ⟨rfl, ((Fr.refl _ _).alloc _).alloc _⟩
      | fail "x"
end Go.Proofs.Ythiaaminkfkjpaa
