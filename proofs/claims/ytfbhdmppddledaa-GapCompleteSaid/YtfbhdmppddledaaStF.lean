/-
  A state in memory: Get, and the closures that chosen takes.
-/
import Derived.Test.YtfbhdmppddledaaStE
import Derived.Test.YtfbhdmppddledaaRfB2
import Derived.Test.YtfbhdmppddledaaRfA2
namespace Go.Proofs.Ytfbhdmppddledaa
open Go.RowKit

/-- The value of a column: the row is boxed. -/
theorem value_any (r : RowV) (c : Int) (w : World) : Calls Try.prog 48 #[r.val, .int .i64 c] w fun e w' => e = .returned (.int .i64 (r.value c)) ∧ w' = w.alloc (.cells r.cells.toArray 61) := by
  obtain ⟨t, k, x, y, z⟩ := r
  unfold RowV.val
  dsimp only
  by_cases h0 : c = 0
  · subst h0
    go_enter Try.func48, Try.ntmps48
    go_wp2
    go_ret
    exact ⟨rfl, rfl⟩
  by_cases h1 : c = 1
  · subst h1
    go_enter Try.func48, Try.ntmps48
    go_wp2
    go_ret
    exact ⟨rfl, rfl⟩
  by_cases h2 : c = 2
  · subst h2
    go_enter Try.func48, Try.ntmps48
    go_wp2
    go_ret
    exact ⟨rfl, rfl⟩
  by_cases h3 : c = 3
  · subst h3
    go_enter Try.func48, Try.ntmps48
    go_wp2
    go_ret
    exact ⟨rfl, rfl⟩
  have HV : Hid (RowV.value ⟨t, k, x, y, z⟩ c = 0) := Lib.hid (by simp [RowV.value, h0, h1, h2, h3])
  have g0 : (c == 0) = false := by simpa using h0
  have g1 : (c == 1) = false := by simpa using h1
  have g2 : (c == 2) = false := by simpa using h2
  have g3 : (c == 3) = false := by simpa using h3
  clear h0 h1 h2 h3
  go_enter Try.func48, Try.ntmps48
  go_wp2
  go_ret
  exact ⟨by rw [HV.out]; rfl, rfl⟩
theorem isNaN_any (x : Int) (w : World) : Calls Try.prog 56 #[.int .i64 x] w fun e w' => e = .returned (.bool false) ∧ w' = w := by
  go_enter Try.func56, Try.ntmps56
  go_wp2
  go_ret
  exact ⟨by simp, rfl⟩
/-- 'cmp.Compare'. -/
def cmpI (x y : Int) : Int := if x < y then -1 else if y < x then 1 else 0
theorem compare_any (x y : Int) (w : World) : Calls Try.prog 47 #[.int .i64 x, .int .i64 y] w fun e w' => e = .returned (.int .i64 (cmpI x y)) ∧ w' = w := by
  have HN := Lib.hid isNaN_any
  have HC : Hid (cmpI x y = if x < y then -1 else if y < x then 1 else 0) := Lib.hid rfl
  by_cases h1 : x < y
  · have HC2 : Hid (cmpI x y = -1) := Lib.hid (by rw [HC.out, if_pos h1])
    go_enter Try.func47, Try.ntmps47
    go_wp2_with (go_at_call 56; refine (HN.out _ _).mono ?_; rintro e w' ⟨rfl, rfl⟩)
    go_ret
    exact ⟨by rw [HC2.out]; rfl, rfl⟩
  by_cases h2 : y < x
  · have HC2 : Hid (cmpI x y = 1) := Lib.hid (by rw [HC.out, if_neg h1, if_pos h2])
    go_enter Try.func47, Try.ntmps47
    go_wp2_with (go_at_call 56; refine (HN.out _ _).mono ?_; rintro e w' ⟨rfl, rfl⟩)
    go_ret
    exact ⟨by rw [HC2.out]; rfl, rfl⟩
  have HC2 : Hid (cmpI x y = 0) := Lib.hid (by rw [HC.out, if_neg h1, if_neg h2])
  go_enter Try.func47, Try.ntmps47
  go_wp2_with (go_at_call 56; refine (HN.out _ _).mono ?_; rintro e w' ⟨rfl, rfl⟩)
  go_ret
  exact ⟨by rw [HC2.out]; rfl, rfl⟩
/-- 'cmp.Or' of two. -/
theorem or_any (x y : Int) (b cap : Nat) (w : World) (h0 : w.cell? ⟨b, 0, none⟩ = some (.int .i64 x)) (h1 : w.cell? ⟨b, 1, none⟩ = some (.int .i64 y)) :
    Calls Try.prog 46 #[.slice (some ⟨b, 0, none⟩) 2 cap] w fun e w' => e = .returned (.int .i64 (if x = 0 then y else x)) ∧ w' = w := by
  by_cases hx : x = 0
  · subst hx
    by_cases hy : y = 0
    · subst hy
      go_enter Try.func46, Try.ntmps46
      go_wp2_with fail
      refine wp_loop_rounds 3 ?_
      rw [rounds_succ]
      go_wp2_with fail
      (try (rw [rounds_succ]; go_wp2_with fail))
      (try (rw [rounds_succ]; go_wp2_with fail))
      go_ret
      exact ⟨by simp, rfl⟩
    · have hy' : (y != 0) = true := by simpa using hy
      have HY := Lib.hid hy
      clear hy
      go_enter Try.func46, Try.ntmps46
      go_wp2_with fail
      refine wp_loop_rounds 3 ?_
      rw [rounds_succ]
      go_wp2_with fail
      (try (rw [rounds_succ]; go_wp2_with fail))
      go_ret
      exact ⟨by simp, rfl⟩
  · have hx' : (x != 0) = true := by simpa using hx
    have HX := Lib.hid hx
    clear hx
    go_enter Try.func46, Try.ntmps46
    go_wp2_with fail
    refine wp_loop_rounds 3 ?_
    rw [rounds_succ]
    go_wp2_with fail
    go_ret
    exact ⟨rfl, rfl⟩
end Go.Proofs.Ytfbhdmppddledaa
