/-
  Contracts of the small functions of package vouch and of cmp.
-/
import Derived.Test.YtldolhdgkbljlaaChecked
import Derived.Test.YtldolhdgkbljlaaBaseW
import Derived.Test.YtldolhdgkbljlaaVouchM
import Derived.Outline
import Derived.Handy
import Derived.Deep.RegionHeld3
import Derived.Deep.DrawnRows
import Derived.Deep.QuietTactic
import Derived.BigQuiet
namespace Go.Proofs.Ytldolhdgkbljlaa
open Go.RowKit

theorem isNaN_any (x : Int) (w : World) : Calls Try.prog 81 #[.int .i64 x] w fun e w' => e = .returned (.bool false) ∧ w = w' := by
  go_enter Try.func81, Try.ntmps81
  go_wp2
  go_ret
  exact ⟨by simp, rfl⟩

theorem compare_any (x y : Int) (w : World) : Calls Try.prog 71 #[.int .i64 x, .int .i64 y] w fun e w' => e = .returned (.int .i64 (Vm.cmpI x y)) ∧ w = w' := by
  go_enter Try.func71, Try.ntmps71
  go_wp2_with (go_at_call 81; refine (isNaN_any _ _).mono ?_; rintro e w' ⟨rfl, rfl⟩)
  all_goals
    go_ret
    refine ⟨?_, rfl⟩
    simp only [Vm.cmpI]
    split <;> first | rfl | (split <;> first | rfl | omega) | omega

/-- 'cmp.Or' of two. -/
theorem or_two (x y : Int) (g : Nat) (w : World) (h0 : w.cell? ⟨g, 0, none⟩ = some (.int .i64 x)) (h1 : w.cell? ⟨g, 1, none⟩ = some (.int .i64 y)) :
    Calls Try.prog 70 #[.slice (some ⟨g, 0, none⟩) 2 2] w fun e w' => e = .returned (.int .i64 (Vm.or2 x y)) ∧ w = w' := by
  go_enter Try.func70, Try.ntmps70
  go_wp2
  go_rounds 3
  all_goals
    go_ret
    refine ⟨?_, rfl⟩
    simp_all [Vm.or2]

theorem isValid_any (p t : Int) (w : World) : Calls Try.prog 49 #[.agg #[.int .i64 p, .int .i64 t]] w fun e w' => e = .returned (.bool (Vm.valid p t)) ∧ Fr [] w w' := by
  go_enter Try.func49, Try.ntmps49
  go_wp2
  all_goals
    go_ret
    refine ⟨?_, (Fr.refl _ _).alloc _⟩
    simp only [Vm.valid]
    refine congrArg (fun b => Ending.returned (.bool b)) ?_
    rw [Bool.eq_iff_iff]
    simp
    try omega

theorem isLater_any (p t p' t' : Int) (w : World) : Calls Try.prog 50 #[.agg #[.int .i64 p, .int .i64 t], .agg #[.int .i64 p', .int .i64 t']] w fun e w' => e = .returned (.bool (Vm.later p t p' t')) ∧ Fr [] w w' := by
  go_enter Try.func50, Try.ntmps50
  go_wp2
  go_region_held3 (fun w' => w'.cell? ⟨w.heap.size, 0, none⟩ = some (.int .i64 p) ∧ w'.cell? ⟨w.heap.size, 1, none⟩ = some (.int .i64 t) ∧ w'.cell? ⟨w.heap.size + 1, 0, none⟩ = some (.int .i64 p') ∧ w'.cell? ⟨w.heap.size + 1, 1, none⟩ = some (.int .i64 t')) (go_keep)
    (first
      | (go_at_call 71; refine (compare_any _ _ _).mono ?_; rintro e w' ⟨rfl, rfl⟩)
      | (go_at_call 70; refine (or_two (Vm.cmpI t t') (Vm.cmpI p p') _ _ (by simp [go_sem]) (by simp [go_sem])).mono ?_; rintro e w' ⟨rfl, rfl⟩))
  all_goals go_wp2
  go_ret
  refine ⟨?_, ((((Fr.refl _ _).alloc _).alloc _).alloc _).drew⟩
  refine congrArg (fun b => Ending.returned (.bool b)) ?_
  simp only [Vm.later, Vm.or2, Vm.cmpI]
  refine decide_eq_decide.2 ?_
  repeat' split
  all_goals omega

theorem isWorse_any (p t p' t' : Int) (w : World) : Calls Try.prog 72 #[.agg #[.int .i64 p, .int .i64 t], .agg #[.int .i64 p', .int .i64 t']] w fun e w' => e = .returned (.bool (Vm.worse p t p' t')) ∧ Fr [] w w' := by
  go_enter Try.func72, Try.ntmps72
  go_wp2
  go_region_held3 (fun w' => w'.cell? ⟨w.heap.size, 0, none⟩ = some (.int .i64 p) ∧ w'.cell? ⟨w.heap.size, 1, none⟩ = some (.int .i64 t) ∧ w'.cell? ⟨w.heap.size + 1, 0, none⟩ = some (.int .i64 p') ∧ w'.cell? ⟨w.heap.size + 1, 1, none⟩ = some (.int .i64 t')) (go_keep)
    (first
      | (go_at_call 71; refine (compare_any _ _ _).mono ?_; rintro e w' ⟨rfl, rfl⟩)
      | (go_at_call 70; refine (or_two (Vm.cmpI t' t) (Vm.cmpI p p') _ _ (by simp [go_sem]) (by simp [go_sem])).mono ?_; rintro e w' ⟨rfl, rfl⟩))
  all_goals go_wp2
  go_ret
  refine ⟨?_, ((((Fr.refl _ _).alloc _).alloc _).alloc _).drew⟩
  refine congrArg (fun b => Ending.returned (.bool b)) ?_
  simp only [Vm.worse, Vm.or2, Vm.cmpI]
  refine decide_eq_decide.2 ?_
  repeat' split
  all_goals omega

end Go.Proofs.Ytldolhdgkbljlaa
