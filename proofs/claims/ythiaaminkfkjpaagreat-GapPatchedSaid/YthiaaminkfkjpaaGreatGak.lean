/-
  What query.Valid computes.
-/
import Derived.Test.YthiaaminkfkjpaaGreatGag
import Derived.Deep.DeepCutAuto
namespace Go.Proofs.YthiaaminkfkjpaaGreat
open Go.RowKit

theorem qwithin_any (n a b : Int) (w : World) : Calls Tryz.prog 45 #[.int .i64 n, .int .i64 a, .int .i64 b] w fun e w' => e = .returned (.bool (Em.within n a b)) ∧ w = w' := by
  go_enter Tryz.func45, Tryz.ntmps45
  by_cases h1 : a ≤ n
  · by_cases h2 : n ≤ b
    · go_wp2
      go_ret
      simp [Em.within, h1, h2]
    · go_wp2
      go_ret
      simp [Em.within, h1, h2]
  · have e : Em.within n a b = false := by simp [Em.within, h1]
    have E := Lib.hid e
    clear e
    go_wp2
    go_ret
    rw [E.out]
    exact ⟨rfl, rfl⟩
/-- A query in memory. -/
def QAt (w : World) (g : Nat) (q : Qry) : Prop := Blk w g 30 #[.int .i64 q.kind, .int .i64 q.table, .int .i64 q.column, .int .i64 q.low, .int .i64 q.high, .int .i64 q.by_, .int .i64 q.other]
theorem QAt.c0 {w : World} {g : Nat} {q : Qry} (h : QAt w g q) : w.cell? ⟨g, 0, none⟩ = some (.int .i64 q.kind) := Blk.cell h 0
theorem QAt.c1 {w : World} {g : Nat} {q : Qry} (h : QAt w g q) : w.cell? ⟨g, 1, none⟩ = some (.int .i64 q.table) := Blk.cell h 1
theorem QAt.c2 {w : World} {g : Nat} {q : Qry} (h : QAt w g q) : w.cell? ⟨g, 2, none⟩ = some (.int .i64 q.column) := Blk.cell h 2
theorem QAt.c3 {w : World} {g : Nat} {q : Qry} (h : QAt w g q) : w.cell? ⟨g, 3, none⟩ = some (.int .i64 q.low) := Blk.cell h 3
theorem QAt.c4 {w : World} {g : Nat} {q : Qry} (h : QAt w g q) : w.cell? ⟨g, 4, none⟩ = some (.int .i64 q.high) := Blk.cell h 4
theorem QAt.c5 {w : World} {g : Nat} {q : Qry} (h : QAt w g q) : w.cell? ⟨g, 5, none⟩ = some (.int .i64 q.by_) := Blk.cell h 5
theorem QAt.c6 {w : World} {g : Nat} {q : Qry} (h : QAt w g q) : w.cell? ⟨g, 6, none⟩ = some (.int .i64 q.other) := Blk.cell h 6
theorem QAt.new (w : World) (q : Qry) : QAt (w.alloc (.cells #[.int .i64 q.kind, .int .i64 q.table, .int .i64 q.column, .int .i64 q.low, .int .i64 q.high, .int .i64 q.by_, .int .i64 q.other] 30)) w.heap.size q := Blk.new _ _ _
theorem QAt.fr {w w' : World} {g : Nat} {q : Qry} {S : List Nat} (h : QAt w g q) (hf : Fr S w w') (hg : g ∉ S) : QAt w' g q := Blk.fr h hf hg
set_option maxRecDepth 100000 in
set_option maxHeartbeats 4000000 in
theorem qvalid_any (q : Qry) (w : World) : Calls Tryz.prog 27 #[q.val] w fun e w' => e = .returned (.bool (Em.valid q)) ∧ Fr [] w w' := by
  have F0 : Hid (Fr [] w (w.alloc (.cells #[.int .i64 q.kind, .int .i64 q.table, .int .i64 q.column, .int .i64 q.low, .int .i64 q.high, .int .i64 q.by_, .int .i64 q.other] 30))) := Lib.hid ((Fr.refl _ _).alloc _)
  have HB := Lib.hid (QAt.new w q)
  have HW := Lib.hid qwithin_any
  obtain ⟨k, t, c, lo, hi, b, o⟩ := q
  unfold Qry.val
  dsimp only at *
  have c0 := HB.out.c0
  have c1 := HB.out.c1
  have c2 := HB.out.c2
  have c3 := HB.out.c3
  have c4 := HB.out.c4
  have c5 := HB.out.c5
  have c6 := HB.out.c6
  dsimp only at c0 c1 c2 c3 c4 c5 c6
  go_enter Tryz.func27, Tryz.ntmps27
  go_upto_region 1 with (fail)
  generalize w.alloc (.cells #[.int .i64 k, .int .i64 t, .int .i64 c, .int .i64 lo, .int .i64 hi, .int .i64 b, .int .i64 o] 30) = w1 at *
  go_cut [3] (fun v wc => w1 = wc ∧ v = .bool (Em.base ⟨k, t, c, lo, hi, b, o⟩))
  case first =>
    cases h1 : Em.within t 0 3
    · have E : Hid (Em.base ⟨k, t, c, lo, hi, b, o⟩ = false) := Lib.hid (by simp [Em.base, h1])
      go_wp2_with (go_at_call 45; refine (HW.out _ _ _ _).mono ?_; rintro e w' ⟨rfl, rfl⟩)
      go_meet
      case rel => exact ⟨rfl, by rw [E.out]⟩
    · cases h2 : Em.within c 0 3
      · have E : Hid (Em.base ⟨k, t, c, lo, hi, b, o⟩ = false) := Lib.hid (by simp [Em.base, h2])
        go_wp2_with (go_at_call 45; refine (HW.out _ _ _ _).mono ?_; rintro e w' ⟨rfl, rfl⟩)
        go_meet
        case rel => exact ⟨rfl, by rw [E.out]⟩
      · cases h3 : Em.within lo (-1000000000) hi
        · have E : Hid (Em.base ⟨k, t, c, lo, hi, b, o⟩ = false) := Lib.hid (by simp [Em.base, h3])
          go_wp2_with (go_at_call 45; refine (HW.out _ _ _ _).mono ?_; rintro e w' ⟨rfl, rfl⟩)
          go_meet
          case rel => exact ⟨rfl, by rw [E.out]⟩
        · have E : Hid (Em.base ⟨k, t, c, lo, hi, b, o⟩ = decide (hi ≤ 1000000000)) := Lib.hid (by simp [Em.base, h1, h2, h3])
          go_wp2_with (go_at_call 45; refine (HW.out _ _ _ _).mono ?_; rintro e w' ⟨rfl, rfl⟩)
          go_meet
          case rel => exact ⟨rfl, by rw [E.out]⟩
  case rest =>
    obtain ⟨rfl, rfl⟩ := hcut
    have z5 := Blk.frozen HB.out 5
    have z6 := Blk.frozen HB.out 6
    by_cases k1 : k = 1
    · subst k1
      cases hbs : Em.base ⟨1, t, c, lo, hi, b, o⟩
      · go_wp2_with (go_at_call 45; refine (HW.out _ _ _ _).mono ?_; rintro e w' ⟨rfl, rfl⟩)
        all_goals
          go_ret
          exact ⟨by simp_all [Em.valid] <;> rfl, F0.out⟩
      · skip
        cases h1 : Em.within lo 1 1000000
        · go_wp2_with (go_at_call 45; refine (HW.out _ _ _ _).mono ?_; rintro e w' ⟨rfl, rfl⟩)
          all_goals
            go_ret
            exact ⟨by simp_all [Em.valid] <;> rfl, F0.out⟩
        · skip
          go_wp2_with (go_at_call 45; refine (HW.out _ _ _ _).mono ?_; rintro e w' ⟨rfl, rfl⟩)
          all_goals
            go_ret
            exact ⟨by simp_all [Em.valid] <;> rfl, F0.out⟩
    · skip
      by_cases k7 : k = 7
      · subst k7
        cases hbs : Em.base ⟨7, t, c, lo, hi, b, o⟩
        · go_wp2_with (go_at_call 45; refine (HW.out _ _ _ _).mono ?_; rintro e w' ⟨rfl, rfl⟩)
          all_goals
            go_ret
            exact ⟨by simp_all [Em.valid] <;> rfl, (F0.out.setCell (.inr (Nat.le_refl _)) _).setCell (.inr (Nat.le_refl _)) _⟩
        · skip
          cases h2 : Em.within o 0 3
          · go_wp2_with (go_at_call 45; refine (HW.out _ _ _ _).mono ?_; rintro e w' ⟨rfl, rfl⟩)
            all_goals
              go_ret
              exact ⟨by simp_all [Em.valid] <;> rfl, (F0.out.setCell (.inr (Nat.le_refl _)) _).setCell (.inr (Nat.le_refl _)) _⟩
          · skip
            cases h3 : Em.within b 1 3
            · go_wp2_with (go_at_call 45; refine (HW.out _ _ _ _).mono ?_; rintro e w' ⟨rfl, rfl⟩)
              all_goals
                go_ret
                exact ⟨by simp_all [Em.valid] <;> rfl, (F0.out.setCell (.inr (Nat.le_refl _)) _).setCell (.inr (Nat.le_refl _)) _⟩
            · skip
              go_wp2_with (go_at_call 45; refine (HW.out _ _ _ _).mono ?_; rintro e w' ⟨rfl, rfl⟩)
              all_goals
                go_ret
                exact ⟨by simp_all [Em.valid] <;> rfl, (F0.out.setCell (.inr (Nat.le_refl _)) _).setCell (.inr (Nat.le_refl _)) _⟩
      · skip
        by_cases k4 : k = 4
        · subst k4
          cases hbs : Em.base ⟨4, t, c, lo, hi, b, o⟩
          · go_wp2_with (go_at_call 45; refine (HW.out _ _ _ _).mono ?_; rintro e w' ⟨rfl, rfl⟩)
            all_goals
              go_ret
              exact ⟨by simp_all [Em.valid] <;> rfl, F0.out.setCell (.inr (Nat.le_refl _)) _⟩
          · skip
            cases h3 : Em.within b 1 3
            · go_wp2_with (go_at_call 45; refine (HW.out _ _ _ _).mono ?_; rintro e w' ⟨rfl, rfl⟩)
              all_goals
                go_ret
                exact ⟨by simp_all [Em.valid] <;> rfl, F0.out.setCell (.inr (Nat.le_refl _)) _⟩
            · skip
              go_wp2_with (go_at_call 45; refine (HW.out _ _ _ _).mono ?_; rintro e w' ⟨rfl, rfl⟩)
              all_goals
                go_ret
                exact ⟨by simp_all [Em.valid] <;> rfl, F0.out.setCell (.inr (Nat.le_refl _)) _⟩
        · skip
          by_cases k5 : k = 5
          · subst k5
            cases hbs : Em.base ⟨5, t, c, lo, hi, b, o⟩
            · go_wp2_with (go_at_call 45; refine (HW.out _ _ _ _).mono ?_; rintro e w' ⟨rfl, rfl⟩)
              all_goals
                go_ret
                exact ⟨by simp_all [Em.valid] <;> rfl, F0.out.setCell (.inr (Nat.le_refl _)) _⟩
            · skip
              cases h3 : Em.within b 1 3
              · go_wp2_with (go_at_call 45; refine (HW.out _ _ _ _).mono ?_; rintro e w' ⟨rfl, rfl⟩)
                all_goals
                  go_ret
                  exact ⟨by simp_all [Em.valid] <;> rfl, F0.out.setCell (.inr (Nat.le_refl _)) _⟩
              · skip
                go_wp2_with (go_at_call 45; refine (HW.out _ _ _ _).mono ?_; rintro e w' ⟨rfl, rfl⟩)
                all_goals
                  go_ret
                  exact ⟨by simp_all [Em.valid] <;> rfl, F0.out.setCell (.inr (Nat.le_refl _)) _⟩
          · skip
            by_cases k6 : k = 6
            · subst k6
              cases hbs : Em.base ⟨6, t, c, lo, hi, b, o⟩
              · go_wp2_with (go_at_call 45; refine (HW.out _ _ _ _).mono ?_; rintro e w' ⟨rfl, rfl⟩)
                all_goals
                  go_ret
                  exact ⟨by simp_all [Em.valid] <;> rfl, F0.out.setCell (.inr (Nat.le_refl _)) _⟩
              · skip
                cases h3 : Em.within b 1 3
                · go_wp2_with (go_at_call 45; refine (HW.out _ _ _ _).mono ?_; rintro e w' ⟨rfl, rfl⟩)
                  all_goals
                    go_ret
                    exact ⟨by simp_all [Em.valid] <;> rfl, F0.out.setCell (.inr (Nat.le_refl _)) _⟩
                · skip
                  go_wp2_with (go_at_call 45; refine (HW.out _ _ _ _).mono ?_; rintro e w' ⟨rfl, rfl⟩)
                  all_goals
                    go_ret
                    exact ⟨by simp_all [Em.valid] <;> rfl, F0.out.setCell (.inr (Nat.le_refl _)) _⟩
            · skip
              by_cases k2 : k = 2
              · subst k2
                cases hbs : Em.base ⟨2, t, c, lo, hi, b, o⟩
                · go_wp2_with (go_at_call 45; refine (HW.out _ _ _ _).mono ?_; rintro e w' ⟨rfl, rfl⟩)
                  all_goals
                    go_ret
                    exact ⟨by simp_all [Em.valid] <;> rfl, F0.out⟩
                · skip
                  go_wp2_with (go_at_call 45; refine (HW.out _ _ _ _).mono ?_; rintro e w' ⟨rfl, rfl⟩)
                  all_goals
                    go_ret
                    exact ⟨by simp_all [Em.valid] <;> rfl, F0.out⟩
              · skip
                by_cases k3 : k = 3
                · subst k3
                  cases hbs : Em.base ⟨3, t, c, lo, hi, b, o⟩
                  · go_wp2_with (go_at_call 45; refine (HW.out _ _ _ _).mono ?_; rintro e w' ⟨rfl, rfl⟩)
                    all_goals
                      go_ret
                      exact ⟨by simp_all [Em.valid] <;> rfl, F0.out⟩
                  · skip
                    go_wp2_with (go_at_call 45; refine (HW.out _ _ _ _).mono ?_; rintro e w' ⟨rfl, rfl⟩)
                    all_goals
                      go_ret
                      exact ⟨by simp_all [Em.valid] <;> rfl, F0.out⟩
                · skip
                  have e1 : (k == 1) = false := by simp [k1]
                  have e2 : (k == 2) = false := by simp [k2]
                  have e3 : (k == 3) = false := by simp [k3]
                  have e4 : (k == 4) = false := by simp [k4]
                  have e5 : (k == 5) = false := by simp [k5]
                  have e6 : (k == 6) = false := by simp [k6]
                  have e7 : (k == 7) = false := by simp [k7]
                  go_wp2_with (go_at_call 45; refine (HW.out _ _ _ _).mono ?_; rintro e w' ⟨rfl, rfl⟩)
                  all_goals
                    go_ret
                    exact ⟨by simp_all [Em.valid] <;> rfl, F0.out⟩
end Go.Proofs.YthiaaminkfkjpaaGreat
