/-
  'After'; Apply.
-/
import Derived.Test.YtlicjokgcahmlaaStC
namespace Go.Proofs.Ytlicjokgcahmlaa
open Go.RowKit

theorem after_no (c : Chg) (h : c.has = false) (w : World) : Calls Try.prog 32 #[c.val] w fun e w' =>
    e = .returned (.tuple #[rowVal 0 0 0 0 0, .bool false]) ∧ Fr [] w w' := by
  obtain ⟨t, k, had, o0, o1, o2, has, n0, n1, n2⟩ := c
  dsimp only at h
  subst h
  have F0 : Fr [] w ((w.alloc (.cells #[.int .i64 t, .int .i64 k, .bool had, .int .i64 o0, .int .i64 o1, .int .i64 o2, .bool false, .int .i64 n0, .int .i64 n1, .int .i64 n2] 62)).alloc (.cells #[.int .i64 0, .int .i64 0, .int .i64 0, .int .i64 0, .int .i64 0] 31)) := ((Fr.refl _ _).alloc _).alloc _
  have hB := Blk.new (w.alloc (.cells #[.int .i64 t, .int .i64 k, .bool had, .int .i64 o0, .int .i64 o1, .int .i64 o2, .bool false, .int .i64 n0, .int .i64 n1, .int .i64 n2] 62)) 31 #[.int .i64 0, .int .i64 0, .int .i64 0, .int .i64 0, .int .i64 0]
  rw [World.size_alloc] at hB
  have hh := half_no ⟨t, k, had, o0, o1, o2, false, n0, n1, n2⟩ n0 n1 n2
  unfold Chg.val rowVal at *
  go_enter Try.func32, Try.ntmps32
  go_wp2_with fail
  refine (hh _).mono ?_
  rintro e w1 ⟨rfl, f1⟩
  have F1 := F0.trans f1
  have hB1 := hB.fr f1 (by simp)
  have h0 := hB1.cell 0
  have h1 := hB1.cell 1
  have h2 := hB1.cell 2
  have h3 := hB1.cell 3
  have h4 := hB1.cell 4
  have z0 := hB1.frozen 0
  have z1 := hB1.frozen 1
  have z2 := hB1.frozen 2
  have z3 := hB1.frozen 3
  have z4 := hB1.frozen 4
  go_wp2_with fail
  refine bodyPost_ret (v := .tuple #[.agg #[.int .i64 0, .int .i64 0, .int .i64 0, .int .i64 0, .int .i64 0], .bool false]) (by simp [results, Try.results32, go_sem, h0, h1, h2, h3, h4]) rfl ⟨rfl, ?_⟩
  repeat first | exact F1 | refine Fr.setCell ?_ (.inr (by simp)) _
theorem after_yes (c : Chg) (h : c.has = true) (w : World) : Calls Try.prog 32 #[c.val] w fun e w' =>
    e = .returned (.tuple #[rowVal c.t c.k c.n0 c.n1 c.n2, .bool true]) ∧ Fr [] w w' := by
  obtain ⟨t, k, had, o0, o1, o2, has, n0, n1, n2⟩ := c
  dsimp only at h
  subst h
  have F0 : Fr [] w ((w.alloc (.cells #[.int .i64 t, .int .i64 k, .bool had, .int .i64 o0, .int .i64 o1, .int .i64 o2, .bool true, .int .i64 n0, .int .i64 n1, .int .i64 n2] 62)).alloc (.cells #[.int .i64 0, .int .i64 0, .int .i64 0, .int .i64 0, .int .i64 0] 31)) := ((Fr.refl _ _).alloc _).alloc _
  have hB := Blk.new (w.alloc (.cells #[.int .i64 t, .int .i64 k, .bool had, .int .i64 o0, .int .i64 o1, .int .i64 o2, .bool true, .int .i64 n0, .int .i64 n1, .int .i64 n2] 62)) 31 #[.int .i64 0, .int .i64 0, .int .i64 0, .int .i64 0, .int .i64 0]
  rw [World.size_alloc] at hB
  have hh := half_yes ⟨t, k, had, o0, o1, o2, true, n0, n1, n2⟩ n0 n1 n2
  unfold Chg.val rowVal at *
  go_enter Try.func32, Try.ntmps32
  go_wp2_with fail
  refine (hh _).mono ?_
  rintro e w1 ⟨rfl, f1⟩
  have F1 := F0.trans f1
  have hB1 := hB.fr f1 (by simp)
  have h0 := hB1.cell 0
  have h1 := hB1.cell 1
  have h2 := hB1.cell 2
  have h3 := hB1.cell 3
  have h4 := hB1.cell 4
  have z0 := hB1.frozen 0
  have z1 := hB1.frozen 1
  have z2 := hB1.frozen 2
  have z3 := hB1.frozen 3
  have z4 := hB1.frozen 4
  go_wp2_with fail
  refine bodyPost_ret (v := .tuple #[.agg #[.int .i64 t, .int .i64 k, .int .i64 n0, .int .i64 n1, .int .i64 n2], .bool true]) (by simp [results, Try.results32, go_sem, h0, h1, h2, h3, h4]) rfl ⟨rfl, ?_⟩
  repeat first | exact F1 | refine Fr.setCell ?_ (.inr (by simp)) _
end Go.Proofs.Ytlicjokgcahmlaa
