/-
  Contracts of the clock's methods that write no map.
-/
import Derived.Test.YtldolhdgkbljlaaVouchA
import Derived.Test.YtldolhdgkbljlaaOk
namespace Go.Proofs.Ytldolhdgkbljlaa
open Go.RowKit

theorem tyII : MT Try.prog 85 3 3 (Value.int .i64) (Lit.int .i64) (Value.int .i64) okI (.int .i64 0) where
  keyed := Maps.int_keyed Try.underlying3
  ht := Try.underlying85
  key := fun x hx => Maps.keyOf_int_mk Try.underlying3 hx
  inj := fun x y h => by injection h
  zero := fun w => by kernel_rfl

def clkCells (c : Vm.Clk) (m : Nat) : Array Value := #[.int .i64 c.applied, .int .i64 c.asOf, .int .i64 c.lp, .int .i64 c.lt, .map (some m)]
/-- At block b lies the clock c, whose map lies at block m. -/
structure ClkAt (w : World) (b m : Nat) (c : Vm.Clk) : Prop where
  blk : Blk w b 89 (clkCells c m)
  map : VMap Try.prog 3 (Lit.int .i64) (Value.int .i64) w m c.L
  keys : ∀ e ∈ c.L, okI e.1

theorem ClkAt.ne {w : World} {b m : Nat} {c : Vm.Clk} (h : ClkAt w b m c) : m ≠ b := h.map.ne h.blk
theorem ClkAt.fr {w w' : World} {b m : Nat} {c : Vm.Clk} {S : List Nat} (h : ClkAt w b m c) (hf : Fr S w w') (hb : b ∉ S) (hm : m ∉ S) : ClkAt w' b m c :=
  ⟨h.blk.fr hf hb, h.map.fr hf hm, h.keys⟩

theorem new_any (w : World) : Calls Try.prog 14 #[] w fun e w' => e = .returned (.pointer (some ⟨w.heap.size + 1, 0, none⟩)) ∧ ClkAt w' (w.heap.size + 1) w.heap.size Vm.new ∧ Fr [] w w' := by
  have hmm := @run_makeMap Try.prog
  go_enter Try.func14, Try.ntmps14
  go_wp2
  go_ret
  refine ⟨by simp, ⟨?_, (VMap.made _ _ w).alloc _, by simp [Vm.new]⟩, ((Fr.refl _ _).alloc _).alloc _⟩
  have := Blk.new (w.alloc (.map #[] 0)) 89 (clkCells Vm.new w.heap.size)
  simpa [clkCells, Vm.new] using this

theorem asOf_nil (w : World) : Calls Try.prog 26 #[.pointer none] w fun e w' => e = .returned (.int .i64 0) ∧ w = w' := by
  go_enter Try.func26, Try.ntmps26
  go_wp2
  go_ret
  exact ⟨rfl, rfl⟩
theorem asOf_any (b m : Nat) (c : Vm.Clk) (w : World) (hclk : ClkAt w b m c) : Calls Try.prog 26 #[.pointer (some ⟨b, 0, none⟩)] w fun e w' => e = .returned (.int .i64 c.asOf) ∧ w = w' := by
  have h1 : w.cell? ⟨b, 1, none⟩ = some (.int .i64 c.asOf) := hclk.blk.cell 1
  go_enter Try.func26, Try.ntmps26
  go_wp2
  go_ret
  exact ⟨rfl, rfl⟩
theorem latest_nil (w : World) : Calls Try.prog 47 #[.pointer none] w fun e w' => e = .returned (.tuple #[.int .i64 0, .int .i64 0]) ∧ w = w' := by
  go_enter Try.func47, Try.ntmps47
  go_wp2
  go_ret2
  exact ⟨rfl, rfl⟩
theorem latest_any (b m : Nat) (c : Vm.Clk) (w : World) (hclk : ClkAt w b m c) : Calls Try.prog 47 #[.pointer (some ⟨b, 0, none⟩)] w fun e w' => e = .returned (.tuple #[.int .i64 c.lp, .int .i64 c.lt]) ∧ ∃ n, w' = w.drewN n := by
  have h2 : w.cell? ⟨b, 2, none⟩ = some (.int .i64 c.lp) := hclk.blk.cell 2
  have h3 : w.cell? ⟨b, 3, none⟩ = some (.int .i64 c.lt) := hclk.blk.cell 3
  go_enter Try.func47, Try.ntmps47
  go_wp2_with fail
  go_quiet (fail)
  go_wp2
  go_ret2
  exact ⟨rfl, _, rfl⟩
theorem vouch_any (b m : Nat) (c : Vm.Clk) (t : Int) (w : World) (hclk : ClkAt w b m c) : Calls Try.prog 51 #[.pointer (some ⟨b, 0, none⟩), .int .i64 t] w fun e w' => e = .returned (.tuple #[]) ∧ ClkAt w' b m { c with asOf := Vm.isMax c.asOf t } ∧ Fr [b] w w' := by
  have h1 : w.cell? ⟨b, 1, none⟩ = some (.int .i64 c.asOf) := hclk.blk.cell 1
  have f1 : w.frozen? ⟨b, 1, none⟩ = false := hclk.blk.frozen 1
  go_enter Try.func51, Try.ntmps51
  go_wp2
  all_goals
    go_end0
    refine ⟨rfl, ⟨?_, hclk.map.setCell hclk.ne _, hclk.keys⟩, (Fr.refl _ _).setCell (.inl (by simp)) _⟩
    first
      | (have e1 : Vm.isMax c.asOf t = c.asOf := if_neg (by omega)
         rw [e1]
         have hb := hclk.blk.set_ 1 (.int .i64 c.asOf)
         simpa [clkCells] using hb)
      | (have e1 : Vm.isMax c.asOf t = t := if_pos (by omega)
         rw [e1]
         have hb := hclk.blk.set_ 1 (.int .i64 t)
         simpa [clkCells] using hb)
theorem reset_nil (w : World) : Calls Try.prog 48 #[.pointer none] w fun e w' => e = .returned (.tuple #[]) ∧ w = w' := by
  go_enter Try.func48, Try.ntmps48
  go_wp2
  go_end0
  exact ⟨rfl, rfl⟩
theorem reset_any (b m : Nat) (c : Vm.Clk) (w : World) (hclk : ClkAt w b m c) : Calls Try.prog 48 #[.pointer (some ⟨b, 0, none⟩)] w fun e w' => e = .returned (.tuple #[]) ∧ ClkAt w' b w.heap.size Vm.new ∧ Fr [b] w w' := by
  go_enter Try.func48, Try.ntmps48
  go_wp2_with (go_at_call 14; refine (new_any _).mono ?_; rintro e w1 ⟨rfl, hn, hf⟩; have hb := hclk.blk.fr hf (by simp); have n0 := hn.blk.cell 0; have n1 := hn.blk.cell 1; have n2 := hn.blk.cell 2; have n3 := hn.blk.cell 3; have n4 := hn.blk.cell 4; have b0 := hb.cell 0; have b1 := hb.cell 1; have b2 := hb.cell 2; have b3 := hb.cell 3; have b4 := hb.cell 4; have f0 := hb.frozen 0; have f1 := hb.frozen 1; have f2 := hb.frozen 2; have f3 := hb.frozen 3; have f4 := hb.frozen 4; simp only [clkCells, Vm.new] at n0 n1 n2 n3 n4 b0 b1 b2 b3 b4)
  go_end0
  have hmb : w.heap.size ≠ b := fun e1 => by have := hb.lt; have := hclk.blk.lt; omega
  refine ⟨rfl, ⟨?_, ((((hn.map.setCell hmb _).setCell hmb _).setCell hmb _).setCell hmb _).setCell hmb _, by simp [Vm.new]⟩, ?_⟩
  · have hq := ((((hb.set_ 0 (.int .i64 0)).set_ 1 (.int .i64 0)).set_ 2 (.int .i64 0)).set_ 3 (.int .i64 0)).set_ 4 (.map (some w.heap.size))
    simpa [clkCells, Vm.new] using hq
  · refine Fr.setCell (Fr.setCell (Fr.setCell (Fr.setCell (Fr.setCell (hf.mono (by simp)) ?_ _) ?_ _) ?_ _) ?_ _) ?_ _ <;> exact .inl (by simp)
end Go.Proofs.Ytldolhdgkbljlaa
