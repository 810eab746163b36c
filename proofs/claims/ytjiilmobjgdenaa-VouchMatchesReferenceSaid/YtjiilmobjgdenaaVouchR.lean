/-
  The reference clock: contracts.
-/
import Derived.Test.YtjiilmobjgdenaaVouchB
import Derived.Test.YtjiilmobjgdenaaRow
import Derived.StillTailTactics
import Derived.Deep.DeepCutAuto
import Derived.Deep.LoopGhost
namespace Go.Proofs.Ytjiilmobjgdenaa
open Go.RowKit

namespace Rm
structure Clk where
  pos : Int
  time : Int
  lp : Int
  lt : Int
  L : List (Int × Int)
def new : Clk := ⟨0, 0, 0, 0, []⟩
/-- Of the first i elements of L none is worse than the one at index k. -/
def NoWorse (L : List (Int × Int)) (i k : Nat) : Prop := ∃ hk : k < L.length, ∀ j (hj : j < L.length), j < i → Vm.worse L[j].1 L[j].2 L[k].1 L[k].2 = false
theorem NoWorse.start {L : List (Int × Int)} (h : 0 < L.length) : NoWorse L 1 0 := ⟨h, fun j hj h1 => by
  obtain rfl : j = 0 := by omega
  simp [Vm.worse]⟩
theorem NoWorse.turn {L : List (Int × Int)} {i k : Nat} (h : NoWorse L i k) (hi : i < L.length) (hw : ∀ hk : k < L.length, Vm.worse L[i].1 L[i].2 L[k].1 L[k].2 = true) : NoWorse L (i + 1) i := by
  obtain ⟨hk, ha⟩ := h
  refine ⟨hi, fun j hj h1 => ?_⟩
  have hw := hw hk
  rcases Nat.lt_or_ge j i with h2 | h2
  · have := ha j hj h2
    simp only [Vm.worse, decide_eq_true_eq, decide_eq_false_iff_not] at hw this ⊢
    omega
  · obtain rfl : j = i := by omega
    simp [Vm.worse]
theorem NoWorse.keep {L : List (Int × Int)} {i k : Nat} (h : NoWorse L i k) (hw : ∀ (hi : i < L.length) (hk : k < L.length), Vm.worse L[i].1 L[i].2 L[k].1 L[k].2 = false) : NoWorse L (i + 1) k := by
  obtain ⟨hk, ha⟩ := h
  refine ⟨hk, fun j hj h1 => ?_⟩
  rcases Nat.lt_or_ge j i with h2 | h2
  · exact ha j hj h2
  · obtain rfl : j = i := by omega
    exact hw hj hk
/-- What 'Beat' does to the list of waiting beats. -/
def Waits (L : List (Int × Int)) (p t : Int) (L' : List (Int × Int)) : Prop :=
  (∃ i, ∃ h : i < L.length, L[i].1 = p ∧ L' = L.set i (p, Vm.isMax L[i].2 t)) ∨
  ((∀ e ∈ L, e.1 ≠ p) ∧ ((L.length + 1 ≤ 64 ∧ L' = L ++ [(p, t)]) ∨ (64 < L.length + 1 ∧ ∃ i, NoWorse (L ++ [(p, t)]) (L.length + 1) i ∧ L' = (L ++ [(p, t)]).eraseIdx i)))
end Rm

def encB (x : Int × Int) : List Value := [.int .i64 x.1, .int .i64 x.2]
theorem encB_len (x : Int × Int) : (encB x).length = 2 := rfl
theorem encB_one (x : Int × Int) : ∀ u ∈ encB x, u.oneCell' = true := by intro u hu; simp [encB] at hu; rcases hu with rfl | rfl <;> rfl
abbrev Brow (w : World) (v : Value) (L : List (Int × Int)) : Prop := OwnL 37 2 encB w v L
theorem infoB : (Try.prog.info? 37).map (fun i => (i.zero, i.size, i.bytes)) = some (some (.agg #[.int .i64 0, .int .i64 0]), 2, 16) := by kernel_rfl
theorem etB : ∃ i0, ET Try.prog 38 37 2 16 i0 (.agg #[.int .i64 0, .int .i64 0]) := by
  obtain ⟨i0, hi, hz0, hz1, hz2⟩ := info_parts infoB
  exact ⟨i0, Try.underlying38, hi, hz0, hz1, hz2, rfl, by decide⟩

structure RefAt (w : World) (b : Nat) (v : Value) (r : Rm.Clk) : Prop where
  blk : Blk w b 40 #[.int .i64 r.pos, .int .i64 r.time, .int .i64 r.lp, .int .i64 r.lt, v]
  row : Brow w v r.L
/-- The blocks of a reference clock. -/
def fpR (b : Nat) (v : Value) : List Nat := b :: v.ownBlock.toList
theorem RefAt.fr {w w' : World} {b : Nat} {v : Value} {r : Rm.Clk} {S : List Nat} (h : RefAt w b v r) (hf : Fr S w w') (hs : ∀ i ∈ fpR b v, i ∉ S) : RefAt w' b v r :=
  ⟨h.blk.fr hf (hs b (by simp [fpR])), h.row.fr hf (fun g hg => hs g (by simp [fpR, hg]))⟩

theorem rnew_any (w : World) : Calls Try.prog 9 #[] w fun e w' => e = .returned (.pointer (some ⟨w.heap.size, 0, none⟩)) ∧ RefAt w' w.heap.size (.slice none 0 0) Rm.new ∧ Fr [] w w' := by
  go_enter Try.func9, Try.ntmps9
  go_wp2
  go_ret
  exact ⟨rfl, ⟨Blk.new _ _ _, OwnL.nil⟩, (Fr.refl _ _).alloc _⟩

set_option maxRecDepth 100000 in
/-- A beat that is not valid. -/
theorem rbeat_bad (b : Nat) (p t : Int) (w : World) (hv : Vm.valid p t = false) :
    Calls Try.prog 15 #[.pointer (some ⟨b, 0, none⟩), .int .i64 p, .int .i64 t] w fun e w' => e = .returned (.tuple #[]) ∧ w = w' := by
  simp only [Vm.valid, decide_eq_false_iff_not] at hv
  by_cases h1 : p < 0
  · go_enter Try.func15, Try.ntmps15
    go_wp2
    refine bodyPost_ret (results_none rfl _ _ _) rfl ?_
    exact ⟨rfl, rfl⟩
  by_cases h2 : 10000 < p
  · go_enter Try.func15, Try.ntmps15
    go_wp2
    refine bodyPost_ret (results_none rfl _ _ _) rfl ?_
    exact ⟨rfl, rfl⟩
  by_cases h3 : t < 1
  · go_enter Try.func15, Try.ntmps15
    go_wp2
    refine bodyPost_ret (results_none rfl _ _ _) rfl ?_
    exact ⟨rfl, rfl⟩
  · have h4 : 1000000 < t := by omega
    go_enter Try.func15, Try.ntmps15
    go_wp2
    refine bodyPost_ret (results_none rfl _ _ _) rfl ?_
    exact ⟨rfl, rfl⟩
end Go.Proofs.Ytjiilmobjgdenaa
