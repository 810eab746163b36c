/-
  Arguments that are slices of truth values.
-/
import Derived.Test.YtbmakjhfoaadoaaOk
import Derived.Deep.Grids
namespace Go.Proofs.Ytbmakjhfoaadoaa
open Go.RowKit Go.WideShapes Go.ChangeShapes

/-- The elements of a slice of truth values. -/
structure BoolsAt (w : World) (b off : Nat) (xs : List Bool) : Prop where
  cell : ∀ i (h : i < xs.length), w.cell? ⟨b, off + i, none⟩ = some (.bool xs[i])
  lt : 0 < xs.length → b < w.heap.size
theorem BoolsAt.fr {w w' : World} {b off : Nat} {xs : List Bool} (h : BoolsAt w b off xs) (hf : Fr [] w w') : BoolsAt w' b off xs :=
  ⟨fun i hi => (hf.rules.1 b _ (h.lt (by omega))).trans (h.cell i hi), fun hl => Nat.lt_of_lt_of_le (h.lt hl) hf.size⟩
set_option maxRecDepth 100000 in
theorem boolCells : Try.prog.cellsOf 4 = 1 := by kernel_rfl
set_option maxRecDepth 100000 in
theorem open_boolsAt {H : Type} {enc : TypeId × Value → H} {W : World} {base : Nat} {v : Value} {d : DataW H} {p : List MemPlace} (hv : Value.okWide Try.prog W .any base 58 v)
    (h : DataW.Trod enc Try.prog W 0 (fun _ => true) true 58 v d p) :
    ∃ A n cap xs, v = .slice A n cap ∧ xs.length = n ∧ n ≤ maxLen ∧ (n = 0 ∨ ∃ b off, A = some ⟨b, off, none⟩ ∧ BoolsAt W b off xs) := by
  obtain ⟨a0, len, cap, rfl⟩ := okWide_slice Try.underlying58 hv
  obtain ⟨fuel, hf⟩ := h
  rcases Go.Deep.open_bools Try.underlying58 Try.underlying4 boolCells hf with ⟨hcs, hx⟩ | ⟨a, len', cap', B, hcs, _, hl, hm, hx, hcell⟩
  · simp [Value.cells] at hcs
    obtain ⟨rfl, rfl, rfl⟩ := hcs
    exact ⟨_, _, _, [], rfl, rfl, by simp [maxLen], .inl rfl⟩
  · simp [Value.cells] at hcs
    obtain ⟨rfl, rfl, rfl⟩ := hcs
    refine ⟨_, _, _, (List.range len).map B, rfl, by simp, by omega, ?_⟩
    rcases Nat.eq_zero_or_pos len with h0 | h0
    · exact .inl h0
    · right
      obtain ⟨b, off, spot⟩ := a
      have hspot : spot = none := by simpa [Addr.add] using World.cell?_spot (hcell 0 (by omega))
      subst hspot
      have hadd : ∀ j, (⟨b, off, none⟩ : Addr).add j = ⟨b, off + j, none⟩ := fun j => by unfold Addr.add; split <;> simp_all
      refine ⟨b, off, rfl, fun i hi => ?_, fun _ => World.block_lt_of_cell? W _ (hcell 0 (by omega))⟩
      have := hcell i (by simp at hi; omega)
      rw [hadd] at this
      rw [this]
      simp
end Go.Proofs.Ytbmakjhfoaadoaa
