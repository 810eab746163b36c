/-
  An argument that is a slice of arrays of six integers.
-/
import Derived.Test.YtjiikpmkedkbkaaFb
import Derived.OpenShut
import Derived.Deep.Slices
namespace Go.Proofs.Ytjiikpmkedkbkaa
open Go.RowKit Go.WideShapes Go.ChangeShapes

/-- n elements of six integers each. -/
structure SixAt (w : World) (b off n : Nat) : Prop where
  cell : ∀ i, i < n → ∀ j, j < 6 → ∃ z, w.cell? ⟨b, off + i * 6 + j, none⟩ = some (.int .i64 z) ∧ okI z
  lt : b < w.heap.size
theorem SixAt.fr0 {w w' : World} {b off n : Nat} (h : SixAt w b off n) (hf : Fr [] w w') : SixAt w' b off n :=
  ⟨fun i hi j hj => by
    obtain ⟨z, h1, h2⟩ := h.cell i hi j hj
    exact ⟨z, (hf.rules.1 b _ h.lt).trans h1, h2⟩, Nat.lt_of_lt_of_le h.lt hf.size⟩
theorem SixAt.le {w : World} {b off n m : Nat} (h : SixAt w b off n) (hm : m ≤ n) : SixAt w b off m := ⟨fun i hi => h.cell i (by omega), h.lt⟩

set_option maxRecDepth 100000 in
theorem sixCells : Try.prog.cellsOf 64 = 6 := by kernel_rfl
set_option maxRecDepth 100000 in
theorem sixInt : Try.prog.cellsOf 3 = 1 := by kernel_rfl
set_option maxRecDepth 100000 in
theorem open_sixes {H : Type} {enc : TypeId × Value → H} {W : World} {base : Nat} {v : Value} {d : DataW H} {p : List MemPlace} (hv : Value.okWide Try.prog W .any base 31 v)
    (h : DataW.Trod enc Try.prog W 0 (fun _ => true) true 31 v d p) :
    ∃ A n cap, v = .slice A n cap ∧ n ≤ cap ∧ cap ≤ maxLen ∧ (n = 0 ∨ ∃ b off, A = some ⟨b, off, none⟩ ∧ SixAt W b off n) := by
  obtain ⟨a0, len, cap, rfl⟩ := okWide_slice Try.underlying31 hv
  obtain ⟨fuel, hf⟩ := h
  rcases Go.Deep.open_slice Try.underlying31 hf with ⟨hcs, hx⟩ | ⟨a, len', cap', m, n, D, Pl, hcs, _, hl, hm, hmm, hx, hi⟩
  · simp [Value.cells] at hcs
    obtain ⟨rfl, rfl, rfl⟩ := hcs
    exact ⟨_, _, _, rfl, Nat.le_refl _, by simp [maxLen], .inl rfl⟩
  · simp [Value.cells] at hcs
    obtain ⟨rfl, rfl, rfl⟩ := hcs
    simp only [if_true] at hmm
    subst hmm
    refine ⟨_, _, _, rfl, hl, hm, ?_⟩
    rcases Nat.eq_zero_or_pos len with h0 | h0
    · exact .inl h0
    · right
      have each : ∀ i, i < len → ∀ j, j < 6 → ∃ z, W.cell? ((a.add (i * 6)).add j) = some (.int .i64 z) ∧ okI z := fun i hil j hj => by
        obtain ⟨cs', hc, ht⟩ := hi i (by omega)
        rw [sixCells] at hc
        obtain ⟨xs, q, _, _, hlen, hxl, hat⟩ := DataW.trod_array Try.underlying64 ht
        obtain ⟨_, hcl, hcell⟩ := World.cells?_some hc
        have h1 := hat j hj
        rw [sixInt] at h1
        have hjl : j < cs'.length := by omega
        have hone : (cs'.drop (j * 1)).take 1 = [cs'[j]] := by
          rw [Nat.mul_one, List.drop_eq_getElem_cons hjl]
          rfl
        rw [hone, List.getElem?_eq_getElem (by omega)] at h1
        obtain ⟨z, hz, _, hw⟩ := DataW.trod_int Try.underlying3 h1
        have h2 := hcell j hj
        rw [List.getElem?_eq_getElem hjl] at h2
        injection hz with hz
        exact ⟨z, by rw [h2, hz], hw⟩
      obtain ⟨b, off, spot⟩ := a
      obtain ⟨z0, hz0, _⟩ := each 0 h0 0 (by decide)
      have hspot : spot = none := by simpa [Addr.add] using World.cell?_spot hz0
      subst hspot
      have hadd : ∀ o j, (⟨b, o, none⟩ : Addr).add j = ⟨b, o + j, none⟩ := fun o j => by unfold Addr.add; split <;> simp_all
      refine ⟨b, off, rfl, fun i hil j hj => ?_, ?_⟩
      · have h3 := each i hil j hj
        rwa [hadd, hadd] at h3
      · have h4 := World.block_lt_of_cell? W _ hz0
        simpa [Addr.add] using h4
end Go.Proofs.Ytjiikpmkedkbkaa
