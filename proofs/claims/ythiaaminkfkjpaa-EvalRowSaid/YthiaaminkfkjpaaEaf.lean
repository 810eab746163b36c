/-
  Elements at an address.
-/
import Derived.Test.YthiaaminkfkjpaaEad
namespace Go.Proofs.Ythiaaminkfkjpaa

/-- At A lie the elements L. -/
def AtL {X : Type} (enc : X → List Value) (size : Nat) (w : World) (A : Option Addr) (L : List X) : Prop :=
  0 < L.length → ∃ b off, A = some ⟨b, off, none⟩ ∧ b < w.heap.size ∧ ∀ i (h : i < L.length) j, j < size → w.cell? ⟨b, off + i * size + j, none⟩ = (enc L[i])[j]?
section
variable {X : Type} {enc : X → List Value} {size e : Nat} {w w' : World} {A : Option Addr} {L : List X} {v : Value}
theorem AtL.fr {S : List Nat} (h : AtL enc size w A L) (hf : Fr S w w') (hs : ∀ ad, A = some ad → ad.block ∉ S) : AtL enc size w' A L := by
  intro hl
  obtain ⟨b, off, e, hb, hc⟩ := h hl
  refine ⟨b, off, e, Nat.lt_of_lt_of_le hb hf.size, fun i hi j hj => ?_⟩
  rw [hf.cell (p := ⟨b, off + i * size + j, none⟩) hb (hs ⟨b, off, none⟩ e)]
  exact hc i hi j hj
theorem AtL.fr0 (h : AtL enc size w A L) (hf : Fr [] w w') : AtL enc size w' A L := h.fr hf (by simp)
theorem OwnL.at_ (henc : ∀ x, (enc x).length = size) (h : OwnL e size enc w v L) : ∃ A cap, v = .slice A L.length cap ∧ AtL enc size w A L := by
  rcases Nat.eq_zero_or_pos L.length with h0 | h0
  · obtain ⟨A, cap, hv⟩ := h.val
    exact ⟨A, cap, hv, fun hl => absurd hl (by omega)⟩
  · obtain ⟨g, cap, hv, _, _, hlt, hcell, _⟩ := h.form henc h0
    exact ⟨_, cap, hv, fun _ => ⟨g, 0, rfl, hlt, fun i hi j hj => by rw [Nat.zero_add]; exact hcell i hi j hj⟩⟩
theorem AtL.of_blk (henc : ∀ x, (enc x).length = size) {g t : Nat} {arr : Array Value} (hB : Blk w g t arr) (h : L.flatMap enc = arr.toList) : AtL enc size w (some ⟨g, 0, none⟩) L :=
  fun _ => ⟨g, 0, rfl, hB.lt, fun i hi j hj => by
    rw [← flat_get henc L i hi j hj, h, Nat.zero_add, hB.cell]
    simp⟩
end
theorem OwnL.at1 {X : Type} {e size : Nat} {enc : X → List Value} {w : World} {A : Option Addr} {n cap : Nat} {L : List X} (henc : ∀ x, (enc x).length = size) (h : OwnL e size enc w (.slice A n cap) L) : AtL enc size w A L ∧ n = L.length := by
  obtain ⟨A', cap', hv, ha⟩ := h.at_ henc
  cases hv
  exact ⟨ha, rfl⟩
end Go.Proofs.Ythiaaminkfkjpaa
