/-
  Parts of a row, as sources of an append.
-/
import Derived.Test.YthiaaminkfkjpaaEab
namespace Go.Proofs.Ythiaaminkfkjpaa
open Go.RowKit

section
variable {X : Type} {w w' : World} {B size n : Nat} {A : Option Addr} {xs : List Value} {enc : X → List Value} {L : List X}
theorem Reads.take (h : Reads w B size A n xs) {k : Nat} (hk : k ≤ n) : Reads w B size A k (xs.take (k * size)) := by
  refine ⟨by rw [List.length_take, h.1]; exact Nat.min_eq_left (Nat.mul_le_mul_right _ hk), fun h0 => ?_⟩
  obtain ⟨ad, e, hb, hc⟩ := h.2 (by omega)
  refine ⟨ad, e, hb, fun j u hu => hc j u ?_⟩
  rw [List.getElem?_take] at hu
  split at hu
  · exact hu
  · cases hu
theorem flat_take (henc : ∀ x, (enc x).length = size) : ∀ (L : List X) (k : Nat), (L.take k).flatMap enc = (L.flatMap enc).take (k * size)
  | [], k => by simp
  | x :: L, 0 => by simp
  | x :: L, k + 1 => by
    rw [List.take_succ_cons, List.flatMap_cons, List.flatMap_cons, flat_take henc L k, List.take_append, henc]
    rw [List.take_of_length_le (i := (k + 1) * size) (by rw [henc, Nat.add_mul]; omega)]
    rw [show (k + 1) * size - size = k * size from by rw [Nat.add_mul]; omega]
theorem flat_drop (henc : ∀ x, (enc x).length = size) : ∀ (L : List X) (k : Nat), (L.drop k).flatMap enc = (L.flatMap enc).drop (k * size)
  | [], k => by simp
  | x :: L, 0 => by simp
  | x :: L, k + 1 => by
    rw [List.drop_succ_cons, List.flatMap_cons, flat_drop henc L k, List.drop_append, henc]
    rw [List.drop_eq_nil_of_le (i := (k + 1) * size) (by rw [henc, Nat.add_mul]; omega)]
    rw [show (k + 1) * size - size = k * size from by rw [Nat.add_mul]; omega]
    rfl
theorem Reads.takeL (henc : ∀ x, (enc x).length = size) (h : Reads w B size A n (L.flatMap enc)) {k : Nat} (hk : k ≤ n) : Reads w B size A k ((L.take k).flatMap enc) := by
  rw [flat_take henc]; exact h.take hk
theorem Reads.cutL (henc : ∀ x, (enc x).length = size) (h : Reads w B size A n (L.flatMap enc)) {k cap : Nat} (hk : k ≤ n) (hc : n ≤ cap) :
    Reads w B size (if cap = k then A else A.map (·.add (k * size))) (n - k) ((L.drop k).flatMap enc) := by
  rw [flat_drop henc]; exact h.cut hk hc
/-- No element is read, wherever. -/
theorem reads_none {w : World} {B size n : Nat} {A : Option Addr} (h : n = 0) : Reads w B size A n ([] : List Value) := ⟨by simp [h], fun hn => absurd hn (by omega)⟩
/-- The elements from place k on. -/
theorem Reads.from_ (henc : ∀ x, (enc x).length = size) {g : Nat} (h : Reads w B size (some ⟨g, 0, none⟩) L.length (L.flatMap enc)) {k off : Nat} (hk : k ≤ L.length) (ho : off = k * size) : Reads w B size (some ⟨g, off, none⟩) (L.length - k) ((L.drop k).flatMap enc) := by
  have h1 := h.cutL henc (k := k) (cap := L.length + 1) hk (by omega)
  rw [if_neg (by omega)] at h1
  subst ho
  have e1 : (⟨g, 0, none⟩ : Addr).add (k * size) = ⟨g, k * size, none⟩ := by unfold Addr.add; split <;> simp_all
  simpa only [Option.map_some, e1] using h1
end
end Go.Proofs.Ythiaaminkfkjpaa
