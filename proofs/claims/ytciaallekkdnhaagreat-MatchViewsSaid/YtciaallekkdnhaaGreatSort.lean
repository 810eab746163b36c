/-
  A row of the call's own, sorted by the library: what it was before and what it is behind.
-/
import Derived.Test.YtciaallekkdnhaaGreatJb
import Derived.Shelf.SlSortCmp.NoneTotal
namespace Go.Proofs.YtciaallekkdnhaaGreat
open Go.RowKit Go.Sort

section
variable {X : Type} [Inhabited X] {e size : Nat} {enc : X → List Value} {w : World} {g cap : Nat} {L : List X}
theorem getI_toArray (L : List X) {i : Nat} (h : i < L.length) : L.toArray[i]! = L[i] := by simp [h]
theorem OwnL.holdsK (henc : ∀ x, (enc x).length = size) (h : OwnL e size enc w (.slice (some ⟨g, 0, none⟩) L.length cap) L) : HoldsK enc size w g 0 L.toArray := by
  intro q hq
  rw [size_flatK] at hq
  have hq' : q < L.length * size := by simpa using hq
  have hs : 0 < size := Nat.pos_of_ne_zero fun e => by subst e; simp at hq'
  have h0 : 0 < L.length := Nat.pos_of_ne_zero fun e => by rw [e] at hq'; simp at hq'
  obtain ⟨g', cap', hv, _, _, _, hcell, hfz⟩ := h.form henc h0
  cases hv
  have hi : q / size < L.length := Nat.div_lt_of_lt_mul (by rw [Nat.mul_comm]; exact hq')
  have hj : q % size < size := Nat.mod_lt _ hs
  have hqq : q / size * size + q % size = q := by rw [Nat.mul_comm]; exact Nat.div_add_mod q size
  rw [get_flatK _ _ _ _ hq, getI_toArray L hi, Nat.zero_add]
  have h1 := hcell (q / size) hi (q % size) hj
  rw [hqq] at h1
  refine ⟨?_, hfz _⟩
  rw [h1, List.getElem?_eq_getElem (by rw [henc]; exact hj)]
  simp [henc, hj]

theorem sortWorld_fr (n : Nat) (d : Array X) (os : Array Obj) (k off : Nat) : Fr [g] w (sortWorldK enc k w g off n d os) := by
  refine ⟨rfl, rfl, rfl, ?_, fun j hj hn => ?_⟩
  · simp [sortWorldK, grow, putRowK, putRow, mapBlock, Go.Sort.ahead]
  · have hjg : g ≠ j := fun e => hn (by simp [e])
    simp only [sortWorldK, grow, putRowK, putRow, mapBlock, Go.Sort.ahead]
    rw [Array.getElem?_append_left (by simpa using hj), Array.getElem?_modify, if_neg hjg]

theorem OwnL.sorted (henc : ∀ x, (enc x).length = size) (h : OwnL e size enc w (.slice (some ⟨g, 0, none⟩) L.length cap) L) (d : Array X) (hd : d.size = L.length) (n : Nat) (os : Array Obj) :
    OwnL e size enc (sortWorldK enc size w g 0 n d os) (.slice (some ⟨g, 0, none⟩) L.length cap) d.toList := by
  have hdl : d.toList.length = L.length := by simpa using hd
  refine ⟨by rw [flat_len henc], ?_⟩
  rcases h.2 with ⟨hv, _⟩ | ⟨g', cap', cur, hv, hb, hg, hnc, hcm, hcs, htk⟩
  · cases hv
  · cases hv
    refine .inr ⟨g, cap, putCells id 0 (flatK enc size d) cur, by rw [hdl], hb, ?_, by rw [hdl]; exact hnc, hcm, by simp [putCells, hcs], ?_⟩
    · have hgl := (Array.getElem?_eq_some_iff.1 hg).1
      simp only [sortWorldK, grow, putRowK, putRow, mapBlock, Go.Sort.ahead]
      rw [Array.getElem?_append_left (by simpa using hgl), Array.getElem?_modify, if_pos rfl, hg]
      rfl
    · apply List.ext_getElem?
      intro q
      rw [hdl, List.getElem?_take]
      by_cases hq : q < L.length * size
      · have hs : 0 < size := Nat.pos_of_ne_zero fun e => by subst e; simp at hq
        have hi : q / size < d.toList.length := by rw [hdl]; exact Nat.div_lt_of_lt_mul (by rw [Nat.mul_comm]; exact hq)
        have hj : q % size < size := Nat.mod_lt _ hs
        have hqq : q / size * size + q % size = q := by rw [Nat.mul_comm]; exact Nat.div_add_mod q size
        have hqc : q < cur.size := by rw [hcs]; exact Nat.lt_of_lt_of_le hq (Nat.mul_le_mul_right _ hnc)
        have hqf : q < d.size * size := by rw [hd]; exact hq
        have hidx : q / size < d.size := by simpa using hi
        rw [if_pos hq, ← hqq, flat_get henc d.toList (q / size) hi (q % size) hj, hqq]
        rw [Array.getElem?_toList]
        simp only [putCells, Array.getElem?_mapIdx, Array.getElem?_eq_getElem hqc, Option.map_some]
        rw [if_pos ⟨Nat.zero_le _, by rw [size_flatK]; omega⟩, Nat.sub_zero, get_flatK _ _ _ _ hqf]
        have e1 : d[q / size]! = d.toList[q / size] := by simp [hidx]
        rw [e1, List.getElem?_eq_getElem (by rw [henc]; exact hj)]
        simp [henc, hj]
      · rw [if_neg hq, List.getElem?_eq_none (by rw [flat_len henc, hdl]; omega)]
end
end Go.Proofs.YtciaallekkdnhaaGreat
