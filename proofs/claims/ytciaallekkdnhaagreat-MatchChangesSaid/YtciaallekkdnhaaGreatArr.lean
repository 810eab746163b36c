/-
  A row of n cells, told by a function of the index.
-/
import Derived.Test.YtciaallekkdnhaaGreatJa
namespace Go.Proofs.YtciaallekkdnhaaGreat

/-- A row of n cells, cell i being f i. -/
def arr (n : Nat) (f : Nat → Value) : Array Value := ((List.range n).map f).toArray
theorem size_arr (n : Nat) (f : Nat → Value) : (arr n f).size = n := by simp [arr]
theorem arr_get {n : Nat} {f : Nat → Value} {i : Nat} (h : i < n) : (arr n f)[i]? = some (f i) := by simp [arr, h]
theorem arr_none {n : Nat} {f : Nat → Value} {i : Nat} (h : n ≤ i) : (arr n f)[i]? = none := Array.getElem?_eq_none (by rw [size_arr]; exact h)
theorem arr_set (n : Nat) (f : Nat → Value) (i : Nat) (u : Value) : (arr n f).setIfInBounds i u = arr n (fun j => if j = i then u else f j) := by
  apply Array.ext_getElem?
  intro j
  rw [Array.getElem?_setIfInBounds, size_arr]
  by_cases hj : j < n
  · rw [arr_get hj]
    by_cases hij : i = j
    · subst hij; rw [if_pos rfl, if_pos hj, arr_get hj, if_pos rfl]
    · rw [if_neg hij, arr_get hj, if_neg (fun e : j = i => hij e.symm)]
  · rw [arr_none (by omega)]
    by_cases hij : i = j
    · subst hij; rw [if_pos rfl, if_neg hj, arr_none (by omega)]
    · rw [if_neg hij, arr_none (by omega)]
theorem arr_congr {n : Nat} {f g : Nat → Value} (h : ∀ i, i < n → f i = g i) : arr n f = arr n g := by
  unfold arr
  congr 1
  exact List.map_congr_left fun i hi => h i (List.mem_range.1 hi)
theorem made_arr (z : Value) (n : Nat) : madeCells #[z] n = arr n (fun _ => z) := by
  apply Array.ext_getElem?
  intro j
  by_cases hj : j < n
  · rw [arr_get hj]
    simp [madeCells, hj, Nat.mod_one]
  · rw [arr_none (by omega), Array.getElem?_eq_none (by rw [size_madeCells]; omega)]
end Go.Proofs.YtciaallekkdnhaaGreat
