/-
  Reference 08, plain: an index as a list of items sorted by their numbers.
-/
import Derived.Test.YtciaallekkdnhaaGreatJk
namespace Go.Proofs.YtciaallekkdnhaaGreat
open Go.RowKit

namespace Rx
abbrev Rl := List (Int × Qry)
def pos (R : Rl) (id : Int) : Nat := (R.takeWhile fun e => decide (e.1 < id)).length
def there (R : Rl) (id : Int) : Bool := match R[pos R id]? with | some e => decide (e.1 = id) | none => false
structure Sim (M : Mm.Ix) (R : Rl) : Prop where
  srt : R.Pairwise fun x y => x.1 < y.1
  perm : M.Perm R
theorem pos_le (R : Rl) (id : Int) : pos R id ≤ R.length := (List.takeWhile_sublist _).length_le
theorem pos_eq {R : Rl} {id : Int} {k : Nat} (hk : k ≤ R.length) (h1 : ∀ i (h : i < R.length), i < k → R[i].1 < id) (h2 : ∀ h : k < R.length, ¬ R[k].1 < id) : pos R id = k := by
  have e : R = R.take k ++ R.drop k := (List.take_append_drop k R).symm
  have hA : ∀ x ∈ R.take k, decide (x.1 < id) = true := by
    intro x hx
    obtain ⟨i, hi, rfl⟩ := List.mem_iff_getElem.1 hx
    rw [List.length_take] at hi
    rw [List.getElem_take, decide_eq_true_eq]
    exact h1 i (by omega) (by omega)
  have hB : (R.drop k).takeWhile (fun x => decide (x.1 < id)) = [] := by
    by_cases h : k < R.length
    · rw [List.drop_eq_getElem_cons h, List.takeWhile_cons_of_neg (by simpa using h2 h)]
    · rw [List.drop_eq_nil_of_le (by omega)]
      rfl
  unfold pos
  conv => lhs; rw [e]
  rw [List.takeWhile_append_of_pos hA, hB, List.append_nil, List.length_take]
  omega
theorem before {R : Rl} {id : Int} {i : Nat} (h : i < R.length) (hi : i < pos R id) : R[i].1 < id := by
  have h1 : (R.takeWhile fun e => decide (e.1 < id))[i]'hi = R[i] := (List.takeWhile_prefix _).getElem hi
  have h2 := (List.all_eq_true.1 (List.all_takeWhile (p := fun e : Int × Qry => decide (e.1 < id)) (l := R))) _ (List.getElem_mem hi)
  rw [h1] at h2
  simpa using h2
theorem drop_head {p : Int × Qry → Bool} : ∀ {R : Rl} (h : (R.takeWhile p).length < R.length), p R[(R.takeWhile p).length] = false
  | [], h => absurd h (by simp)
  | x :: R, h => by
    cases hx : p x with
    | false =>
      have e : ((x :: R).takeWhile p).length = 0 := by simp [List.takeWhile, hx]
      have e2 : (x :: R)[((x :: R).takeWhile p).length] = x := by simp only [e, List.getElem_cons_zero]
      rw [e2]
      exact hx
    | true =>
      have e : ((x :: R).takeWhile p).length = (R.takeWhile p).length + 1 := by simp [List.takeWhile, hx]
      have h' : (R.takeWhile p).length < R.length := by rw [e] at h; simpa using h
      have e2 : (x :: R)[((x :: R).takeWhile p).length] = R[(R.takeWhile p).length] := by simp only [e, List.getElem_cons_succ]
      rw [e2]
      exact drop_head h'
theorem at_pos {R : Rl} {id : Int} (h : pos R id < R.length) : id ≤ R[pos R id].1 := by
  have h1 := drop_head (p := fun e : Int × Qry => decide (e.1 < id)) (R := R) h
  rw [decide_eq_false_iff_not] at h1
  exact Int.not_lt.1 h1
section
variable {M : Mm.Ix} {R : Rl} {id : Int}
theorem Sim.nd (h : Sim M R) : Nd R := h.srt.imp (fun hh e => by omega)
theorem Sim.ndM (h : Sim M R) : Nd M := (h.perm.pairwise_iff (fun {_ _} hne => Ne.symm hne)).2 h.nd
theorem Sim.get (h : Sim M R) : mget M id = mget R id := mget_perm h.ndM h.perm
theorem Sim.len (h : Sim M R) : M.length = R.length := h.perm.length_eq
theorem there_at (h : there R id = true) : ∃ hp : pos R id < R.length, R[pos R id].1 = id := by
  unfold there at h
  split at h
  · rename_i e he
    obtain ⟨hp, h2⟩ := List.getElem?_eq_some_iff.1 he
    exact ⟨hp, by rw [h2]; simpa using h⟩
  · cases h
theorem Sim.there (h : Sim M R) : there R id = (mget M id).isSome := by
  rw [h.get, Bool.eq_iff_iff]
  refine ⟨fun ht => ?_, fun ht => ?_⟩
  · obtain ⟨hp, h2⟩ := there_at ht
    have hm : (id, R[pos R id].2) ∈ R := by
      have h3 := List.getElem_mem hp
      have e : (id, R[pos R id].2) = R[pos R id] := Prod.ext h2.symm rfl
      rw [e]
      exact h3
    rw [(mget_iff h.nd).2 hm]
    rfl
  · obtain ⟨q, hq⟩ := Option.isSome_iff_exists.1 ht
    obtain ⟨i, hi, he⟩ := List.mem_iff_getElem.1 ((mget_iff h.nd).1 hq)
    have hi1 : R[i].1 = id := by rw [he]
    have hpi : pos R id = i := pos_eq (by omega) (fun j hj hji => by
      have := (List.pairwise_iff_getElem.1 h.srt) j i hj hi hji
      omega) (fun _ => by omega)
    unfold Rx.there
    rw [hpi, List.getElem?_eq_getElem hi]
    simp [hi1]
theorem Sim.nil : Sim [] [] := ⟨.nil, .refl _⟩
theorem after_ {i : Nat} (h : Sim M R) (hi : i < R.length) (hp : pos R id ≤ i) (ht : there R id = false) : id < R[i].1 := by
  have hpl : pos R id < R.length := by omega
  have h1 := at_pos hpl
  have h2 : R[pos R id].1 ≠ id := fun e => by
    unfold there at ht
    rw [List.getElem?_eq_getElem hpl] at ht
    simp [e] at ht
  rcases Nat.lt_or_ge (pos R id) i with h3 | h3
  · have := (List.pairwise_iff_getElem.1 h.srt) _ i hpl hi h3
    omega
  · have e : i = pos R id := by omega
    subst e
    omega
/-- An item is put in. -/
theorem Sim.add (h : Sim M R) (q : Qry) (ht : Rx.there R id = false) : Sim (mput M id q) ((R.take (pos R id) ++ [(id, q)]) ++ R.drop (pos R id)) := by
  have hg : mget M id = none := by
    have := h.there (id := id)
    rw [ht] at this
    simpa using this.symm
  have hA : ∀ x ∈ R.take (pos R id), x.1 < id := fun x hx => by
    obtain ⟨i, hi, rfl⟩ := List.mem_iff_getElem.1 hx
    rw [List.length_take] at hi
    rw [List.getElem_take]
    exact before (by omega) (by omega)
  have hB : ∀ x ∈ R.drop (pos R id), id < x.1 := fun x hx => by
    obtain ⟨i, hi, rfl⟩ := List.mem_iff_getElem.1 hx
    rw [List.length_drop] at hi
    rw [List.getElem_drop]
    exact after_ h (by omega) (by omega) ht
  refine ⟨?_, ?_⟩
  · refine List.pairwise_append.2 ⟨List.pairwise_append.2 ⟨h.srt.sublist (List.take_sublist _ _), by simp, fun x hx y hy => ?_⟩, h.srt.sublist (List.drop_sublist _ _), fun x hx y hy => ?_⟩
    · obtain rfl : y = (id, q) := by simpa using hy
      exact hA x hx
    · have h2 := hB y hy
      rcases List.mem_append.1 hx with hx | hx
      · have h1 := hA x hx
        omega
      · obtain rfl : x = (id, q) := by simpa using hx
        exact h2
  · unfold mput
    rw [mdel_none hg, List.append_assoc]
    refine (List.Perm.cons _ ?_).trans List.perm_middle.symm
    show M.Perm (R.take (pos R id) ++ R.drop (pos R id))
    rw [List.take_append_drop]
    exact h.perm
/-- An item is taken out. -/
theorem Sim.del (h : Sim M R) (ht : Rx.there R id = true) : Sim (mdel M id) (R.take (pos R id) ++ R.drop (pos R id + 1)) := by
  obtain ⟨hp, he⟩ := there_at ht
  refine ⟨?_, ?_⟩
  · have h1 := h.srt
    rw [← List.take_append_drop (pos R id) R, List.drop_eq_getElem_cons hp] at h1
    exact h1.sublist (List.Sublist.append (List.Sublist.refl _) (List.sublist_cons_self _ _))
  · refine (mdel_perm h.perm id).trans ?_
    have e : R = R.take (pos R id) ++ R[pos R id] :: R.drop (pos R id + 1) := by rw [← List.drop_eq_getElem_cons hp, List.take_append_drop]
    have e2 : mdel R id = R.take (pos R id) ++ R.drop (pos R id + 1) := by
      conv => lhs; rw [e]
      unfold mdel
      rw [List.filter_append, List.filter_cons_of_neg (by simpa using he), List.filter_eq_self.2 (fun x hx => ?_), List.filter_eq_self.2 (fun x hx => ?_)]
      · obtain ⟨i, hi, rfl⟩ := List.mem_iff_getElem.1 hx
        rw [List.length_drop] at hi
        rw [List.getElem_drop]
        have := (List.pairwise_iff_getElem.1 h.srt) (pos R id) (pos R id + 1 + i) hp (by omega) (by omega)
        simp
        omega
      · obtain ⟨i, hi, rfl⟩ := List.mem_iff_getElem.1 hx
        rw [List.length_take] at hi
        rw [List.getElem_take]
        have := before (R := R) (id := id) (i := i) (by omega) (by omega)
        simp
        omega
    rw [e2]
theorem Sim.same (h : Sim M R) (ht : Rx.there R id = false) : mdel M id = M := mdel_none (by
  have := h.there (id := id)
  rw [ht] at this
  simpa using this.symm)
def out (R : Rl) (cs : List Chg) : List Int := (R.filter fun e => cs.any (Pm.touches e.2)).map (·.1)
theorem Sim.hit (h : Sim M R) (cs : List Chg) : Mm.Hit M cs (out R cs) := by
  refine ⟨?_, fun id => ?_⟩
  · unfold out
    rw [List.pairwise_map]
    exact h.srt.sublist List.filter_sublist
  · unfold out
    rw [List.mem_map]
    refine ⟨fun ⟨e, he, hid⟩ => ?_, fun ⟨q, hq, ht⟩ => ?_⟩
    · obtain ⟨h1, h2⟩ := List.mem_filter.1 he
      subst hid
      exact ⟨e.2, by rw [h.get]; exact (mget_iff h.nd).2 h1, h2⟩
    · rw [h.get] at hq
      exact ⟨(id, q), List.mem_filter.2 ⟨(mget_iff h.nd).1 hq, ht⟩, rfl⟩
theorem out_succ {cs : List Chg} {k : Nat} (hk : k < R.length) : out (R.take (k + 1)) cs = if cs.any (Pm.touches R[k].2) = true then out (R.take k) cs ++ [R[k].1] else out (R.take k) cs := by
  unfold out
  rw [List.take_succ_eq_append_getElem hk, List.filter_append, List.map_append]
  by_cases ht : cs.any (Pm.touches R[k].2) = true
  · rw [if_pos ht]
    simp [List.filter, ht]
  · rw [if_neg ht]
    simp [List.filter, ht]
theorem out_len (R : Rl) (cs : List Chg) : (out R cs).length ≤ R.length := by
  unfold out
  rw [List.length_map]
  exact List.length_filter_le _ _
/-- What Add answers. -/
theorem Sim.code (h : Sim M R) (q : Qry) : (Mm.code M id q = 0 ↔ (Em.valid q = true ∧ Rx.there R id = false ∧ R.length < 500)) := by
  rw [Mm.code_zero, h.there, h.len]
  constructor
  · rintro ⟨a, b, c⟩
    exact ⟨b, by rw [a]; rfl, c⟩
  · rintro ⟨a, b, c⟩
    exact ⟨by simpa using b, a, c⟩
end
end Rx
end Go.Proofs.YtciaallekkdnhaaGreat
