/-
  A state has exactly the rows that the last changes of their tables and keys leave; and how many they are.
-/
import Derived.Test.YtakfaffgfdbfmaaSwP
import Derived.Test.YtakfaffgfdbfmaaStU
namespace Go.Proofs.Ytakfaffgfdbfmaa
namespace Lst

/-- What a change leaves at a table and a key. -/
def hit (t k : Int) (w : Option RowV) (c : Chg) : Option RowV := if c.t = t ∧ c.k = k then (if c.has = true then some (Sm.after c) else none) else w
theorem put1_hit {M : List (IdK × RowV)} {c : Chg} {t k : Int} (hc : Rw.chg c = true) (ht : okI t) (hk : okI k) : mget (Sm.put1 M c) (idOf t k) = hit t k (mget M (idOf t k)) c := by
  unfold hit
  by_cases h : c.t = t ∧ c.k = k
  · rw [if_pos h, ← h.1, ← h.2]
    unfold Sm.put1
    split
    · exact mget_put_same
    · exact mget_del_same
  · rw [if_neg h]
    refine Sm.put1_other (fun e => h ?_)
    have h1 := congrArg Subtype.val e
    rw [idOf_val ht hk, Rw.chg_id hc] at h1
    injection h1 with h2 h3
    exact ⟨h2.symm, h3.symm⟩
theorem fold_hit {t k : Int} (ht : okI t) (hk : okI k) : ∀ (cs : List Chg) (M : List (IdK × RowV)), (∀ c ∈ cs, Rw.chg c = true) → mget (cs.foldl Sm.put1 M) (idOf t k) = cs.foldl (hit t k) (mget M (idOf t k))
  | [], _, _ => rfl
  | c :: cs, M, h => by
    rw [List.foldl_cons, List.foldl_cons, fold_hit ht hk cs _ (fun d hd => h d (by simp [hd])), put1_hit (h c (by simp)) ht hk]
/-- What records leave at a table and a key. -/
def last (t k : Int) (l : List Rec) : Option RowV := l.foldl (fun w r => r.cs.foldl (hit t k) w) none
theorem run_last {l : List Rec} (h : Lg.Ok l) {t k : Int} (ht : okI t) (hk : okI k) : ∀ n, n ≤ l.length → mget (Lg.run (l.take n)).M (idOf t k) = last t k (l.take n)
  | 0, _ => rfl
  | n + 1, hn => by
    have hf := h.fits n (by omega)
    rw [Lg.run_succ l (by omega), (Lg.fits_pos hf).2]
    dsimp only
    rw [fold_hit ht hk _ _ (Rw.valid_all (h.valid (by omega))).1, run_last h ht hk n (by omega), List.take_succ_eq_append_getElem (by omega)]
    unfold last
    rw [List.foldl_append]
    rfl

/-- How many of the first j hold. -/
def cnt (f : Nat → Bool) : Nat → Nat
  | 0 => 0
  | j + 1 => cnt f j + (if f j = true then 1 else 0)
theorem cnt_le (f : Nat → Bool) : ∀ j, cnt f j ≤ j
  | 0 => Nat.le_refl _
  | j + 1 => by
    have := cnt_le f j
    unfold cnt
    split <;> omega
theorem cnt_filter (f : Nat → Bool) : ∀ j, cnt f j = ((List.range j).filter f).length
  | 0 => rfl
  | j + 1 => by
    rw [cnt, cnt_filter f j, List.range_succ, List.filter_append, List.length_append]
    congr 1
    by_cases h : f j = true <;> simp [h]
/-- Whether there is a row at place j of the grid. -/
def there (M : List (IdK × RowV)) (j : Nat) : Bool := (mget M (idOf ((j / 9 : Nat) : Int) (1 + ((j % 9 : Nat) : Int)))).isSome
theorem grid_ok (j : Nat) (hj : j < 27) : okI ((j / 9 : Nat) : Int) ∧ okI (1 + ((j % 9 : Nat) : Int)) := ⟨okI_mk (by omega) (by omega), okI_mk (by omega) (by omega)⟩
theorem cnt_len {M : List (IdK × RowV)} (hn : Nd M) (hg : ∀ e ∈ M, 0 ≤ e.1.1.1 ∧ e.1.1.1 ≤ 2 ∧ 1 ≤ e.1.1.2 ∧ e.1.1.2 ≤ 9) : cnt (there M) 27 = M.length := by
  rw [cnt_filter]
  have hL : (M.map fun e => (e.1.1.1 * 9 + (e.1.1.2 - 1)).toNat).length = M.length := List.length_map _
  rw [← hL]
  apply List.Perm.length_eq
  refine (List.perm_ext_iff_of_nodup (List.Pairwise.filter _ List.nodup_range) ?_).2 fun j => ?_
  · rw [List.Nodup, List.pairwise_map]
    refine List.Pairwise.imp_of_mem ?_ hn
    intro a b ha hb hne h
    obtain ⟨a1, a2, a3, a4⟩ := hg a ha
    obtain ⟨b1, b2, b3, b4⟩ := hg b hb
    refine hne (Subtype.ext (Prod.ext ?_ ?_)) <;> omega
  · simp only [List.mem_filter, List.mem_range, List.mem_map]
    constructor
    · rintro ⟨hj, ht⟩
      unfold there at ht
      obtain ⟨v, hv⟩ := Option.isSome_iff_exists.1 ht
      refine ⟨_, (mget_iff hn).1 hv, ?_⟩
      obtain ⟨h1, h2⟩ := grid_ok j hj
      rw [idOf_val h1 h2]
      dsimp only
      omega
    · rintro ⟨e, he, hj⟩
      obtain ⟨a1, a2, a3, a4⟩ := hg e he
      refine ⟨by omega, ?_⟩
      unfold there
      have e1 : idOf ((j / 9 : Nat) : Int) (1 + ((j % 9 : Nat) : Int)) = e.1 := by
        obtain ⟨h1, h2⟩ := grid_ok j (by omega)
        refine Subtype.ext ?_
        rw [idOf_val h1 h2]
        exact Prod.ext (by dsimp only; omega) (by dsimp only; omega)
      rw [e1, (mget_iff (u := e.2) hn).2 he]
      rfl
/-- All rows of a log lie in the grid. -/
theorem grid {l : List Rec} (h : Lg.Ok l) : ∀ n, n ≤ l.length → ∀ e ∈ (Lg.run (l.take n)).M, 0 ≤ e.1.1.1 ∧ e.1.1.1 ≤ 2 ∧ 1 ≤ e.1.1.2 ∧ e.1.1.2 ≤ 9
  | 0, _, e, he => by simp [Lg.run, Sm.new] at he
  | n + 1, hn, e, he => by
    have hf := h.fits n (by omega)
    rw [Lg.run_succ l (by omega), (Lg.fits_pos hf).2] at he
    have hv := (Rw.valid_all (h.valid (show n < l.length by omega))).1
    have hs := h.small l[n] (List.getElem_mem _)
    have ih := grid h n (by omega)
    dsimp only at he
    generalize (Lg.run (l.take n)).M = M at ih he
    generalize l[n].cs = cs at hv hs he
    clear hf
    induction cs generalizing M with
    | nil => exact ih e he
    | cons c cs ihc =>
      rw [List.foldl_cons] at he
      refine ihc _ (fun e' he' => ?_) (fun d hd => hv d (by simp [hd])) (fun d hd => hs d (by simp [hd])) he
      have hc := hs c (by simp)
      have hid := Rw.chg_id (hv c (by simp))
      unfold Sm.put1 at he'
      split at he'
      · rcases List.mem_cons.1 (show e' ∈ _ :: _ from he') with h1 | h1
        · rw [h1, show ((idOf c.t c.k, Sm.after c) : IdK × RowV).1.1 = (c.t, c.k) from hid]
          exact ⟨hc.t0, hc.t1, hc.k0, hc.k1⟩
        · exact ih e' (List.mem_filter.1 h1).1
      · exact ih e' (List.mem_filter.1 he').1
end Lst
end Go.Proofs.Ytakfaffgfdbfmaa
