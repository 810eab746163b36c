/-
  PLAIN LAWS of a disk: what a crash leaves.
-/
import Derived.Test.YtbmakjhfoaadoaaDkM
namespace Go.Proofs.Ytbmakjhfoaadoaa
namespace Dm

theorem torn_neg {t : Int} (h : t < 0) : ∀ ws : List Wr, torn t ws = ws
  | [] => rfl
  | [w] => by unfold torn; rw [if_neg (by omega)]
  | w :: v :: ws => by unfold torn; rw [torn_neg h (v :: ws)]
theorem order_nil (m : Nat) : order m [] = [] := by simp [order]
theorem order_all {m : Nat} {keep : List Int} (h : ∀ i, i < m → (i : Int) ∈ keep) : order m keep = List.range m := by
  unfold order
  exact List.filter_eq_self.2 fun i hi => decide_eq_true (h i (List.mem_range.1 hi))
theorem filterMap_range {α : Type} : ∀ (l : List α), (List.range l.length).filterMap (fun i => l[i]?) = l := fun l => by
  have key : ∀ m, m ≤ l.length → (List.range m).filterMap (fun i => l[i]?) = l.take m := by
    intro m
    induction m with
    | zero => simp
    | succ m ih =>
      intro hm
      rw [List.range_succ, List.filterMap_append, ih (by omega), List.take_succ_eq_append_getElem (by omega)]
      simp [List.getElem?_eq_getElem (show m < l.length by omega)]
  rw [key l.length (Nat.le_refl _), List.take_length]
theorem crash_nil (d : Dk) (t : Int) : crash d [] t = ⟨d.sure, [], false, 0⟩ := by
  unfold crash survivors
  rw [order_nil]
  rfl
theorem crash_all {d : Dk} {keep : List Int} (h : ∀ i, i < d.pend.length → (i : Int) ∈ keep) {t : Int} (ht : t < 0) : crash d keep t = ⟨d.vis, [], false, 0⟩ := by
  unfold crash survivors
  rw [order_all h, filterMap_range, torn_neg ht]
  rfl
/-- A write, torn if it is the last survivor. -/
def tear (last : Nat) (t : Int) (i : Nat) (w : Wr) : Wr := if i = last ∧ 0 ≤ t then ⟨w.off, w.s.take t.toNat⟩ else w
theorem torn_map {t : Int} {last : Nat} (f : Nat → Wr) : ∀ L : List Nat, L.Pairwise (· < ·) → L.getLast? = some last → torn t (L.map f) = L.map fun i => tear last t i (f i)
  | [], _, h => by simp at h
  | [i], _, h => by
    have e : i = last := by simpa using h
    subst e
    show torn t [f i] = [tear i t i (f i)]
    unfold torn tear
    by_cases ht : 0 ≤ t <;> simp [ht]
  | i :: j :: L, hp, h => by
    obtain ⟨h1, h2⟩ := List.pairwise_cons.1 hp
    have h3 : (j :: L).getLast? = some last := by simpa [List.getLast?_cons_cons] using h
    have hm : last ∈ j :: L := List.mem_of_getLast? h3
    have hne : i ≠ last := fun e => by have := h1 last hm; omega
    have ih := torn_map (t := t) f (j :: L) h2 h3
    show torn t (f i :: (j :: L).map f) = tear last t i (f i) :: (j :: L).map fun i => tear last t i (f i)
    rw [← ih]
    have e : tear last t i (f i) = f i := by unfold tear; rw [if_neg (fun h => hne h.1)]
    rw [e]
    rfl
/-- What the law keeps: the survivors put in one after the other. -/
def wantGo (P : List Wr) (K : Nat → Bool) (last : Nat) (t : Int) (b : List UInt8) : Nat → List UInt8
  | 0 => b
  | i + 1 => match P[i]? with
    | some w => if K i = true then onto (wantGo P K last t b i) (tear last t i w) else wantGo P K last t b i
    | none => wantGo P K last t b i
theorem wantGo_succ (P : List Wr) (K : Nat → Bool) (last : Nat) (t : Int) (b : List UInt8) (i : Nat) (h : i < P.length) :
    wantGo P K last t b (i + 1) = if K i = true then onto (wantGo P K last t b i) (tear last t i P[i]) else wantGo P K last t b i := by
  show (match P[i]? with | some w => _ | none => _) = _
  rw [List.getElem?_eq_getElem h]
theorem crash_want {d : Dk} {keep : List Int} {K : Nat → Bool} (hk : ∀ i, i < d.pend.length → ((i : Int) ∈ keep ↔ K i = true)) {last : Nat} {t : Int} (hl : (∃ i, i < d.pend.length ∧ K i = true) → last < d.pend.length ∧ K last = true ∧ ∀ i, i < d.pend.length → K i = true → i ≤ last) :
    (crash d keep t).sure = wantGo d.pend K last t d.sure d.pend.length := by
  have ho : order d.pend.length keep = (List.range d.pend.length).filter K := by
    unfold order
    refine List.filter_congr fun i hi => ?_
    have h1 := hk i (List.mem_range.1 hi)
    cases hK : K i
    · exact decide_eq_false (fun h => by rw [h1, hK] at h; cases h)
    · exact decide_eq_true (h1.2 hK)
  have hfm : (order d.pend.length keep).filterMap (fun i => d.pend[i]?) = (order d.pend.length keep).map fun i => d.pend[i]?.getD ⟨0, []⟩ := by
    have hin : ∀ i ∈ order d.pend.length keep, i < d.pend.length := fun i hi => by
      rw [ho] at hi
      exact List.mem_range.1 (List.mem_filter.1 hi).1
    generalize order d.pend.length keep = L at hin
    induction L with
    | nil => rfl
    | cons i L ih =>
      have h1 := hin i (by simp)
      rw [List.filterMap_cons, List.getElem?_eq_getElem h1, List.map_cons, List.getElem?_eq_getElem h1, ih (fun j hj => hin j (by simp [hj]))]
      rfl
  have hw : ∀ m, m ≤ d.pend.length → (((List.range m).filter K).map fun i => tear last t i (d.pend[i]?.getD ⟨0, []⟩)).foldl onto d.sure = wantGo d.pend K last t d.sure m := by
    intro m
    induction m with
    | zero => intro _; rfl
    | succ m ih =>
      intro hm
      have h1 : m < d.pend.length := by omega
      rw [List.range_succ, List.filter_append, List.map_append, List.foldl_append, ih (by omega)]
      rw [wantGo_succ _ _ _ _ _ _ h1]
      cases hK : K m
      · simp only [List.filter_cons, hK, List.filter_nil, List.map_nil, List.foldl_nil, Bool.false_eq_true, if_false]
      · simp only [List.filter_cons, hK, List.filter_nil, List.map_cons, List.map_nil, List.foldl_cons, List.foldl_nil, List.getElem?_eq_getElem h1, Option.getD_some, if_true]
  show (survivors d keep t).foldl onto d.sure = _
  unfold survivors
  rw [hfm, ho, ← hw d.pend.length (Nat.le_refl _)]
  congr 1
  by_cases hne : ∃ i, i < d.pend.length ∧ K i = true
  · obtain ⟨l1, l2, l3⟩ := hl hne
    refine torn_map _ _ (List.Pairwise.filter _ List.pairwise_lt_range) ?_
    have hmem : last ∈ (List.range d.pend.length).filter K := List.mem_filter.2 ⟨List.mem_range.2 l1, l2⟩
    have hp : ((List.range d.pend.length).filter K).Pairwise (· < ·) := List.Pairwise.filter _ List.pairwise_lt_range
    have hub : ∀ i ∈ (List.range d.pend.length).filter K, i ≤ last := fun i hi => l3 i (List.mem_range.1 (List.mem_filter.1 hi).1) (List.mem_filter.1 hi).2
    generalize (List.range d.pend.length).filter K = L at hmem hp hub
    obtain ⟨L', x, rfl⟩ : ∃ L' x, L = L' ++ [x] := by
      rcases List.eq_nil_or_concat L with h | ⟨L', x, h⟩
      · rw [h] at hmem; simp at hmem
      · exact ⟨L', x, by simpa using h⟩
    rw [List.getLast?_concat]
    have hx := hub x (by simp)
    rcases List.mem_append.1 hmem with h | h
    · have := (List.pairwise_append.1 hp).2.2 last h x (by simp)
      omega
    · simp only [List.mem_singleton] at h
      rw [h]
  · have he : (List.range d.pend.length).filter K = [] := by
      refine List.filter_eq_nil_iff.2 fun i hi => ?_
      intro h
      exact hne ⟨i, List.mem_range.1 hi, h⟩
    rw [he]
    rfl
theorem vis_write {d : Dk} {off : Int} {s : List UInt8} (h : writes d off s = true) : (write d off s).vis = onto d.vis ⟨off.toNat, s⟩ := by
  unfold write Dk.vis
  rw [if_pos h]
  simp
theorem vis_sync (d : Dk) (h : d.off = false) : (sync d).vis = d.vis ∧ (sync d).sure = d.vis := by
  unfold sync
  rw [h]
  exact ⟨rfl, rfl⟩
end Dm
end Go.Proofs.Ytbmakjhfoaadoaa
