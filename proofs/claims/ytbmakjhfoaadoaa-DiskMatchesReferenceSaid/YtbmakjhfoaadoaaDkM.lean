/-
  PACKAGE disk IN PLAIN LEAN: what a disk does.
-/
import Derived.Lib.SlicesCompact
import Derived.Test.YtbmakjhfoaadoaaBase
namespace Go.Proofs.Ytbmakjhfoaadoaa
namespace Dm

/-- A pending write. -/
structure Wr where
  off : Nat
  s : List UInt8
def onto (b : List UInt8) (w : Wr) : List UInt8 := b.take w.off ++ w.s ++ b.drop (w.off + w.s.length)
structure Dk where
  sure : List UInt8
  pend : List Wr
  off : Bool
  left : Int
/-- What is visible. -/
def Dk.vis (d : Dk) : List UInt8 := d.pend.foldl onto d.sure
def new (n : Nat) : Dk := ⟨List.replicate n 0, [], false, 0⟩
/-- Whether n bytes from off on are on the disk. -/
def inside (d : Dk) (off n : Int) : Bool := decide (0 ≤ off ∧ 0 ≤ n ∧ off ≤ d.sure.length ∧ n ≤ (d.sure.length : Int) - off)
def used (off : Bool) (left : Int) : Bool × Int := if left = 0 then (off, left) else (decide (left - 1 = 0), left - 1)
def writes (d : Dk) (off : Int) (s : List UInt8) : Bool := !d.off && inside d off s.length
def write (d : Dk) (off : Int) (s : List UInt8) : Dk := if writes d off s = true then ⟨d.sure, d.pend ++ [⟨off.toNat, s⟩], (used d.off d.left).1, (used d.off d.left).2⟩ else d
def sync (d : Dk) : Dk := if d.off = true then d else { d with sure := d.vis, pend := [] }
def cut (d : Dk) (n : Int) : Dk := if d.off = true ∨ n < 0 then d else { d with off := decide (n = 0), left := n }
/-- Which writes survive. -/
def order (m : Nat) (keep : List Int) : List Nat := (List.range m).filter fun (i : Nat) => decide ((i : Int) ∈ keep)
/-- The survivors; the last one may be torn. -/
def torn (t : Int) : List Wr → List Wr
  | [] => []
  | [w] => if 0 ≤ t then [⟨w.off, w.s.take t.toNat⟩] else [w]
  | w :: ws => w :: torn t ws
def survivors (d : Dk) (keep : List Int) (t : Int) : List Wr := torn t ((order d.pend.length keep).filterMap fun i => d.pend[i]?)
def crash (d : Dk) (keep : List Int) (t : Int) : Dk := ⟨(survivors d keep t).foldl onto d.sure, [], false, 0⟩

/-- What a disk keeps to. -/
structure Ok (d : Dk) : Prop where
  n1 : 1 ≤ d.sure.length
  n2 : d.sure.length ≤ 4194304
  fit : ∀ w ∈ d.pend, w.off + w.s.length ≤ d.sure.length
  left : 0 ≤ d.left
theorem onto_len {b : List UInt8} {w : Wr} (h : w.off + w.s.length ≤ b.length) : (onto b w).length = b.length := by
  unfold onto
  simp only [List.length_append, List.length_take, List.length_drop]
  omega
theorem fold_len : ∀ (ws : List Wr) (b : List UInt8), (∀ w ∈ ws, w.off + w.s.length ≤ b.length) → (ws.foldl onto b).length = b.length
  | [], _, _ => rfl
  | w :: ws, b, h => by
    have h1 := onto_len (h w (by simp))
    rw [List.foldl_cons, fold_len ws _ (fun v hv => by rw [h1]; exact h v (by simp [hv])), h1]
theorem Ok.vis_len {d : Dk} (h : Ok d) : d.vis.length = d.sure.length := fold_len _ _ h.fit
theorem inside_iff {d : Dk} {off n : Int} : inside d off n = true ↔ 0 ≤ off ∧ 0 ≤ n ∧ off ≤ d.sure.length ∧ n ≤ (d.sure.length : Int) - off := by unfold inside; exact decide_eq_true_iff
theorem Ok.new {n : Nat} (h1 : 1 ≤ n) (h2 : n ≤ 4194304) : Ok (new n) := ⟨by simpa [Dm.new] using h1, by simpa [Dm.new] using h2, by simp [Dm.new], by simp [Dm.new]⟩
theorem used_left {o : Bool} {l : Int} (h : 0 ≤ l) : 0 ≤ (used o l).2 := by
  unfold used
  split <;> dsimp only <;> omega
theorem Ok.write {d : Dk} (h : Ok d) (off : Int) (s : List UInt8) : Ok (write d off s) := by
  unfold Dm.write
  split
  · rename_i hw
    have hi : inside d off s.length = true := by
      unfold writes at hw
      simp only [Bool.and_eq_true] at hw
      exact hw.2
    obtain ⟨a, b, c, e⟩ := inside_iff.1 hi
    refine ⟨h.n1, h.n2, fun w hw => ?_, used_left h.left⟩
    rcases List.mem_append.1 hw with h1 | h1
    · exact h.fit w h1
    · simp only [List.mem_singleton] at h1
      subst h1
      dsimp only
      omega
  · exact h
theorem Ok.sync {d : Dk} (h : Ok d) : Ok (sync d) := by
  unfold Dm.sync
  split
  · exact h
  · exact ⟨by show 1 ≤ d.vis.length; rw [h.vis_len]; exact h.n1, by show d.vis.length ≤ _; rw [h.vis_len]; exact h.n2, by simp, h.left⟩
theorem Ok.cut {d : Dk} (h : Ok d) (n : Int) : Ok (cut d n) := by
  unfold Dm.cut
  split
  · exact h
  · exact ⟨h.n1, h.n2, h.fit, by dsimp only; omega⟩
theorem torn_mem {t : Int} : ∀ {ws : List Wr} {w : Wr}, w ∈ torn t ws → ∃ v ∈ ws, w.off = v.off ∧ w.s.length ≤ v.s.length
  | [], w, h => by simp [torn] at h
  | [v], w, h => by
    unfold torn at h
    split at h
    · simp only [List.mem_singleton] at h
      subst h
      exact ⟨v, by simp, rfl, by simp; omega⟩
    · simp only [List.mem_singleton] at h
      subst h
      exact ⟨w, by simp, rfl, Nat.le_refl _⟩
  | v :: u :: ws, w, h => by
    unfold torn at h
    rcases List.mem_cons.1 h with h | h
    · subst h
      exact ⟨w, by simp, rfl, Nat.le_refl _⟩
    · obtain ⟨x, hx, h1, h2⟩ := torn_mem h
      exact ⟨x, by simp only [List.mem_cons] at hx ⊢; exact .inr hx, h1, h2⟩
theorem Ok.survivors {d : Dk} (h : Ok d) (keep : List Int) (t : Int) : ∀ w ∈ survivors d keep t, w.off + w.s.length ≤ d.sure.length := by
  intro w hw
  obtain ⟨v, hv, h1, h2⟩ := torn_mem hw
  obtain ⟨i, _, hi⟩ := List.mem_filterMap.1 hv
  have h3 := h.fit v (List.mem_of_getElem? hi)
  omega
theorem Ok.crash {d : Dk} (h : Ok d) (keep : List Int) (t : Int) : Ok (crash d keep t) := by
  have hl : (Dm.crash d keep t).sure.length = d.sure.length := fold_len _ _ (h.survivors keep t)
  exact ⟨by rw [hl]; exact h.n1, by rw [hl]; exact h.n2, by simp [Dm.crash], by simp [Dm.crash]⟩

/-! What Go's text does to find the order: sorted, compacted, those outside deleted. -/
theorem sorted_uniq : ∀ {L L' : List Int}, L.Pairwise (· < ·) → L'.Pairwise (· < ·) → (∀ x, x ∈ L ↔ x ∈ L') → L = L'
  | [], [], _, _, _ => rfl
  | [], b :: L', _, _, h => absurd ((h b).2 (by simp)) (by simp)
  | a :: L, [], _, _, h => absurd ((h a).1 (by simp)) (by simp)
  | a :: L, b :: L', h1, h2, h => by
    obtain ⟨a1, a2⟩ := List.pairwise_cons.1 h1
    obtain ⟨b1, b2⟩ := List.pairwise_cons.1 h2
    have e : a = b := by
      have ha := (h a).1 (by simp)
      have hb := (h b).2 (by simp)
      rcases List.mem_cons.1 ha with e | ha
      · exact e
      · rcases List.mem_cons.1 hb with e | hb
        · exact e.symm
        · have := b1 a ha
          have := a1 b hb
          omega
    subst e
    rw [sorted_uniq a2 b2 fun x => ?_]
    constructor
    · intro hx
      rcases List.mem_cons.1 ((h x).1 (by simp [hx])) with e | h3
      · subst e; exact absurd (a1 x hx) (by omega)
      · exact h3
    · intro hx
      rcases List.mem_cons.1 ((h x).2 (by simp [hx])) with e | h3
      · subst e; exact absurd (b1 x hx) (by omega)
      · exact h3
theorem compactUpTo_spec (d : Array Int) (hs : ∀ i j, i ≤ j → j < d.size → d[i]! ≤ d[j]!) : ∀ m, m ≤ d.size →
    (Lib.compactUpTo d m).Pairwise (· < ·) ∧ (∀ x ∈ Lib.compactUpTo d m, ∃ i, i < m ∧ x = d[i]!) ∧ (∀ i, i < m → d[i]! ∈ Lib.compactUpTo d m)
  | 0, _ => ⟨by simp [Lib.compactUpTo], by simp [Lib.compactUpTo], fun i hi => absurd hi (by omega)⟩
  | m + 1, hm => by
    obtain ⟨h1, h2, h3⟩ := compactUpTo_spec d hs m (by omega)
    rw [Lib.compactUpTo_succ]
    by_cases hk : Lib.keeps d m = true
    · rw [if_pos hk]
      refine ⟨List.pairwise_append.2 ⟨h1, by simp, fun x hx y hy => ?_⟩, fun x hx => ?_, fun i hi => ?_⟩
      · simp only [List.mem_singleton] at hy
        subst hy
        obtain ⟨i, hi, rfl⟩ := h2 x hx
        have hk' : m = 0 ∨ d[m]! ≠ d[m - 1]! := by simpa [Lib.keeps] using hk
        have a1 := hs i (m - 1) (by omega) (by omega)
        have a2 := hs (m - 1) m (by omega) (by omega)
        rcases hk' with h0 | h0
        · omega
        · omega
      · rcases List.mem_append.1 hx with hx | hx
        · obtain ⟨i, hi, e⟩ := h2 x hx
          exact ⟨i, by omega, e⟩
        · simp only [List.mem_singleton] at hx
          exact ⟨m, by omega, hx⟩
      · by_cases hi' : i < m
        · exact List.mem_append_left _ (h3 i hi')
        · obtain rfl : i = m := by omega
          simp
    · rw [if_neg hk, List.append_nil]
      refine ⟨h1, fun x hx => ?_, fun i hi => ?_⟩
      · obtain ⟨i, hi, e⟩ := h2 x hx
        exact ⟨i, by omega, e⟩
      · by_cases hi' : i < m
        · exact h3 i hi'
        · obtain rfl : i = m := by omega
          have hk' : ¬ (i = 0 ∨ d[i]! ≠ d[i - 1]!) := by simpa [Lib.keeps] using hk
          have e : d[i]! = d[i - 1]! := by
            by_cases e : d[i]! = d[i - 1]!
            · exact e
            · exact absurd (.inr e) hk'
          rw [e]
          exact h3 (i - 1) (by omega)
theorem order_eq (keep : List Int) (m : Nat) {d : Array Int} (hd : d.toList = keep.mergeSort fun x y => decide (x ≤ y)) :
    (Lib.compactUpTo d d.size).filter (fun i => !(decide (i < 0) || decide ((m : Int) ≤ i))) = (order m keep).map fun (i : Nat) => (i : Int) := by
  have hsz : d.size = d.toList.length := by simp
  have hp : (d.toList).Pairwise (fun x y => decide (x ≤ y) = true) := by
    rw [hd]
    exact List.pairwise_mergeSort (fun a b c => by simp only [decide_eq_true_eq]; omega) (fun a b => by simp only [Bool.or_eq_true, decide_eq_true_eq]; omega) keep
  have hs : ∀ i j, i ≤ j → j < d.size → d[i]! ≤ d[j]! := fun i j hij hj => by
    rcases Nat.lt_or_eq_of_le hij with h1 | h1
    · have h2 := List.pairwise_iff_getElem.1 hp i j (by omega) (by omega) h1
      rw [getElem!_pos d i (by omega), getElem!_pos d j hj]
      simpa using h2
    · subst h1
      exact Int.le_refl _
  obtain ⟨c1, c2, c3⟩ := compactUpTo_spec d hs d.size (Nat.le_refl _)
  have hmem : ∀ x, x ∈ Lib.compactUpTo d d.size ↔ x ∈ keep := fun x => by
    have hk : x ∈ keep ↔ x ∈ d.toList := by rw [hd]; exact (List.mergeSort_perm keep _).mem_iff.symm
    rw [hk]
    constructor
    · intro hx
      obtain ⟨i, hi, rfl⟩ := c2 x hx
      rw [getElem!_pos d i hi]
      simp
    · intro hx
      obtain ⟨i, hi, rfl⟩ := List.getElem_of_mem hx
      have h1 := c3 i (by omega)
      rw [getElem!_pos d i (by omega)] at h1
      simpa using h1
  refine sorted_uniq (List.Pairwise.filter _ c1) ?_ fun x => ?_
  · rw [List.pairwise_map]
    refine List.Pairwise.imp (fun {a b} (h : a < b) => by omega) (List.Pairwise.filter _ List.pairwise_lt_range)
  · simp only [List.mem_filter, hmem, List.mem_map, order, List.mem_range, Bool.not_eq_true', Bool.or_eq_false_iff, decide_eq_false_iff_not, decide_eq_true_eq]
    constructor
    · rintro ⟨h1, h2, h3⟩
      exact ⟨x.toNat, ⟨by omega, by rw [show ((x.toNat : Nat) : Int) = x by omega]; exact h1⟩, by omega⟩
    · rintro ⟨i, ⟨h1, h2⟩, rfl⟩
      exact ⟨h2, by omega, by omega⟩
end Dm
end Go.Proofs.Ytbmakjhfoaadoaa
