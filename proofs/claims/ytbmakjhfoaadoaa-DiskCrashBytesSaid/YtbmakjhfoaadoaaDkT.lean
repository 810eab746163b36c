/-
  What the law of DiskCrashBytes keeps, in plain Lean.
-/
import Derived.Test.YtbmakjhfoaadoaaDkS
import Derived.Test.YtbmakjhfoaadoaaOkB
namespace Go.Proofs.Ytbmakjhfoaadoaa
open Go.RowKit

namespace Dm
theorem wantGo_prefix (P Q : List Wr) (K : Nat → Bool) (l : Nat) (t : Int) (b : List UInt8) : ∀ k, k ≤ P.length → wantGo (P ++ Q) K l t b k = wantGo P K l t b k
  | 0, _ => rfl
  | k + 1, h => by
    unfold wantGo
    rw [List.getElem?_append_left (by omega), wantGo_prefix P Q K l t b k (by omega)]
theorem wantGo_snoc (P : List Wr) (u : Wr) (K : Nat → Bool) (l : Nat) (t : Int) (b : List UInt8) : wantGo (P ++ [u]) K l t b (P.length + 1) = if K P.length = true then onto (wantGo P K l t b P.length) (tear l t P.length u) else wantGo P K l t b P.length := by
  rw [wantGo_succ _ _ _ _ _ _ (by simp), wantGo_prefix _ _ _ _ _ _ _ (Nat.le_refl _)]
  simp
/-- The last write that is kept; -1 if none. -/
def lastK (K : Nat → Bool) : Nat → Int
  | 0 => -1
  | k + 1 => if K k = true then k else lastK K k
theorem lastK_spec (K : Nat → Bool) : ∀ k, (-1 ≤ lastK K k ∧ lastK K k < k) ∧ (∀ i, i < k → K i = true → 0 ≤ lastK K k ∧ K (lastK K k).toNat = true ∧ i ≤ (lastK K k).toNat)
  | 0 => ⟨by simp [lastK], fun i h => absurd h (by omega)⟩
  | k + 1 => by
    obtain ⟨h1, h2⟩ := lastK_spec K k
    unfold lastK
    by_cases hK : K k = true
    · rw [if_pos hK]
      exact ⟨by omega, fun i hi _ => ⟨by omega, by simpa using hK, by omega⟩⟩
    · rw [if_neg hK]
      refine ⟨by omega, fun i hi hKi => ?_⟩
      have : i ≠ k := fun e => hK (e ▸ hKi)
      exact h2 i (by omega) hKi
/-- The numbers of the writes that are kept, the last one first. -/
def nums (K : Nat → Bool) : Nat → List Int
  | 0 => []
  | k + 1 => if K k = true then (k : Int) :: nums K k else nums K k
theorem nums_mem (K : Nat → Bool) : ∀ k (i : Nat), i < k → ((i : Int) ∈ nums K k ↔ K i = true)
  | 0, i, h => absurd h (by omega)
  | k + 1, i, h => by
    have hb : ∀ j, ∀ x ∈ nums K j, x < (j : Int) := fun j => by
      induction j with
      | zero => simp [nums]
      | succ j ih =>
        intro x hx
        unfold nums at hx
        split at hx
        · rcases List.mem_cons.1 hx with h1 | h1
          · omega
          · have := ih x h1; omega
        · have := ih x hx; omega
    unfold nums
    by_cases hik : i = k
    · subst hik
      by_cases hK : K i = true
      · rw [if_pos hK]; simp [hK]
      · rw [if_neg hK]
        exact ⟨fun hm => by have := hb i _ hm; omega, fun h => absurd h hK⟩
    · have ih := nums_mem K k i (by omega)
      by_cases hK : K k = true
      · rw [if_pos hK, List.mem_cons, ← ih]
        exact ⟨fun h => h.resolve_left (by omega), .inr⟩
      · rw [if_neg hK]; exact ih
theorem nums_len (K : Nat → Bool) : ∀ k, (nums K k).length ≤ k
  | 0 => by simp [nums]
  | k + 1 => by
    have := nums_len K k
    unfold nums
    split <;> simp <;> omega
/-- The content that the law writes first. -/
def ini (size k : Nat) : List UInt8 := (List.range size).map fun j => if j < k then UInt8.ofNat (48 + j % 10) else 0
theorem ini_len (size k : Nat) : (ini size k).length = size := by simp [ini]
theorem ini_zero (size : Nat) : ini size 0 = List.replicate size 0 := by
  apply List.ext_getElem
  · simp [ini]
  · intro i h1 h2
    simp [ini]
theorem ini_step (size k : Nat) (hk : k < size) : Lib.byteCells (ini size (k + 1)) = (Lib.byteCells (ini size k)).set k (.int .u8 (48 + (k : Int) % 10)) := by
  have e1 : Value.int .u8 (48 + (k : Int) % 10) = (fun b : UInt8 => Value.int .u8 b.toNat) (UInt8.ofNat (48 + k % 10)) := by
    have : (UInt8.ofNat (48 + k % 10)).toNat = 48 + k % 10 := by
      rw [UInt8.toNat_ofNat']
      omega
    simp only [this]
    congr 1
  unfold Lib.byteCells
  rw [e1, ← List.map_set]
  congr 1
  apply List.ext_getElem
  · simp [ini]
  · intro i h1 h2
    have hi : i < size := by simpa [ini] using h1
    rw [List.getElem_set]
    by_cases hik : k = i
    · subst hik
      simp [ini]
    · rw [if_neg hik]
      simp only [ini, List.getElem_map, List.getElem_range]
      by_cases h3 : i < k
      · rw [if_pos h3, if_pos (by omega)]
      · rw [if_neg h3, if_neg (by omega)]
theorem Lv.base {b : List UInt8} {size : Nat} (h1 : 1 ≤ size) (h2 : size ≤ 4194304) (hb : b.length = size) : Lv ⟨b, [], false, 0⟩ size 0 :=
  ⟨⟨by show 1 ≤ b.length; omega, by show b.length ≤ _; omega, by simp, by simp⟩, rfl, rfl, hb, by simp⟩
theorem first_write {size : Nat} {b : List UInt8} (h1 : 1 ≤ size) (h2 : size ≤ 4194304) (hb : b.length = size) : writeCode (new size) 0 b = 0 ∧ syncCode (write (new size) 0 b) = 0 ∧ sync (write (new size) 0 b) = ⟨b, [], false, 0⟩ := by
  obtain ⟨w1, w2, w3, w4⟩ := (Lv.new h1 h2).write (u := ⟨0, b⟩) (by show 0 + b.length ≤ size; omega)
  have w1' : writeCode (new size) 0 b = 0 := w1
  have w3' : Lv (write (new size) 0 b) size 1 := w3
  have w4' : (write (new size) 0 b).vis = onto (new size).vis ⟨0, b⟩ := w4
  obtain ⟨s1, s2, s3, s4⟩ := w3'.sync
  refine ⟨w1', s1, ?_⟩
  rw [s2, w4']
  have e : (new size).vis = List.replicate size 0 := rfl
  rw [e]
  simp [onto, hb]
theorem wantGo_len {P : List Wr} {K : Nat → Bool} {l : Nat} {t : Int} {b : List UInt8} (h : ∀ u ∈ P, u.off + u.s.length ≤ b.length) : ∀ k, (wantGo P K l t b k).length = b.length
  | 0 => rfl
  | k + 1 => by
    have ih := wantGo_len (K := K) (l := l) (t := t) h k
    unfold wantGo
    cases hP : P[k]? with
    | none => exact ih
    | some u =>
      have hu := h u (List.mem_of_getElem? hP)
      show (if K k = true then onto (wantGo P K l t b k) (tear l t k u) else wantGo P K l t b k).length = _
      split
      · refine (onto_len ?_).trans ih
        rw [ih]
        unfold tear
        split
        · simp only [List.length_take]; omega
        · exact hu
      · exact ih
theorem crash_bytes {d : Dk} {K : Nat → Bool} {t : Int} {m : Nat} (hm : d.pend.length = m) : (crash d (nums K m) t).sure = wantGo d.pend K (lastK K m).toNat t d.sure m := by
  subst hm
  obtain ⟨l1, l2⟩ := lastK_spec K d.pend.length
  refine crash_want (fun i hi => nums_mem K _ i hi) ?_
  rintro ⟨i, hi, hK⟩
  obtain ⟨h1, h2, h3⟩ := l2 i hi hK
  exact ⟨by omega, h2, fun j hj hKj => (l2 j hj hKj).2.2⟩
end Dm
section
variable {W wr : World} {b bb : Nat} {bs : List UInt8} {d : Dm.Dk}
theorem DB.set {bs' : List UInt8} (h : DB W b bb bs d wr) (k : Nat) (v : Value) (he : Lib.byteCells bs' = (Lib.byteCells bs).set k v) : DB W b bb bs' d (wr.setCell ⟨bb, k, none⟩ v) := by
  obtain ⟨F, h1, h2, h3⟩ := h.disk
  have f1 : Fr [bb] wr (wr.setCell ⟨bb, k, none⟩ v) := (Fr.refl _ _).setCell (.inl (by simp)) v
  refine ⟨⟨F, h1.fr f1 (fun g hg hm => h2 (by
    have : g = bb := by simpa using hm
    subst this
    exact hg)), h2, h3⟩, ?_, h.fr.trans' f1 (fun g hg => .inr (by
    have : g = bb := by simpa using hg
    subst this
    exact h.hb)), h.hb⟩
  have h5 := h.buf.set_ k v
  rw [he]
  simpa using h5
theorem DB.grow {w' : World} {v : Value} {L : List Int} (h : DB W b bb bs d wr) (hr : RowI W wr v L) (hg : wr.grownBy w' v.ownBlock) : DB W b bb bs d w' := by
  obtain ⟨F, h1, h2, h3⟩ := h.disk
  have f1 : Fr v.ownBlock.toList wr w' := (Fr.refl _ wr).grown hg (fun g e => .inl (Option.mem_toList.2 e))
  exact ⟨⟨F, h1.fr f1 (fun g hg hm => h1.not_row hr.own (Option.mem_toList.1 hm) hg), h2, h3⟩, h.buf.fr f1 (fun hm => hr.own.ne h.buf (by decide) (Option.mem_toList.1 hm) rfl), h.fr.trans' f1 (fun g hg => .inr (hr.new g (Option.mem_toList.1 hg))), h.hb⟩
/-- '[]int{x}'. -/
theorem RowI.lit {x : Int} (hW : W.heap.size ≤ wr.heap.size) (hx : okI x) : RowI W (wr.alloc (.cells #[.int .i64 x] 3)) (.slice (some ⟨wr.heap.size, 0, none⟩) 1 1) [x] := by
  have hb : (wr.alloc (.cells #[.int .i64 x] 3)).heap[wr.heap.size]? = some (Obj.cells #[.int .i64 x] 3 (0, 0)) := Blk.new wr 3 #[.int .i64 x]
  refine ⟨⟨by simp [encI], .inr ⟨wr.heap.size, 1, #[.int .i64 x], rfl, Nat.zero_le _, hb, Nat.le_refl _, by simp [maxLen], rfl, by simp [encI]⟩⟩, fun g hg => ?_, by simpa using hx⟩
  have e : wr.heap.size = g := by simpa [Value.ownBlock] using hg
  omega
theorem RowI.cons {w' : World} {v v' : Value} {x : Int} {L L' : List Int} (hl : RowI W wr v [x]) (hr : RowI W wr v' L) {u : Value} (hW : W.heap.size ≤ wr.heap.size) (ho : OwnL 3 1 encI w' u ([x] ++ L)) (hat : u.ownBlock = v.ownBlock ∨ u.ownBlock = some wr.heap.size) (he : L' = x :: L) : RowI W w' u L' := by
  subst he
  refine ⟨ho, fun g hg => ?_, fun y hy => ?_⟩
  · rcases hat with h1 | h1
    · exact hl.new g (h1 ▸ hg)
    · rw [hg] at h1
      injection h1 with h1
      omega
  · rcases List.mem_cons.1 hy with h1 | h1
    · exact hl.ok y (by simp [h1])
    · exact hr.ok y h1
end
end Go.Proofs.Ytbmakjhfoaadoaa
