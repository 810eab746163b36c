/-
  Builtins on rows that are written in place: clear, copy, an element put into a row.
-/
import Derived.Test.YthiaaminkfkjpaaGreatGae
import Derived.Laws.IdiomCopy
import Derived.Laws.Tables
import Derived.Lib.AppendZerosOnto
import Derived.Lib.Overlaps
namespace Go.Proofs.YthiaaminkfkjpaaGreat
open Go.RowKit

/-- The array in which vs stand from o on. -/
def wr : Array Value → Nat → List Value → Array Value
  | a, _, [] => a
  | a, o, v :: r => wr (a.setIfInBounds o v) (o + 1) r
theorem wr_size : ∀ (vs : List Value) (a : Array Value) (o : Nat), (wr a o vs).size = a.size
  | [], _, _ => rfl
  | v :: r, a, o => by rw [wr, wr_size r]; simp
theorem wr_get : ∀ (vs : List Value) (a : Array Value) (o k : Nat), o + vs.length ≤ a.size → (wr a o vs)[k]? = if o ≤ k ∧ k < o + vs.length then vs[k - o]? else a[k]?
  | [], a, o, k, _ => by rw [wr, if_neg (by simp)]
  | v :: r, a, o, k, h => by
    rw [List.length_cons] at h
    rw [wr, wr_get r (a.setIfInBounds o v) (o + 1) k (by rw [Array.size_setIfInBounds]; omega)]
    by_cases h1 : k = o
    · subst h1
      rw [if_neg (by omega), if_pos (by simp)]
      simp only [Nat.sub_self, List.getElem?_cons_zero]
      rw [Array.getElem?_setIfInBounds_self_of_lt (by omega)]
    · by_cases h2 : o + 1 ≤ k ∧ k < o + 1 + r.length
      · rw [if_pos h2, if_pos (by rw [List.length_cons]; omega)]
        rw [show k - o = (k - (o + 1)) + 1 by omega, List.getElem?_cons_succ]
      · rw [if_neg h2, if_neg (by rw [List.length_cons]; omega)]
        rw [Array.getElem?_setIfInBounds_ne (by omega)]
theorem wr_all {a : Array Value} {vs : List Value} (h : a.size = vs.length) : wr a 0 vs = vs.toArray := by
  apply Array.ext_getElem?
  intro k
  rw [wr_get vs a 0 k (by omega)]
  by_cases h1 : k < vs.length
  · rw [if_pos (by omega)]
    simp
  · rw [if_neg (by omega)]
    rw [Array.getElem?_eq_none (by omega), Array.getElem?_eq_none (by simp; omega)]
theorem Blk.puts {g t : Nat} : ∀ (vs : List Value) {w : World} {cs : Array Value} (o : Nat), Blk w g t cs → Blk (w.setCells g o vs) g t (wr cs o vs)
  | [], _, _, _, h => h
  | v :: r, _, _, o, h => Blk.puts r (o + 1) (h.set_ o v)
theorem Fr.puts {S : List Nat} {a : World} {g : Nat} : ∀ (vs : List Value) {w : World} (o : Nat), Fr S a w → (g ∈ S ∨ a.heap.size ≤ g) → Fr S a (w.setCells g o vs)
  | [], _, _, h, _ => h
  | v :: r, _, o, h, hg => Fr.puts r (o + 1) (h.setCell hg v) hg
/-- A block whose cells are all written anew. -/
theorem Blk.fill {g t : Nat} {w : World} {cs : Array Value} (h : Blk w g t cs) (vs : List Value) (hs : cs.size = vs.length) : Blk (w.setCells g 0 vs) g t vs.toArray := by
  have h1 := Blk.puts vs 0 h
  rwa [wr_all hs] at h1

theorem Fr.setRow {S : List Nat} {a w : World} (h : Fr S a w) {g : Nat} (hg : g ∈ S ∨ a.heap.size ≤ g) (cs : Array Value) : Fr S a (w.setRow g cs) :=
  ⟨h.os, h.tape, h.output, by rw [setRow_size]; exact h.size, fun k hk hs => (setRow_other w g k cs (by rintro rfl; rcases hg with h1 | h1; exact hs h1; omega)).trans (h.block k hk hs)⟩
/-- A struct is built; its cells are told. -/
theorem wpList_build_is {P : Program} {ops : Array Oper} {rest : List Oper} {o : Oper} {a : Act} {w : World} {Q : Exit → Act → World → Prop} (hg : o.guard = none) (t : TypeId) (parts : Array (Nat × Operand)) (ho : o.op = .build t parts) (cells : Array Value)
    (hb : P.built t (parts.map fun (i, x) => (i, a.eval x)).toList = some cells) (h : wpList P ops Q rest (a.put o.dst (.agg cells)) w) : wpList P ops Q (o :: rest) a w :=
  wpList_build hg t parts ho (by rw [hb]; rfl) (by rw [hb]; exact h)
/-- A store of a whole struct into a block of its own: the world behind it has a name. -/
theorem wpList_store_blk {P : Program} {ops : Array Oper} {rest : List Oper} {o : Oper} {a : Act} {w : World} {Q : Exit → Act → World → Prop} (hgd : o.guard = none) (ty : TypeId) (x y : Operand) (ho : o.op = .store ty x y)
    (g : Nat) (cells : Array Value) (hx : a.eval x = .pointer (some ⟨g, 0, none⟩)) (hy : a.eval y = .agg cells)
    (t : TypeId) (old : Array Value) (hg : Blk w g t old) (hi : (P.info? ty).map (·.size) = some cells.size)
    (hold : old.size = cells.size) (h1 : cells.toList.all (·.oneCell') = true)
    (h : ∀ w', Blk w' g t cells → Fr [g] w w' → wpList P ops Q rest (a.put o.dst undef) w') : wpList P ops Q (o :: rest) a w :=
  wpList_store_row hgd ty x y ho g cells hx hy t old hg hi hold (by rw [← h1]; simp) (h _ (setRow_heap w g old cells t (0, 0) hg) ((Fr.refl [g] w).setRow (.inl (by simp)) cells))
section
variable {X : Type} {e size : Nat} {enc : X → List Value} {w w' : World} {L : List X}
/-- A row's own block. -/
theorem OwnL.blk {A : Option Addr} {n cap : Nat} (h : OwnL e size enc w (.slice A n cap) L) : n = L.length ∧ ((A = none ∧ L = [] ∧ cap = 0) ∨ ∃ g cur, A = some ⟨g, 0, none⟩ ∧ Blk w g e cur ∧ n ≤ cap ∧ cap ≤ maxLen ∧ cur.size = cap * size ∧ cur.toList.take (n * size) = L.flatMap enc) := by
  rcases h.2 with ⟨h0, h1⟩ | ⟨g, c, cur, hv, _, hg, r⟩
  · injection h0 with e1 e2 e3
    subst e1 e2 e3
    exact ⟨h1.symm, .inl ⟨rfl, List.eq_nil_of_length_eq_zero h1, rfl⟩⟩
  · injection hv with e1 e2 e3
    subst e1 e2 e3
    exact ⟨rfl, .inr ⟨g, cur, rfl, hg, r⟩⟩
theorem OwnL.of_blk {g n cap : Nat} {cur : Array Value} (henc : ∀ x, (enc x).length = size) (hb : Blk w g e cur) (hn : n = L.length) (hc : n ≤ cap) (hm : cap ≤ maxLen) (hs : cur.size = cap * size) (ht : ∀ k, k < n * size → cur[k]? = (L.flatMap enc)[k]?) :
    OwnL e size enc w (.slice (some ⟨g, 0, none⟩) n cap) L := by
  subst hn
  refine ⟨flat_len henc L, .inr ⟨g, cap, cur, rfl, Nat.zero_le _, hb, hc, hm, hs, ?_⟩⟩
  apply List.ext_getElem?
  intro k
  by_cases hk : k < L.length * size
  · rw [List.getElem?_take_of_lt hk, ← ht k hk]
    simp
  · rw [List.getElem?_eq_none (by rw [List.length_take]; omega), List.getElem?_eq_none (by rw [flat_len henc]; omega)]
theorem OwnL.cur_get {n size : Nat} {cur : Array Value} {fl : List Value} (h : cur.toList.take (n * size) = fl) {k : Nat} (hk : k < n * size) : cur[k]? = fl[k]? := by
  rw [← h, List.getElem?_take_of_lt hk]
  simp
/-- An element is written. -/
theorem OwnL.put (henc : ∀ x, (enc x).length = size) {g n cap : Nat} (h : OwnL e size enc w (.slice (some ⟨g, 0, none⟩) n cap) L) {i : Nat} (hi : i < n) (x : X) :
    OwnL e size enc (w.setCells g (i * size) (enc x)) (.slice (some ⟨g, 0, none⟩) n cap) (L.set i x) := by
  obtain ⟨hn, h0 | ⟨g', cur, hA, hb, hc, hm, hs, ht⟩⟩ := h.blk
  · cases h0.1
  · injection hA with hA
    injection hA with hA
    subst hA
    have hle : i * size + size ≤ n * size := by
      have := Nat.mul_le_mul_right size (show i + 1 ≤ n from hi)
      rw [Nat.add_mul] at this
      omega
    have hle2 : n * size ≤ cap * size := Nat.mul_le_mul_right _ hc
    refine OwnL.of_blk henc (Blk.puts _ _ hb) (by rw [List.length_set]; exact hn) hc hm (by rw [wr_size, hs]) (fun k hk => ?_)
    rw [wr_get _ _ _ _ (by rw [henc, hs]; omega), henc]
    have hpos : 0 < size := by
      rcases Nat.eq_zero_or_pos size with h1 | h1
      · subst h1; omega
      · exact h1
    have hq : k / size < L.length := by
      rw [Nat.div_lt_iff_lt_mul hpos, ← hn]
      exact hk
    have hk2 : k = k / size * size + k % size := by rw [Nat.mul_comm]; exact (Nat.div_add_mod k size).symm
    have hr : k % size < size := Nat.mod_lt _ hpos
    have h2 := flat_get henc (L.set i x) (k / size) (by rw [List.length_set]; exact hq) (k % size) hr
    rw [← hk2] at h2
    rw [h2]
    by_cases hki : k / size = i
    · have h3 : i * size ≤ k ∧ k < i * size + size := by rw [← hki]; omega
      rw [if_pos h3]
      have h4 : (L.set i x)[k / size]'(by rw [List.length_set]; exact hq) = x := by simp [hki]
      rw [h4, show k - i * size = k % size by rw [← hki]; omega]
    · have h3 : ¬ (i * size ≤ k ∧ k < i * size + size) := by
        rintro ⟨ha, hb'⟩
        apply hki
        have e1 : i ≤ k / size := by rw [Nat.le_div_iff_mul_le hpos]; exact ha
        have e2 : k / size < i + 1 := by rw [Nat.div_lt_iff_lt_mul hpos, Nat.add_mul]; omega
        omega
      rw [if_neg h3, OwnL.cur_get ht hk]
      have h5 := flat_get henc L (k / size) hq (k % size) hr
      rw [← hk2] at h5
      rw [h5]
      congr 2
      rw [List.getElem_set_ne (fun h => hki h.symm)]
/-- Fewer elements of a row. -/
theorem OwnL.shrink (henc : ∀ x, (enc x).length = size) {g n cap : Nat} (h : OwnL e size enc w (.slice (some ⟨g, 0, none⟩) n cap) L) {m : Nat} (hm : m ≤ n) : OwnL e size enc w (.slice (some ⟨g, 0, none⟩) m cap) (L.take m) := by
  obtain ⟨hn, h0 | ⟨g', cur, hA, hb, hc, hmx, hs, ht⟩⟩ := h.blk
  · cases h0.1
  · injection hA with hA
    injection hA with hA
    subst hA
    have hle : m * size ≤ n * size := Nat.mul_le_mul_right _ hm
    refine OwnL.of_blk henc hb (by rw [List.length_take]; omega) (by omega) hmx hs (fun k hk => ?_)
    rw [OwnL.cur_get ht (by omega), flat_take henc, List.getElem?_take_of_lt hk]
/-- What is written behind the first m elements leaves these. -/
theorem OwnL.tail (henc : ∀ x, (enc x).length = size) {g n cap o : Nat} (h : OwnL e size enc w (.slice (some ⟨g, 0, none⟩) n cap) L) {m : Nat} (hm : m ≤ n) (vs : List Value) (ho : m * size ≤ o) (hv : o + vs.length ≤ cap * size) : OwnL e size enc (w.setCells g o vs) (.slice (some ⟨g, 0, none⟩) m cap) (L.take m) := by
  obtain ⟨hn, h0 | ⟨g', cur, hA, hb, hc, hmx, hs, ht⟩⟩ := h.blk
  · cases h0.1
  · injection hA with hA
    injection hA with hA
    subst hA
    have hle : m * size ≤ n * size := Nat.mul_le_mul_right _ hm
    refine OwnL.of_blk henc (Blk.puts _ _ hb) (by rw [List.length_take]; omega) (by omega) hmx (by rw [wr_size, hs]) (fun k hk => ?_)
    rw [wr_get _ _ _ _ (by rw [hs]; exact hv), if_neg (by omega), OwnL.cur_get ht (by omega), flat_take henc, List.getElem?_take_of_lt hk]
end
end Go.Proofs.YthiaaminkfkjpaaGreat
namespace Go.Proofs.YthiaaminkfkjpaaGreat
open Go.RowKit

section
variable {P : Program}
theorem blk_cells {w : World} {g t : Nat} {cur : Array Value} (h : Blk w g t cur) {o m : Nat} (hm : o + m ≤ cur.size) : (∀ j, j < m → (w.cell? ⟨g, o + j, none⟩).isSome = true) ∧ ∀ j, j < m → w.frozen? ⟨g, o + j, none⟩ = false :=
  ⟨fun j hj => by rw [h.cell, Array.getElem?_eq_getElem (by omega)]; rfl, fun j _ => h.frozen _⟩
/-- clear(s): zero values. -/
theorem run_clear_put (w : World) (t e ty : TypeId) (z : Value) (ht : P.underlying t = some (.slice e)) (hv : ∀ w, (zeroValue e).run P w = .ok z w) (b o n c tb : Nat) (cur : Array Value) (hn : 0 < n) (hb : Blk w b tb cur) (size : Nat) (hz : (Builtin.zeroCells z.cells n).toList.length = n * size)
    (h1 : ∀ v ∈ (Builtin.zeroCells z.cells n).toList, v.oneCell' = true) (hm : o + n * size ≤ cur.size) :
    (Builtin.clear_ #[t] ty #[.slice (some ⟨b, o, none⟩) n c]).run P w = .ok (.tuple #[]) (w.setCells b o (Builtin.zeroCells z.cells n).toList) := by
  obtain ⟨hc, hf⟩ := blk_cells hb (by rw [← hz] at hm; exact hm)
  have hst := run_storeCells_cells (P := P) b o (Builtin.zeroCells z.cells n).toList 0 w (by simpa using hc) (by simpa using hf) h1
  simp only [Nat.add_zero] at hst
  obtain ⟨m, rfl⟩ : ∃ m, n = m + 1 := ⟨n - 1, by omega⟩
  simp [Builtin.clear_, run_underlying ht, hv, hst]
/-- copy(d, s) of elements of any size. -/
theorem run_copy_put (w : World) (dT sT ty elem : TypeId) (size : Nat) (b o dLen dCap tb : Nat) (cur : Array Value) (a : Addr) (sLen sCap : Nat) (cs : List Value)
    (hu : P.underlying dT = some (.slice elem)) (hs : (P.info? elem).map (·.size) = some size) (m : Nat) (hn : m = Nat.min sLen dLen) (hl : cs.length = m * size)
    (hsrc : ∀ j v, cs[j]? = some v → w.cell? (a.add j) = some v) (hb : Blk w b tb cur) (hm : o + m * size ≤ cur.size) (h1 : ∀ v ∈ cs, v.oneCell' = true) :
    (Builtin.copy_ #[dT, sT] ty #[.slice (some ⟨b, o, none⟩) dLen dCap, .slice (some a) sLen sCap]).run P w = .ok (goInt m) (w.setCells b o cs) := by
  have hl1 := run_loadCells_list (P := P) w a cs hsrc
  obtain ⟨hc, hf⟩ := blk_cells hb (by rw [← hl] at hm; exact hm)
  have hst := run_storeCells_cells (P := P) b o cs 0 w (by simpa using hc) (by simpa using hf) h1
  cases hq : P.info? elem with
  | none => simp [hq] at hs
  | some i =>
    have hi : i.size = size := by simpa [hq] using hs
    rw [hl] at hl1
    simp [Builtin.copy_, run_underlying hu, Builtin.lenOf, Builtin.firstCells, sizeOf, typeInfo, hq, hi, ← hn, hl1, hst]
/-- A store of a struct somewhere in a block. -/
theorem wpList_store_put {ops : Array Oper} {rest : List Oper} {o : Oper} {a : Act} {w : World} {Q : Exit → Act → World → Prop} (hgd : o.guard = none) (ty : TypeId) (x y : Operand) (ho : o.op = .store ty x y)
    (g off : Nat) (cells : Array Value) (hx : a.eval x = .pointer (some ⟨g, off, none⟩)) (hy : a.eval y = .agg cells)
    (t : TypeId) (cur : Array Value) (hg : Blk w g t cur) (hi : (P.info? ty).map (·.size) = some cells.size)
    (hm : off + cells.size ≤ cur.size) (h1 : cells.toList.all (·.oneCell') = true)
    (h : wpList P ops Q rest (a.put o.dst undef) (w.setCells g off cells.toList)) : wpList P ops Q (o :: rest) a w :=
  wpList_plain hgd fun _ hK => by
    have hK' := hK _ _ h
    obtain ⟨hc, hf⟩ := blk_cells hg (m := cells.toList.length) (by simpa using hm)
    have hst := run_storeCells_cells (P := P) g off cells.toList 0 w (by simpa using hc) (by simpa using hf) (fun v hv => List.all_eq_true.1 h1 v hv)
    simp only [Nat.add_zero] at hst
    cases hq : P.info? ty with
    | none => simp [hq] at hi
    | some i =>
      have hs : cells.size = i.size := by simp [hq] at hi; omega
      have hrun : (storeVar ty ⟨g, off, none⟩ (.agg cells)).run P w = .ok () (w.setCells g off cells.toList) := by
        simp [storeVar, sizeOf, typeInfo, hq, Value.cells, hs, hst]
      unfold Oper.wp execOp
      simp only [ho, hx, hy, Instr.storeAt, Instr.sureAddr, Sem.run_bind, Sem.run_pure, Result.andThen_ok, hrun]
      exact hK'
end
section
variable {P : Program}
/-- copy, its run known. -/
theorem wp_copyP (w : World) {o : Oper} {a : Act} {K : Act → World → Prop} {Q : Exit → Act → World → Prop} (d s : Operand) (t t' : TypeId)
    (ho : o.op = .call { callee := .builtin .copy, args := #[d, s], argTypes := #[t, t'] }) (v u : Value) (hd : a.eval d = v) (hs : a.eval s = u) {v' : Value} {w' : World}
    (hr : (Builtin.copy_ #[t, t'] o.type #[v, u]).run P w = .ok v' w') (h : K (a.put o.dst v') w') : o.wp P a w K Q := by
  unfold Oper.wp execOp
  simp only [ho, resolve, invoke, builtin, Sem.run_bind, Sem.run_pure, Result.andThen_ok, List.map_toArray, List.map_cons, List.map_nil, hd, hs, hr]
  exact h
theorem wpList_copyP (w : World) {ops : Array Oper} {rest : List Oper} {o : Oper} {a : Act} {Q : Exit → Act → World → Prop} (hgd : o.guard = none) (d s : Operand) (t t' : TypeId)
    (ho : o.op = .call { callee := .builtin .copy, args := #[d, s], argTypes := #[t, t'] }) (v u : Value) (hd : a.eval d = v) (hs : a.eval s = u) {v' : Value} {w' : World}
    (hr : (Builtin.copy_ #[t, t'] o.type #[v, u]).run P w = .ok v' w') (h : wpList P ops Q rest (a.put o.dst v') w') : wpList P ops Q (o :: rest) a w :=
  wpList_plain hgd fun _ hK => wp_copyP w d s t t' ho v u hd hs hr (hK _ _ h)
theorem step_copyP {ops : Array Oper} {o : Oper} {a : Act} {w : World} {K : Act → World → Prop} {Q : Exit → Act → World → Prop} {E : Prop}
    (hg : o.guard = none) (d x : Operand) (dT sT : TypeId) (hop : o.op = Op.call { callee := Callee.builtin Builtin.copy, args := #[d, x], argTypes := #[dT, sT] })
    (v u : Value) (hd : a.eval d = v) (hx : a.eval x = u) {v' : Value} {w' : World} (hr : (Builtin.copy_ #[dT, sT] o.type #[v, u]).run P w = .ok v' w') (hK : K (a.put o.dst v') w') :
    if Region.wanted o (yielded ops a.tmps) = true then Oper.wp P o a w K Q else E := by
  rw [if_pos (by simp [Region.wanted, hg])]
  exact wp_copyP w d x dT sT hop v u hd hx hr hK
end
section
variable {X : Type} {e size : Nat} {enc : X → List Value} {w w' : World} {L : List X}
theorem flat_ins (henc : ∀ x, (enc x).length = size) (L : List X) (x : X) {i : Nat} (hi : i ≤ L.length) {k : Nat} : ((L.take i ++ x :: L.drop i).flatMap enc)[k]? = if k < i * size then ((L.take i).flatMap enc)[k]? else if k < i * size + size then (enc x)[k - i * size]? else ((L.drop i).flatMap enc)[k - (i * size + size)]? := by
  have hl : ((L.take i).flatMap enc).length = i * size := by rw [flat_len henc, List.length_take, Nat.min_eq_left hi]
  rw [List.flatMap_append, List.flatMap_cons]
  by_cases h1 : k < i * size
  · rw [if_pos h1, List.getElem?_append_left (by omega)]
  · rw [if_neg h1, List.getElem?_append_right (by omega), hl]
    by_cases h2 : k < i * size + size
    · rw [if_pos h2, List.getElem?_append_left (by rw [henc]; omega)]
    · rw [if_neg h2, List.getElem?_append_right (by rw [henc]; omega), henc]
      congr 1
      omega
/-- What stood from i on moved up, an element put at i. -/
theorem OwnL.insA (henc : ∀ x, (enc x).length = size) {g i cap m : Nat} {cur : Array Value} (hb : Blk w g e cur) (hs : cur.size = cap * size) (hi : i ≤ L.length) (hm : m = L.length + 1) (hc : m ≤ cap) (hmx : cap ≤ maxLen) (hcur : ∀ k, k < i * size → cur[k]? = ((L.take i).flatMap enc)[k]?) (x : X) :
    OwnL e size enc ((w.setCells g (i * size + size) ((L.drop i).flatMap enc)).setCells g (i * size) (enc x)) (.slice (some ⟨g, 0, none⟩) m cap) (L.take i ++ x :: L.drop i) := by
  have hdl : ((L.drop i).flatMap enc).length = (L.length - i) * size := by rw [flat_len henc, List.length_drop]
  have h1 : (L.length - i) * size + (i * size + size) = m * size := by rw [hm, Nat.add_mul, ← Nat.add_assoc, ← Nat.add_mul, Nat.sub_add_cancel hi, Nat.one_mul]
  have h2 : m * size ≤ cap * size := Nat.mul_le_mul_right _ hc
  refine OwnL.of_blk henc (Blk.puts _ _ (Blk.puts _ _ hb)) (by simp [hm]; omega) hc hmx (by rw [wr_size, wr_size, hs]) (fun k hk => ?_)
  rw [wr_get _ _ _ _ (by rw [wr_size, henc, hs]; omega), henc, wr_get _ _ _ _ (by rw [hdl, hs]; omega), hdl, flat_ins henc L x hi]
  by_cases c1 : k < i * size
  · rw [if_neg (by omega), if_neg (by omega), if_pos c1, hcur k c1]
  · by_cases c2 : k < i * size + size
    · rw [if_pos (by omega), if_neg c1, if_pos c2]
    · rw [if_neg (by omega), if_pos (by omega), if_neg c1, if_neg c2]
theorem OwnL.insB (henc : ∀ x, (enc x).length = size) {g i cap m : Nat} {cur : Array Value} (hb : Blk w g e cur) (hs : cur.size = cap * size) (hi : i ≤ L.length) (hm : m = L.length + 1) (hc : m ≤ cap) (hmx : cap ≤ maxLen) (hcur : ∀ k, k < i * size → cur[k]? = ((L.take i).flatMap enc)[k]?) (x : X) :
    OwnL e size enc ((w.setCells g (i * size) (enc x)).setCells g (i * size + size) ((L.drop i).flatMap enc)) (.slice (some ⟨g, 0, none⟩) m cap) (L.take i ++ x :: L.drop i) := by
  have hdl : ((L.drop i).flatMap enc).length = (L.length - i) * size := by rw [flat_len henc, List.length_drop]
  have h1 : (L.length - i) * size + (i * size + size) = m * size := by rw [hm, Nat.add_mul, ← Nat.add_assoc, ← Nat.add_mul, Nat.sub_add_cancel hi, Nat.one_mul]
  have h2 : m * size ≤ cap * size := Nat.mul_le_mul_right _ hc
  refine OwnL.of_blk henc (Blk.puts _ _ (Blk.puts _ _ hb)) (by simp [hm]; omega) hc hmx (by rw [wr_size, wr_size, hs]) (fun k hk => ?_)
  rw [wr_get _ _ _ _ (by rw [wr_size, hdl, hs]; omega), hdl, wr_get _ _ _ _ (by rw [henc, hs]; omega), henc, flat_ins henc L x hi]
  by_cases c1 : k < i * size
  · rw [if_neg (by omega), if_neg (by omega), if_pos c1, hcur k c1]
  · by_cases c2 : k < i * size + size
    · rw [if_neg (by omega), if_pos (by omega), if_neg c1, if_pos c2]
    · rw [if_pos (by omega), if_neg c1, if_neg c2]
end
/-- A store of an element of a row of one's own: the world behind it has a name. -/
theorem wpList_store_own {P : Program} {X : Type} {e size : Nat} {enc : X → List Value} {L : List X} {ops : Array Oper} {rest : List Oper} {o : Oper} {a : Act} {w : World} {Q : Exit → Act → World → Prop} (hgd : o.guard = none) (ty : TypeId) (x y : Operand) (ho : o.op = .store ty x y)
    (g off : Nat) (cells : Array Value) (hx : a.eval x = .pointer (some ⟨g, off, none⟩)) (hy : a.eval y = .agg cells)
    (i n cap : Nat) (v : X) (hown : OwnL e size enc w (.slice (some ⟨g, 0, none⟩) n cap) L) (henc : ∀ x, (enc x).length = size) (hone : ∀ x, ∀ u ∈ enc x, u.oneCell' = true) (hi : i < n) (hoff : off = i * size) (hcs : cells = (enc v).toArray)
    (hsz : (P.info? ty).map (·.size) = some size)
    (h : ∀ w', OwnL e size enc w' (.slice (some ⟨g, 0, none⟩) n cap) (L.set i v) → Fr [g] w w' → wpList P ops Q rest (a.put o.dst undef) w') : wpList P ops Q (o :: rest) a w := by
  subst hoff hcs
  have hcl : (enc v).toArray.size = size := by simp [henc]
  obtain ⟨-, h9 | ⟨g9, cur9, h91, hb9, hnc9, hcm9, hs9, ht9⟩⟩ := hown.blk
  · cases h9.1
  · injection h91 with h91
    injection h91 with h91
    subst h91
    have hle : i * size + size ≤ cap * size := by
      have := Nat.mul_le_mul_right size (show i + 1 ≤ cap by omega)
      rw [Nat.add_mul] at this
      omega
    exact wpList_store_put hgd ty x y ho g (i * size) (enc v).toArray hx hy e cur9 hb9 (by rw [hsz, hcl]) (by rw [hcl, hs9]; exact hle) (List.all_eq_true.2 (fun u hu => hone v u (by simpa using hu))) (h _ (by simpa using hown.put henc hi v) (Fr.puts _ _ (Fr.refl [g] w) (.inl (by simp))))
/-- The place of the first element of which p holds; -1 where there is none. -/
def idxP {X : Type} (p : X → Bool) : List X → Nat → Int
  | [], _ => -1
  | x :: l, i => if p x = true then i else idxP p l (i + 1)
theorem idxP_miss {X : Type} {p : X → Bool} : ∀ {l : List X} (i : Nat), (∀ x ∈ l, p x = false) → idxP p l i = -1
  | [], _, _ => rfl
  | x :: l, i, h => by
    rw [idxP, if_neg (by rw [h x (by simp)]; simp)]
    exact idxP_miss (i + 1) (fun y hy => h y (by simp [hy]))
theorem idxP_hit {X : Type} {p : X → Bool} : ∀ {l : List X} (i k : Nat) (hk : k < l.length), (∀ x ∈ l.take k, p x = false) → p l[k] = true → idxP p l i = ((i + k : Nat) : Int)
  | x :: l, i, 0, _, _, h => by
    rw [idxP, if_pos (by simpa using h)]
    rfl
  | x :: l, i, k + 1, hk, ha, h => by
    rw [idxP, if_neg (by rw [ha x (by simp)]; simp)]
    rw [idxP_hit (i + 1) k (by simpa using hk) (fun y hy => ha y (by simp [hy])) (by simpa using h)]
    congr 1
    omega
/-- Either p holds nowhere, or there is a first place. -/
theorem first_or {X : Type} (p : X → Bool) : ∀ l : List X, (∀ x ∈ l, p x = false) ∨ ∃ k, ∃ hk : k < l.length, (∀ x ∈ l.take k, p x = false) ∧ p l[k] = true
  | [] => .inl (by simp)
  | x :: l => by
    cases hp : p x with
    | true => exact .inr ⟨0, by simp, by simp, by simpa using hp⟩
    | false =>
      rcases first_or p l with h | ⟨k, hk, h1, h2⟩
      · exact .inl (fun y hy => by rcases List.mem_cons.1 hy with rfl | hy; exact hp; exact h y hy)
      · exact .inr ⟨k + 1, by simpa using hk, fun y hy => by
          rw [List.take_succ_cons] at hy
          rcases List.mem_cons.1 hy with rfl | hy
          · exact hp
          · exact h1 y hy, by simpa using h2⟩
end Go.Proofs.YthiaaminkfkjpaaGreat
