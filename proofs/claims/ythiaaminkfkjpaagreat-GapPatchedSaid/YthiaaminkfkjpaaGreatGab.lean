/-
  PACKAGE row: rows, changes and records in plain Lean.
-/
import Derived.Test.YthiaaminkfkjpaaGreatGaa
import Derived.Maps.AppendAt
import Derived.OwnWalk
import Derived.RegionTactic
namespace Go.Proofs.YthiaaminkfkjpaaGreat
open Go.RowKit

theorem block_of_add (a : Addr) (n : Nat) : (a.add n).block = a.block := by unfold Addr.add; split <;> rfl
theorem add_of_add (a : Addr) (i j : Nat) : (a.add i).add j = a.add (i + j) := by
  unfold Addr.add
  by_cases hi : i = 0 <;> by_cases hj : j = 0 <;> simp [hi, hj, Nat.add_assoc]

def Reads (w : World) (B size : Nat) (A : Option Addr) (n : Nat) (xs : List Value) : Prop :=
  xs.length = n * size ∧ (0 < n → ∃ ad, A = some ad ∧ ad.block < B ∧ ∀ j u, xs[j]? = some u → w.cell? (ad.add j) = some u)

section
variable {w w' : World} {B B' size n : Nat} {A : Option Addr} {xs : List Value}
theorem Reads.none_ : Reads w B size A 0 [] := ⟨by simp, fun h => absurd h (by omega)⟩
theorem Reads.at_ {k : Nat} (h : Reads w B 1 A n xs) (hk : k < n) : ∃ ad u, A = some ad ∧ ad.block < B ∧ xs[k]? = some u ∧ w.cell? (ad.add k) = some u := by
  obtain ⟨ad, e, hb, hc⟩ := h.2 (by omega)
  have hl : k < xs.length := by have := h.1; omega
  exact ⟨ad, xs[k], e, hb, List.getElem?_eq_getElem hl, hc k _ (List.getElem?_eq_getElem hl)⟩
theorem Reads.keep (h : Reads w B size A n xs) (hk : ∀ p : Addr, p.block < B → w'.cell? p = w.cell? p) : Reads w' B size A n xs :=
  ⟨h.1, fun hn => by
    obtain ⟨ad, e, hb, hc⟩ := h.2 hn
    exact ⟨ad, e, hb, fun j u hu => (hk _ (by rw [block_of_add]; exact hb)).trans (hc j u hu)⟩⟩
theorem Reads.more (h : Reads w B size A n xs) (hB : B ≤ B') : Reads w B' size A n xs :=
  ⟨h.1, fun hn => by
    obtain ⟨ad, e, hb, hc⟩ := h.2 hn
    exact ⟨ad, e, by omega, hc⟩⟩
theorem Reads.below (h : Reads w B size A n xs) (hb : Below B w w') : Reads w' B size A n xs := h.keep fun _ hp => hb.cell hp
theorem Reads.drew (h : Reads w B size A n xs) : Reads w.drew B size A n xs := h
theorem Reads.drewN (h : Reads w B size A n xs) (k : Nat) : Reads (w.drewN k) B size A n xs := h
theorem Reads.alloc (h : Reads w B size A n xs) (hB : B ≤ w.heap.size) (o : Obj) : Reads (w.alloc o) B size A n xs := h.keep fun p hp => World.cell?_alloc_lt w o p (by omega)
theorem Reads.setCell (h : Reads w B size A n xs) {p : Addr} (hB : B ≤ p.block) (u : Value) : Reads (w.setCell p u) B size A n xs :=
  h.keep fun q hq => World.cell?_setCell_other w p q u (fun e => by subst e; omega)
theorem Reads.grown (h : Reads w B size A n xs) {row : Option Nat} (hg : w.grownBy w' row) (hB : B ≤ w.heap.size) (hr : ∀ g, row = some g → B ≤ g) : Reads w' B size A n xs :=
  h.keep fun p hp => World.cell?_of_block (hg.block p.block (by omega) (fun e => by have := hr _ e.symm; omega))
theorem Reads.cut (h : Reads w B size A n xs) {k cap : Nat} (hk : k ≤ n) (hc : n ≤ cap) :
    Reads w B size (if cap = k then A else A.map (·.add (k * size))) (n - k) (xs.drop (k * size)) := by
  refine ⟨by rw [List.length_drop, h.1, Nat.sub_mul], fun hn => ?_⟩
  obtain ⟨ad, rfl, hb, hcell⟩ := h.2 (by omega)
  rw [if_neg (by omega)]
  refine ⟨ad.add (k * size), rfl, by rw [block_of_add]; exact hb, fun j u hu => ?_⟩
  rw [add_of_add]
  exact hcell _ u (by rw [← hu, List.getElem?_drop])
theorem Reads.of_own {base : Nat} {e : TypeId} {c : Nat} (h : w.ownsRow base e size (.slice A n c) n xs) : Reads w w.heap.size size A n xs := by
  refine ⟨h.1, fun hn => ?_⟩
  obtain ⟨g, cap, hv, _, hlt⟩ := h.form hn
  have hA : A = some ⟨g, 0, none⟩ := by injection hv
  subst hA
  exact ⟨_, rfl, hlt, h.cells (g := g) rfl⟩
end

section
variable {P : Program} (w : World)

theorem run_append_of_nil (base : Nat) (t ty e : TypeId) (i : TypeInfo) (size : Nat) (ht : P.underlying t = some (.slice e)) (hi : P.info? e = some i)
    (v : Value) (n : Nat) (xs : List Value) (hown : w.ownsRow base e size v n xs) (c : Nat) : (Builtin.append_ #[t, t] ty #[v, .slice none 0 c]).run P w = .ok v w := by
  rcases hown.2 with ⟨rfl, rfl⟩ | ⟨g, cap, cur, rfl, _, _, hnc, _⟩
  · simp [Builtin.append_, run_underlying ht, sizeOf, typeInfo, hi, Builtin.lenOf, Builtin.firstCells]
  · simp [Builtin.append_, run_underlying ht, sizeOf, typeInfo, hi, Builtin.lenOf, Builtin.firstCells, hnc, storeCells]

theorem run_append_any (base : Nat) (t ty e : TypeId) (i : TypeInfo) (z : Value) (size bytes : Nat) (ht : P.underlying t = some (.slice e)) (hi : P.info? e = some i) (hz : i.zero = some z)
    (hsize : i.size = size) (hby : i.bytes = bytes) (hzs : z.cells.size = size) (hsz : 0 < size)
    (v : Value) (n : Nat) (xs : List Value) (hown : w.ownsRow base e size v n xs)
    (B : Nat) (A : Option Addr) (m c : Nat) (news : List Value) (hr : Reads w B size A m news) (h1 : ∀ u ∈ news, u.oneCell' = true)
    (h63 : n + m ≤ maxLen) (hbytes : (n + m) * bytes ≤ 140737488355328) (hbase : base ≤ w.heap.size) :
    ∃ v' w', (Builtin.append_ #[t, t] ty #[v, .slice A m c]).run P w = .ok v' w' ∧ w'.ownsRow base e size v' (n + m) (xs ++ news) ∧ w.grownBy w' v.ownBlock ∧
      (v'.ownBlock = v.ownBlock ∨ v'.ownBlock = some w.heap.size) := by
  rcases A with _ | ad
  · have hm : m = 0 := by
      rcases Nat.eq_zero_or_pos m with h0 | h0
      · exact h0
      · obtain ⟨ad, h, _⟩ := hr.2 h0
        cases h
    subst hm
    have hn : news = [] := List.eq_nil_of_length_eq_zero (by simpa using hr.1)
    subst hn
    exact ⟨v, w, run_append_of_nil w base t ty e i size ht hi v n xs hown c, by simpa using hown, World.grownBy.refl w _, .inl rfl⟩
  · have hcells : ∀ j u, news[j]? = some u → w.cell? (ad.add j) = some u := by
      intro j u hu
      rcases Nat.eq_zero_or_pos m with h0 | h0
      · subst h0
        have hn : news = [] := List.eq_nil_of_length_eq_zero (by simpa using hr.1)
        subst hn
        simp at hu
      · obtain ⟨ad', h, _, hc⟩ := hr.2 h0
        injection h with h
        subst h
        exact hc j u hu
    obtain ⟨v', w', hrun, h2, h3, _, h5⟩ := run_append_own_at (P := P) w base t ty e i z size bytes ht hi hz hsize hby hzs hsz v n xs hown ad m c news hr.1 hcells h1 h63 hbytes hbase
    exact ⟨v', w', hrun, h2, h3, h5⟩

theorem wp_append_any {o : Oper} {a : Act} {K : Act → World → Prop} {Q : Exit → Act → World → Prop} (s x : Operand) (t : TypeId)
    (ho : o.op = .call { callee := .builtin .append, args := #[s, x], argTypes := #[t, t] })
    (base : Nat) (e : TypeId) (i : TypeInfo) (z : Value) (size bytes : Nat) (ht : P.underlying t = some (.slice e)) (hi : P.info? e = some i) (hz : i.zero = some z)
    (hsize : i.size = size) (hby : i.bytes = bytes) (hzs : z.cells.size = size) (hsz : 0 < size)
    (v : Value) (n : Nat) (xs : List Value) (hs : a.eval s = v) (hown : w.ownsRow base e size v n xs)
    (B : Nat) (A : Option Addr) (m c : Nat) (news : List Value) (hx : a.eval x = .slice A m c) (hr : Reads w B size A m news) (h1 : ∀ u ∈ news, u.oneCell' = true)
    (h63 : n + m ≤ maxLen) (hbytes : (n + m) * bytes ≤ 140737488355328) (hbase : base ≤ w.heap.size)
    (h : ∀ v' w', w'.ownsRow base e size v' (n + m) (xs ++ news) → w.grownBy w' v.ownBlock → (v'.ownBlock = v.ownBlock ∨ v'.ownBlock = some w.heap.size) → K (a.put o.dst v') w') : o.wp P a w K Q := by
  obtain ⟨v', w', hrun, h2, h3, h4⟩ := run_append_any (P := P) w base t o.type e i z size bytes ht hi hz hsize hby hzs hsz v n xs hown B A m c news hr h1 h63 hbytes hbase
  unfold Oper.wp execOp
  simp only [ho, resolve, invoke, builtin, Sem.run_bind, Sem.run_pure, Result.andThen_ok, List.map_toArray, List.map_cons, List.map_nil, hs, hx, hrun]
  exact h v' w' h2 h3 h4

theorem wpList_append_any {ops : Array Oper} {rest : List Oper} {o : Oper} {a : Act} {Q : Exit → Act → World → Prop} (hgd : o.guard = none) (s x : Operand) (t : TypeId)
    (ho : o.op = .call { callee := .builtin .append, args := #[s, x], argTypes := #[t, t] })
    (base : Nat) (e : TypeId) (i : TypeInfo) (z : Value) (size bytes : Nat) (ht : P.underlying t = some (.slice e)) (hi : P.info? e = some i) (hz : i.zero = some z)
    (hsize : i.size = size) (hby : i.bytes = bytes) (hzs : z.cells.size = size) (hsz : 0 < size)
    (v : Value) (n : Nat) (xs : List Value) (hs : a.eval s = v) (hown : w.ownsRow base e size v n xs)
    (B : Nat) (A : Option Addr) (m c : Nat) (news : List Value) (hx : a.eval x = .slice A m c) (hr : Reads w B size A m news) (h1 : ∀ u ∈ news, u.oneCell' = true)
    (h63 : n + m ≤ maxLen) (hbytes : (n + m) * bytes ≤ 140737488355328) (hbase : base ≤ w.heap.size)
    (h : ∀ v' w', w'.ownsRow base e size v' (n + m) (xs ++ news) → w.grownBy w' v.ownBlock → (v'.ownBlock = v.ownBlock ∨ v'.ownBlock = some w.heap.size) → wpList P ops Q rest (a.put o.dst v') w') : wpList P ops Q (o :: rest) a w :=
  wpList_plain hgd fun _ hK => wp_append_any w s x t ho base e i z size bytes ht hi hz hsize hby hzs hsz v n xs hs hown B A m c news hx hr h1 h63 hbytes hbase fun v' w' h2 h3 h4 => hK _ _ (h v' w' h2 h3 h4)

theorem step_append_any {ops : Array Oper} {o : Oper} {a : Act} {K : Act → World → Prop} {Q : Exit → Act → World → Prop} {E : Prop} (hgd : o.guard = none) (s x : Operand) (t : TypeId)
    (ho : o.op = .call { callee := .builtin .append, args := #[s, x], argTypes := #[t, t] })
    (base : Nat) (e : TypeId) (i : TypeInfo) (z : Value) (size bytes : Nat) (ht : P.underlying t = some (.slice e)) (hi : P.info? e = some i) (hz : i.zero = some z)
    (hsize : i.size = size) (hby : i.bytes = bytes) (hzs : z.cells.size = size) (hsz : 0 < size)
    (v : Value) (n : Nat) (xs : List Value) (hs : a.eval s = v) (hown : w.ownsRow base e size v n xs)
    (B : Nat) (A : Option Addr) (m c : Nat) (news : List Value) (hx : a.eval x = .slice A m c) (hr : Reads w B size A m news) (h1 : ∀ u ∈ news, u.oneCell' = true)
    (h63 : n + m ≤ maxLen) (hbytes : (n + m) * bytes ≤ 140737488355328) (hbase : base ≤ w.heap.size)
    (h : ∀ v' w', w'.ownsRow base e size v' (n + m) (xs ++ news) → w.grownBy w' v.ownBlock → (v'.ownBlock = v.ownBlock ∨ v'.ownBlock = some w.heap.size) → K (a.put o.dst v') w') :
    if Region.wanted o (yielded ops a.tmps) = true then Oper.wp P o a w K Q else E := by
  have hw : Region.wanted o (yielded ops a.tmps) = true := by simp [Region.wanted, hgd]
  rw [if_pos hw]
  exact wp_append_any w s x t ho base e i z size bytes ht hi hz hsize hby hzs hsz v n xs hs hown B A m c news hx hr h1 h63 hbytes hbase h
end

theorem Reads.fr {w w' : World} {B size n : Nat} {A : Option Addr} {xs : List Value} {S : List Nat} (h : Reads w B size A n xs) (hB : B ≤ w.heap.size) (hf : Fr S w w') (hs : ∀ ad, A = some ad → ad.block ∉ S) : Reads w' B size A n xs :=
  ⟨h.1, fun hn => by
    obtain ⟨ad, e, hb, hc⟩ := h.2 hn
    exact ⟨ad, e, hb, fun j u hu => (hf.cell (by rw [block_of_add]; omega) (by rw [block_of_add]; exact hs ad e)).trans (hc j u hu)⟩⟩

/-- An element type: its slice type t, its own number e, its cells, its bytes. -/
structure ET (P : Program) (t e size bytes : Nat) (i : TypeInfo) (z : Value) : Prop where
  ht : P.underlying t = some (.slice e)
  hi : P.info? e = some i
  hz : i.zero = some z
  hs : i.size = size
  hb : i.bytes = bytes
  hzs : z.cells.size = size
  pos : 0 < size

/-- v is nil, or the head of a row that holds the elements L. -/
def OwnL {X : Type} (e size : Nat) (enc : X → List Value) (w : World) (v : Value) (L : List X) : Prop := w.ownsRow 0 e size v L.length (L.flatMap enc)

section
variable {X : Type} {P : Program} {t e size bytes : Nat} {i0 : TypeInfo} {z : Value} {enc : X → List Value} {w w' : World} {v : Value} {L : List X}
theorem OwnL.nil : OwnL e size enc w (.slice none 0 0) ([] : List X) := World.ownsRow_nil _ _ _ _
theorem OwnL.val (h : OwnL e size enc w v L) : ∃ A cap, v = .slice A L.length cap := by
  rcases h.2 with ⟨rfl, h0⟩ | ⟨g, cap, cur, rfl, _⟩
  · exact ⟨none, 0, by rw [h0]⟩
  · exact ⟨_, _, rfl⟩
theorem OwnL.fr {S : List Nat} (h : OwnL e size enc w v L) (hf : Fr S w w') (hs : ∀ g, v.ownBlock = some g → g ∉ S) : OwnL e size enc w' v L := by
  refine ⟨h.1, ?_⟩
  rcases h.2 with h0 | ⟨g, cap, cur, rfl, hb, hg, r⟩
  · exact .inl h0
  · exact .inr ⟨g, cap, cur, rfl, hb, (hf.block g (Array.getElem?_eq_some_iff.1 hg).1 (hs g rfl)).trans hg, r⟩
theorem OwnL.of_block (h : OwnL e size enc w v L) (hs : ∀ g, v.ownBlock = some g → w'.heap[g]? = w.heap[g]?) : OwnL e size enc w' v L := by
  refine ⟨h.1, ?_⟩
  rcases h.2 with h0 | ⟨g, cap, cur, rfl, hb, hg, r⟩
  · exact .inl h0
  · exact .inr ⟨g, cap, cur, rfl, hb, (hs g rfl).trans hg, r⟩
theorem OwnL.lt (h : OwnL e size enc w v L) {g : Nat} (hg : v.ownBlock = some g) : g < w.heap.size := (World.ownsRow.lt h g hg).2
/-- The row's block is no block of another type. -/
theorem OwnL.ne (h : OwnL e size enc w v L) {b tt : Nat} {cs : Array Value} (hb : Blk w b tt cs) (hne : e ≠ tt) {g : Nat} (hg : v.ownBlock = some g) : g ≠ b := by
  rcases h.2 with ⟨rfl, _⟩ | ⟨g', cap, cur, rfl, _, hh, _⟩
  · simp [Value.ownBlock] at hg
  · rintro rfl
    simp [Value.ownBlock] at hg
    subst hg
    unfold Blk at hb
    rw [hh] at hb
    injection hb with hb
    injection hb with _ ht
    exact hne ht
theorem flat_get (henc : ∀ x, (enc x).length = size) : ∀ (L : List X) (i : Nat) (h : i < L.length) (j : Nat), j < size → (L.flatMap enc)[i * size + j]? = (enc L[i])[j]?
  | x :: L, 0, _, j, hj => by
    rw [List.flatMap_cons, List.getElem?_append_left (by rw [henc]; omega)]
    simp
  | x :: L, i + 1, h, j, hj => by
    rw [List.flatMap_cons, List.getElem?_append_right (by rw [henc, Nat.add_mul]; omega), henc]
    rw [show (i + 1) * size + j - size = i * size + j from by rw [Nat.add_mul]; omega]
    exact flat_get henc L i (by simpa using h) j hj
theorem flat_len (henc : ∀ x, (enc x).length = size) (L : List X) : (L.flatMap enc).length = L.length * size := by
  induction L with
  | nil => simp
  | cons x L ih => simp [ih, henc, Nat.add_mul, Nat.add_comm]
/-- Where there are elements: the address, and each element's cells. -/
theorem OwnL.form (henc : ∀ x, (enc x).length = size) (h : OwnL e size enc w v L) (hn : 0 < L.length) : ∃ g cap, v = .slice (some ⟨g, 0, none⟩) L.length cap ∧ L.length ≤ cap ∧ cap ≤ maxLen ∧ g < w.heap.size ∧
    (∀ i (hi : i < L.length) j, j < size → w.cell? ⟨g, i * size + j, none⟩ = (enc L[i])[j]?) ∧ ∀ o, w.frozen? ⟨g, o, none⟩ = false := by
  rcases h.2 with ⟨rfl, h0⟩ | ⟨g, cap, cur, rfl, hb, hg, hnc, hcm, hcs, htk⟩
  · omega
  · refine ⟨g, cap, rfl, hnc, hcm, (Array.getElem?_eq_some_iff.1 hg).1, fun i hi j hj => ?_, fun o => by simp [World.frozen?, hg]⟩
    rw [cell_of_row w g _ cur e (0, 0) hg, ← flat_get henc L i hi j hj, ← htk, List.getElem?_take, if_pos]
    · simp
    · have : (i + 1) * size ≤ L.length * size := Nat.mul_le_mul_right _ hi
      rw [Nat.add_mul] at this
      omega
theorem OwnL.reads (h : OwnL e size enc w v L) {A : Option Addr} {n cap : Nat} (hv : v = .slice A n cap) : Reads w w.heap.size size A L.length (L.flatMap enc) := by
  obtain ⟨A', cap', h'⟩ := h.val
  rw [hv] at h'
  cases h'
  subst hv
  exact Reads.of_own h
/-- A field of an element is written. -/
theorem OwnL.set (henc : ∀ x, (enc x).length = size) (h : OwnL e size enc w v L) {g i j : Nat} (hg : v.ownBlock = some g) (hi : i < L.length) (hj : j < size) (u : Value) (x : X) (hx : enc x = (enc L[i]).set j u) :
    OwnL e size enc (w.setCell ⟨g, i * size + j, none⟩ u) v (L.set i x) := by
  have e1 : (L.set i x).flatMap enc = (L.flatMap enc).set (i * size + j) u := by
    apply List.ext_getElem?
    intro q
    have hl := flat_len henc L
    have hl' := flat_len henc (L.set i x)
    have hss : 0 < size := by omega
    by_cases hq : q < L.length * size
    · have hq1 : q / size < L.length := Nat.div_lt_of_lt_mul (by rw [Nat.mul_comm]; exact hq)
      have hq2 : q % size < size := Nat.mod_lt _ hss
      have hq3 : q / size * size + q % size = q := by rw [Nat.mul_comm]; exact Nat.div_add_mod q size
      have a1 := flat_get henc (L.set i x) (q / size) (by simpa using hq1) (q % size) hq2
      have a2 := flat_get henc L (q / size) hq1 (q % size) hq2
      rw [hq3] at a1 a2
      rw [a1, List.getElem?_set, a2]
      by_cases hqi : q / size = i
      · have : (L.set i x)[q / size]'(by simpa using hq1) = x := by simp [hqi]
        rw [this, hx]
        rw [List.getElem?_set]
        subst hqi
        by_cases hqj : j = q % size
        · subst hqj
          have e2 : q / size * size + q % size = q := hq3
          rw [if_pos rfl, e2, if_pos rfl, if_pos (by rw [henc]; exact hq2), if_pos (by rw [hl]; exact hq)]
        · have e2 : q / size * size + j ≠ q := fun e => hqj (Nat.add_left_cancel (e.trans hq3.symm))
          rw [if_neg hqj, if_neg e2]
      · have : (L.set i x)[q / size]'(by simpa using hq1) = L[q / size] := List.getElem_set_ne (fun e => hqi e.symm) _
        rw [this, if_neg]
        intro e
        apply hqi
        rw [← e, Nat.mul_comm, Nat.mul_add_div hss, Nat.div_eq_of_lt hj, Nat.add_zero]
    · rw [List.getElem?_eq_none (by rw [hl']; simpa using hq), List.getElem?_eq_none (by rw [List.length_set, hl]; omega)]
  refine ⟨by rw [flat_len henc], ?_⟩
  rcases h.2 with ⟨rfl, h0⟩ | ⟨g', cap, cur, rfl, hb, hgg, hnc, hcm, hcs, htk⟩
  · simp [Value.ownBlock] at hg
  · simp [Value.ownBlock] at hg
    subst hg
    refine .inr ⟨g', cap, cur.setIfInBounds (i * size + j) u, by simp, hb, ?_, by simpa using hnc, hcm, by simpa using hcs, ?_⟩
    · simp [World.setCell, Array.getElem?_modify, hgg]
    · rw [e1, ← htk, List.length_set, Array.toList_setIfInBounds, List.take_set]
/-- 'append' onto a row of the call's own. -/
theorem wpList_appendL {ops : Array Oper} {rest : List Oper} {o : Oper} {a : Act} {Q : Exit → Act → World → Prop} (hgd : o.guard = none) (s x : Operand)
    (ho : o.op = .call { callee := .builtin .append, args := #[s, x], argTypes := #[t, t] }) (T : ET P t e size bytes i0 z) (_henc : ∀ x, (enc x).length = size) (h1 : ∀ x, ∀ u ∈ enc x, u.oneCell' = true)
    (hs : a.eval s = v) (hown : OwnL e size enc w v L) (B : Nat) (A : Option Addr) (m c : Nat) (N : List X) (hx : a.eval x = .slice A m c) (hm : m = N.length) (hr : Reads w B size A m (N.flatMap enc))
    (h63 : L.length + N.length ≤ maxLen) (hbytes : (L.length + N.length) * bytes ≤ 140737488355328)
    (h : ∀ v' w', OwnL e size enc w' v' (L ++ N) → w.grownBy w' v.ownBlock → (v'.ownBlock = v.ownBlock ∨ v'.ownBlock = some w.heap.size) → wpList P ops Q rest (a.put o.dst v') w') : wpList P ops Q (o :: rest) a w := by
  subst hm
  refine wpList_append_any w hgd s x t ho 0 e i0 z size bytes T.ht T.hi T.hz T.hs T.hb T.hzs T.pos v L.length (L.flatMap enc) hs hown B A N.length c (N.flatMap enc) hx hr (fun u hu => ?_) h63 hbytes (Nat.zero_le _) (fun v' w' a1 a2 a3 => h v' w' ?_ a2 a3)
  · obtain ⟨y, hy, hu'⟩ := List.mem_flatMap.1 hu
    exact h1 y u hu'
  · unfold OwnL
    rw [List.length_append, List.flatMap_append]
    exact a1
theorem step_appendL {ops : Array Oper} {o : Oper} {a : Act} {K : Act → World → Prop} {Q : Exit → Act → World → Prop} {E : Prop} (hgd : o.guard = none) (s x : Operand)
    (ho : o.op = .call { callee := .builtin .append, args := #[s, x], argTypes := #[t, t] }) (T : ET P t e size bytes i0 z) (_henc : ∀ x, (enc x).length = size) (h1 : ∀ x, ∀ u ∈ enc x, u.oneCell' = true)
    (hs : a.eval s = v) (hown : OwnL e size enc w v L) (B : Nat) (A : Option Addr) (m c : Nat) (N : List X) (hx : a.eval x = .slice A m c) (hm : m = N.length) (hr : Reads w B size A m (N.flatMap enc))
    (h63 : L.length + N.length ≤ maxLen) (hbytes : (L.length + N.length) * bytes ≤ 140737488355328)
    (h : ∀ v' w', OwnL e size enc w' v' (L ++ N) → w.grownBy w' v.ownBlock → (v'.ownBlock = v.ownBlock ∨ v'.ownBlock = some w.heap.size) → K (a.put o.dst v') w') : if Region.wanted o (yielded ops a.tmps) = true then Oper.wp P o a w K Q else E := by
  subst hm
  refine step_append_any w hgd s x t ho 0 e i0 z size bytes T.ht T.hi T.hz T.hs T.hb T.hzs T.pos v L.length (L.flatMap enc) hs hown B A N.length c (N.flatMap enc) hx hr (fun u hu => ?_) h63 hbytes (Nat.zero_le _) (fun v' w' a1 a2 a3 => h v' w' ?_ a2 a3)
  · obtain ⟨y, hy, hu'⟩ := List.mem_flatMap.1 hu
    exact h1 y u hu'
  · unfold OwnL
    rw [List.length_append, List.flatMap_append]
    exact a1
/-- A one-element block just laid, as the source of an append. -/
theorem reads_new (w : World) (tt : Nat) (x : X) (hx : (enc x).length = size) : Reads (w.alloc (.cells (enc x).toArray tt)) (w.heap.size + 1) size (some ⟨w.heap.size, 0, none⟩) 1 ([x].flatMap enc) := by
  refine ⟨by simp [hx], fun _ => ⟨_, rfl, by simp, fun j u hu => ?_⟩⟩
  have hb := Blk.new w tt (enc x).toArray
  have hadd : (⟨w.heap.size, 0, none⟩ : Addr).add j = ⟨w.heap.size, j, none⟩ := by unfold Addr.add; split <;> simp_all
  rw [hadd, hb.cell]
  simpa using hu
end
end Go.Proofs.YthiaaminkfkjpaaGreat
namespace Go.Proofs.YthiaaminkfkjpaaGreat
open Go.RowKit

section
variable {X : Type} {w w' : World} {B size n : Nat} {A : Option Addr} {xs : List Value} {enc : X → List Value} {L : List X}
theorem Reads.take (h : Reads w B size A n xs) {k : Nat} (hk : k ≤ n) : Reads w B size A k (xs.take (k * size)) := by
  refine ⟨by rw [List.length_take, h.1]; exact Nat.min_eq_left (Nat.mul_le_mul_right _ hk), fun h0 => ?_⟩
  obtain ⟨ad, e, hb, hc⟩ := h.2 (by omega)
  refine ⟨ad, e, hb, fun j u hu => hc j u ?_⟩
  rw [List.getElem?_take] at hu
  split at hu
  · exact hu
  · cases hu
theorem flat_take (henc : ∀ x, (enc x).length = size) : ∀ (L : List X) (k : Nat), (L.take k).flatMap enc = (L.flatMap enc).take (k * size)
  | [], k => by simp
  | x :: L, 0 => by simp
  | x :: L, k + 1 => by
    rw [List.take_succ_cons, List.flatMap_cons, List.flatMap_cons, flat_take henc L k, List.take_append, henc]
    rw [List.take_of_length_le (i := (k + 1) * size) (by rw [henc, Nat.add_mul]; omega)]
    rw [show (k + 1) * size - size = k * size from by rw [Nat.add_mul]; omega]
theorem flat_drop (henc : ∀ x, (enc x).length = size) : ∀ (L : List X) (k : Nat), (L.drop k).flatMap enc = (L.flatMap enc).drop (k * size)
  | [], k => by simp
  | x :: L, 0 => by simp
  | x :: L, k + 1 => by
    rw [List.drop_succ_cons, List.flatMap_cons, flat_drop henc L k, List.drop_append, henc]
    rw [List.drop_eq_nil_of_le (i := (k + 1) * size) (by rw [henc, Nat.add_mul]; omega)]
    rw [show (k + 1) * size - size = k * size from by rw [Nat.add_mul]; omega]
    rfl
theorem Reads.takeL (henc : ∀ x, (enc x).length = size) (h : Reads w B size A n (L.flatMap enc)) {k : Nat} (hk : k ≤ n) : Reads w B size A k ((L.take k).flatMap enc) := by
  rw [flat_take henc]; exact h.take hk
theorem Reads.cutL (henc : ∀ x, (enc x).length = size) (h : Reads w B size A n (L.flatMap enc)) {k cap : Nat} (hk : k ≤ n) (hc : n ≤ cap) :
    Reads w B size (if cap = k then A else A.map (·.add (k * size))) (n - k) ((L.drop k).flatMap enc) := by
  rw [flat_drop henc]; exact h.cut hk hc
/-- No element is read, wherever. -/
theorem reads_none {w : World} {B size n : Nat} {A : Option Addr} (h : n = 0) : Reads w B size A n ([] : List Value) := ⟨by simp [h], fun hn => absurd hn (by omega)⟩
/-- The elements from place k on. -/
theorem Reads.from_ (henc : ∀ x, (enc x).length = size) {g : Nat} (h : Reads w B size (some ⟨g, 0, none⟩) L.length (L.flatMap enc)) {k off : Nat} (hk : k ≤ L.length) (ho : off = k * size) : Reads w B size (some ⟨g, off, none⟩) (L.length - k) ((L.drop k).flatMap enc) := by
  have h1 := h.cutL henc (k := k) (cap := L.length + 1) hk (by omega)
  rw [if_neg (by omega)] at h1
  subst ho
  have e1 : (⟨g, 0, none⟩ : Addr).add (k * size) = ⟨g, k * size, none⟩ := by unfold Addr.add; split <;> simp_all
  simpa only [Option.map_some, e1] using h1
end
end Go.Proofs.YthiaaminkfkjpaaGreat
namespace Go.Proofs.YthiaaminkfkjpaaGreat

structure Chg where
  t : Int
  k : Int
  had : Bool
  o0 : Int
  o1 : Int
  o2 : Int
  has : Bool
  n0 : Int
  n1 : Int
  n2 : Int
  deriving DecidableEq

/-- The cells of a change. -/
def Chg.cells (c : Chg) : List Value := [.int .i64 c.t, .int .i64 c.k, .bool c.had, .int .i64 c.o0, .int .i64 c.o1, .int .i64 c.o2, .bool c.has, .int .i64 c.n0, .int .i64 c.n1, .int .i64 c.n2]
theorem Chg.len (c : Chg) : c.cells.length = 10 := rfl
theorem Chg.one (c : Chg) : ∀ u ∈ c.cells, u.oneCell' = true := by
  intro u hu
  simp only [Chg.cells, List.mem_cons, List.not_mem_nil, or_false] at hu
  rcases hu with rfl | rfl | rfl | rfl | rfl | rfl | rfl | rfl | rfl | rfl <;> rfl

structure Rec where
  p : Int
  cs : List Chg
  deriving DecidableEq

namespace Rw
def inI (lo hi x : Int) : Bool := decide (lo ≤ x ∧ x ≤ hi)
def row (t k a b c : Int) : Bool := inI 0 3 t && inI 1 1000000 k && (inI (-1000000000) 1000000000 a && inI (-1000000000) 1000000000 b && inI (-1000000000) 1000000000 c)
def sound (t k : Int) (there : Bool) (a b c : Int) : Bool := if there = true then row t k a b c else decide (a = 0 ∧ b = 0 ∧ c = 0)
def differs (c : Chg) : Bool := decide (c.o0 ≠ c.n0 ∨ c.o1 ≠ c.n1 ∨ c.o2 ≠ c.n2)
def turns (c : Chg) : Bool := c.had != c.has || c.had && differs c
def chg (c : Chg) : Bool := turns c && sound c.t c.k c.had c.o0 c.o1 c.o2 && sound c.t c.k c.has c.n0 c.n1 c.n2
/-- Behind a change of table lt and key lk. -/
def behind (lt lk : Int) (c : Chg) : Bool := decide (lt < c.t ∨ (lt = c.t ∧ lk < c.k))
def chgs (lt lk : Int) : List Chg → Bool
  | [] => true
  | c :: cs => chg c && behind lt lk c && chgs c.t c.k cs
def valid (r : Rec) : Bool := inI 1 10000 r.p && inI 1 8 r.cs.length && chgs (-1) 0 r.cs
end Rw
end Go.Proofs.YthiaaminkfkjpaaGreat
