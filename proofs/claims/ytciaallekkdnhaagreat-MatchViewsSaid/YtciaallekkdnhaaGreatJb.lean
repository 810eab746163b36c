/-
  'append' onto a slice that has no room: the result is a row of the call's own.
-/
import Derived.Test.YtciaallekkdnhaaGreatJa
import Derived.Maps.AppendAt
import Derived.OwnWalk
import Derived.RegionTactic
import Derived.Deep.AppendSrc
namespace Go.Proofs.YtciaallekkdnhaaGreat
open Go.RowKit

theorem block_of_add (a : Addr) (n : Nat) : (a.add n).block = a.block := by unfold Addr.add; split <;> rfl
theorem add_of_add (a : Addr) (i j : Nat) : (a.add i).add j = a.add (i + j) := by
  unfold Addr.add
  by_cases hi : i = 0 <;> by_cases hj : j = 0 <;> simp [hi, hj, Nat.add_assoc]

def Reads (w : World) (B size : Nat) (A : Option Addr) (n : Nat) (xs : List Value) : Prop :=
  xs.length = n * size ∧ (0 < n → ∃ ad, A = some ad ∧ ad.block < B ∧ ∀ j u, xs[j]? = some u → w.cell? (ad.add j) = some u)

section
variable {w w' : World} {B B' size n : Nat} {A : Option Addr} {xs : List Value}
theorem Reads.none_ : Reads w B size A 0 [] := ⟨by simp, fun h => absurd h (by omega)⟩
theorem Reads.at_ {k : Nat} (h : Reads w B 1 A n xs) (hk : k < n) : ∃ ad u, A = some ad ∧ ad.block < B ∧ xs[k]? = some u ∧ w.cell? (ad.add k) = some u := by
  obtain ⟨ad, e, hb, hc⟩ := h.2 (by omega)
  have hl : k < xs.length := by have := h.1; omega
  exact ⟨ad, xs[k], e, hb, List.getElem?_eq_getElem hl, hc k _ (List.getElem?_eq_getElem hl)⟩
theorem Reads.keep (h : Reads w B size A n xs) (hk : ∀ p : Addr, p.block < B → w'.cell? p = w.cell? p) : Reads w' B size A n xs :=
  ⟨h.1, fun hn => by
    obtain ⟨ad, e, hb, hc⟩ := h.2 hn
    exact ⟨ad, e, hb, fun j u hu => (hk _ (by rw [block_of_add]; exact hb)).trans (hc j u hu)⟩⟩
theorem Reads.more (h : Reads w B size A n xs) (hB : B ≤ B') : Reads w B' size A n xs :=
  ⟨h.1, fun hn => by
    obtain ⟨ad, e, hb, hc⟩ := h.2 hn
    exact ⟨ad, e, by omega, hc⟩⟩
theorem Reads.below (h : Reads w B size A n xs) (hb : Below B w w') : Reads w' B size A n xs := h.keep fun _ hp => hb.cell hp
theorem Reads.drew (h : Reads w B size A n xs) : Reads w.drew B size A n xs := h
theorem Reads.drewN (h : Reads w B size A n xs) (k : Nat) : Reads (w.drewN k) B size A n xs := h
theorem Reads.alloc (h : Reads w B size A n xs) (hB : B ≤ w.heap.size) (o : Obj) : Reads (w.alloc o) B size A n xs := h.keep fun p hp => World.cell?_alloc_lt w o p (by omega)
theorem Reads.setCell (h : Reads w B size A n xs) {p : Addr} (hB : B ≤ p.block) (u : Value) : Reads (w.setCell p u) B size A n xs :=
  h.keep fun q hq => World.cell?_setCell_other w p q u (fun e => by subst e; omega)
theorem Reads.grown (h : Reads w B size A n xs) {row : Option Nat} (hg : w.grownBy w' row) (hB : B ≤ w.heap.size) (hr : ∀ g, row = some g → B ≤ g) : Reads w' B size A n xs :=
  h.keep fun p hp => World.cell?_of_block (hg.block p.block (by omega) (fun e => by have := hr _ e.symm; omega))
theorem Reads.cut (h : Reads w B size A n xs) {k cap : Nat} (hk : k ≤ n) (hc : n ≤ cap) :
    Reads w B size (if cap = k then A else A.map (·.add (k * size))) (n - k) (xs.drop (k * size)) := by
  refine ⟨by rw [List.length_drop, h.1, Nat.sub_mul], fun hn => ?_⟩
  obtain ⟨ad, rfl, hb, hcell⟩ := h.2 (by omega)
  rw [if_neg (by omega)]
  refine ⟨ad.add (k * size), rfl, by rw [block_of_add]; exact hb, fun j u hu => ?_⟩
  rw [add_of_add]
  exact hcell _ u (by rw [← hu, List.getElem?_drop])
theorem Reads.of_own {base : Nat} {e : TypeId} {c : Nat} (h : w.ownsRow base e size (.slice A n c) n xs) : Reads w w.heap.size size A n xs := by
  refine ⟨h.1, fun hn => ?_⟩
  obtain ⟨g, cap, hv, _, hlt⟩ := h.form hn
  have hA : A = some ⟨g, 0, none⟩ := by injection hv
  subst hA
  exact ⟨_, rfl, hlt, h.cells (g := g) rfl⟩
end

section
variable {P : Program} (w : World)

theorem run_append_of_nil (base : Nat) (t ty e : TypeId) (i : TypeInfo) (size : Nat) (ht : P.underlying t = some (.slice e)) (hi : P.info? e = some i)
    (v : Value) (n : Nat) (xs : List Value) (hown : w.ownsRow base e size v n xs) (c : Nat) : (Builtin.append_ #[t, t] ty #[v, .slice none 0 c]).run P w = .ok v w := by
  rcases hown.2 with ⟨rfl, rfl⟩ | ⟨g, cap, cur, rfl, _, _, hnc, _⟩
  · simp [Builtin.append_, run_underlying ht, sizeOf, typeInfo, hi, Builtin.lenOf, Builtin.firstCells]
  · simp [Builtin.append_, run_underlying ht, sizeOf, typeInfo, hi, Builtin.lenOf, Builtin.firstCells, hnc, storeCells]

theorem run_append_any (base : Nat) (t ty e : TypeId) (i : TypeInfo) (z : Value) (size bytes : Nat) (ht : P.underlying t = some (.slice e)) (hi : P.info? e = some i) (hz : i.zero = some z)
    (hsize : i.size = size) (hby : i.bytes = bytes) (hzs : z.cells.size = size) (hsz : 0 < size)
    (v : Value) (n : Nat) (xs : List Value) (hown : w.ownsRow base e size v n xs)
    (B : Nat) (A : Option Addr) (m c : Nat) (news : List Value) (hr : Reads w B size A m news) (h1 : ∀ u ∈ news, u.oneCell' = true)
    (h63 : n + m ≤ maxLen) (hbytes : (n + m) * bytes ≤ 140737488355328) (hbase : base ≤ w.heap.size) :
    ∃ v' w', (Builtin.append_ #[t, t] ty #[v, .slice A m c]).run P w = .ok v' w' ∧ w'.ownsRow base e size v' (n + m) (xs ++ news) ∧ w.grownBy w' v.ownBlock ∧
      (v'.ownBlock = v.ownBlock ∨ v'.ownBlock = some w.heap.size) := by
  rcases A with _ | ad
  · have hm : m = 0 := by
      rcases Nat.eq_zero_or_pos m with h0 | h0
      · exact h0
      · obtain ⟨ad, h, _⟩ := hr.2 h0
        cases h
    subst hm
    have hn : news = [] := List.eq_nil_of_length_eq_zero (by simpa using hr.1)
    subst hn
    exact ⟨v, w, run_append_of_nil w base t ty e i size ht hi v n xs hown c, by simpa using hown, World.grownBy.refl w _, .inl rfl⟩
  · have hcells : ∀ j u, news[j]? = some u → w.cell? (ad.add j) = some u := by
      intro j u hu
      rcases Nat.eq_zero_or_pos m with h0 | h0
      · subst h0
        have hn : news = [] := List.eq_nil_of_length_eq_zero (by simpa using hr.1)
        subst hn
        simp at hu
      · obtain ⟨ad', h, _, hc⟩ := hr.2 h0
        injection h with h
        subst h
        exact hc j u hu
    obtain ⟨v', w', hrun, h2, h3, _, h5⟩ := run_append_own_at (P := P) w base t ty e i z size bytes ht hi hz hsize hby hzs hsz v n xs hown ad m c news hr.1 hcells h1 h63 hbytes hbase
    exact ⟨v', w', hrun, h2, h3, h5⟩

theorem wp_append_any {o : Oper} {a : Act} {K : Act → World → Prop} {Q : Exit → Act → World → Prop} (s x : Operand) (t : TypeId)
    (ho : o.op = .call { callee := .builtin .append, args := #[s, x], argTypes := #[t, t] })
    (base : Nat) (e : TypeId) (i : TypeInfo) (z : Value) (size bytes : Nat) (ht : P.underlying t = some (.slice e)) (hi : P.info? e = some i) (hz : i.zero = some z)
    (hsize : i.size = size) (hby : i.bytes = bytes) (hzs : z.cells.size = size) (hsz : 0 < size)
    (v : Value) (n : Nat) (xs : List Value) (hs : a.eval s = v) (hown : w.ownsRow base e size v n xs)
    (B : Nat) (A : Option Addr) (m c : Nat) (news : List Value) (hx : a.eval x = .slice A m c) (hr : Reads w B size A m news) (h1 : ∀ u ∈ news, u.oneCell' = true)
    (h63 : n + m ≤ maxLen) (hbytes : (n + m) * bytes ≤ 140737488355328) (hbase : base ≤ w.heap.size)
    (h : ∀ v' w', w'.ownsRow base e size v' (n + m) (xs ++ news) → w.grownBy w' v.ownBlock → (v'.ownBlock = v.ownBlock ∨ v'.ownBlock = some w.heap.size) → K (a.put o.dst v') w') : o.wp P a w K Q := by
  obtain ⟨v', w', hrun, h2, h3, h4⟩ := run_append_any (P := P) w base t o.type e i z size bytes ht hi hz hsize hby hzs hsz v n xs hown B A m c news hr h1 h63 hbytes hbase
  unfold Oper.wp execOp
  simp only [ho, resolve, invoke, builtin, Sem.run_bind, Sem.run_pure, Result.andThen_ok, List.map_toArray, List.map_cons, List.map_nil, hs, hx, hrun]
  exact h v' w' h2 h3 h4

theorem wpList_append_any {ops : Array Oper} {rest : List Oper} {o : Oper} {a : Act} {Q : Exit → Act → World → Prop} (hgd : o.guard = none) (s x : Operand) (t : TypeId)
    (ho : o.op = .call { callee := .builtin .append, args := #[s, x], argTypes := #[t, t] })
    (base : Nat) (e : TypeId) (i : TypeInfo) (z : Value) (size bytes : Nat) (ht : P.underlying t = some (.slice e)) (hi : P.info? e = some i) (hz : i.zero = some z)
    (hsize : i.size = size) (hby : i.bytes = bytes) (hzs : z.cells.size = size) (hsz : 0 < size)
    (v : Value) (n : Nat) (xs : List Value) (hs : a.eval s = v) (hown : w.ownsRow base e size v n xs)
    (B : Nat) (A : Option Addr) (m c : Nat) (news : List Value) (hx : a.eval x = .slice A m c) (hr : Reads w B size A m news) (h1 : ∀ u ∈ news, u.oneCell' = true)
    (h63 : n + m ≤ maxLen) (hbytes : (n + m) * bytes ≤ 140737488355328) (hbase : base ≤ w.heap.size)
    (h : ∀ v' w', w'.ownsRow base e size v' (n + m) (xs ++ news) → w.grownBy w' v.ownBlock → (v'.ownBlock = v.ownBlock ∨ v'.ownBlock = some w.heap.size) → wpList P ops Q rest (a.put o.dst v') w') : wpList P ops Q (o :: rest) a w :=
  wpList_plain hgd fun _ hK => wp_append_any w s x t ho base e i z size bytes ht hi hz hsize hby hzs hsz v n xs hs hown B A m c news hx hr h1 h63 hbytes hbase fun v' w' h2 h3 h4 => hK _ _ (h v' w' h2 h3 h4)

theorem step_append_any {ops : Array Oper} {o : Oper} {a : Act} {K : Act → World → Prop} {Q : Exit → Act → World → Prop} {E : Prop} (hgd : o.guard = none) (s x : Operand) (t : TypeId)
    (ho : o.op = .call { callee := .builtin .append, args := #[s, x], argTypes := #[t, t] })
    (base : Nat) (e : TypeId) (i : TypeInfo) (z : Value) (size bytes : Nat) (ht : P.underlying t = some (.slice e)) (hi : P.info? e = some i) (hz : i.zero = some z)
    (hsize : i.size = size) (hby : i.bytes = bytes) (hzs : z.cells.size = size) (hsz : 0 < size)
    (v : Value) (n : Nat) (xs : List Value) (hs : a.eval s = v) (hown : w.ownsRow base e size v n xs)
    (B : Nat) (A : Option Addr) (m c : Nat) (news : List Value) (hx : a.eval x = .slice A m c) (hr : Reads w B size A m news) (h1 : ∀ u ∈ news, u.oneCell' = true)
    (h63 : n + m ≤ maxLen) (hbytes : (n + m) * bytes ≤ 140737488355328) (hbase : base ≤ w.heap.size)
    (h : ∀ v' w', w'.ownsRow base e size v' (n + m) (xs ++ news) → w.grownBy w' v.ownBlock → (v'.ownBlock = v.ownBlock ∨ v'.ownBlock = some w.heap.size) → K (a.put o.dst v') w') :
    if Region.wanted o (yielded ops a.tmps) = true then Oper.wp P o a w K Q else E := by
  have hw : Region.wanted o (yielded ops a.tmps) = true := by simp [Region.wanted, hgd]
  rw [if_pos hw]
  exact wp_append_any w s x t ho base e i z size bytes ht hi hz hsize hby hzs hsz v n xs hs hown B A m c news hx hr h1 h63 hbytes hbase h
end

theorem Reads.fr {w w' : World} {B size n : Nat} {A : Option Addr} {xs : List Value} {S : List Nat} (h : Reads w B size A n xs) (hB : B ≤ w.heap.size) (hf : Fr S w w') (hs : ∀ ad, A = some ad → ad.block ∉ S) : Reads w' B size A n xs :=
  ⟨h.1, fun hn => by
    obtain ⟨ad, e, hb, hc⟩ := h.2 hn
    exact ⟨ad, e, hb, fun j u hu => (hf.cell (by rw [block_of_add]; omega) (by rw [block_of_add]; exact hs ad e)).trans (hc j u hu)⟩⟩

/-- An element type: its slice type t, its own number e, its cells, its bytes. -/
structure ET (P : Program) (t e size bytes : Nat) (i : TypeInfo) (z : Value) : Prop where
  ht : P.underlying t = some (.slice e)
  hi : P.info? e = some i
  hz : i.zero = some z
  hs : i.size = size
  hb : i.bytes = bytes
  hzs : z.cells.size = size
  pos : 0 < size

/-- v is nil, or the head of a row that holds the elements L. -/
def OwnL {X : Type} (e size : Nat) (enc : X → List Value) (w : World) (v : Value) (L : List X) : Prop := w.ownsRow 0 e size v L.length (L.flatMap enc)

section
variable {X : Type} {P : Program} {t e size bytes : Nat} {i0 : TypeInfo} {z : Value} {enc : X → List Value} {w w' : World} {v : Value} {L : List X}
theorem OwnL.nil : OwnL e size enc w (.slice none 0 0) ([] : List X) := World.ownsRow_nil _ _ _ _
theorem OwnL.val (h : OwnL e size enc w v L) : ∃ A cap, v = .slice A L.length cap := by
  rcases h.2 with ⟨rfl, h0⟩ | ⟨g, cap, cur, rfl, _⟩
  · exact ⟨none, 0, by rw [h0]⟩
  · exact ⟨_, _, rfl⟩
theorem OwnL.fr {S : List Nat} (h : OwnL e size enc w v L) (hf : Fr S w w') (hs : ∀ g, v.ownBlock = some g → g ∉ S) : OwnL e size enc w' v L := by
  refine ⟨h.1, ?_⟩
  rcases h.2 with h0 | ⟨g, cap, cur, rfl, hb, hg, r⟩
  · exact .inl h0
  · exact .inr ⟨g, cap, cur, rfl, hb, (hf.block g (Array.getElem?_eq_some_iff.1 hg).1 (hs g rfl)).trans hg, r⟩
theorem OwnL.of_block (h : OwnL e size enc w v L) (hs : ∀ g, v.ownBlock = some g → w'.heap[g]? = w.heap[g]?) : OwnL e size enc w' v L := by
  refine ⟨h.1, ?_⟩
  rcases h.2 with h0 | ⟨g, cap, cur, rfl, hb, hg, r⟩
  · exact .inl h0
  · exact .inr ⟨g, cap, cur, rfl, hb, (hs g rfl).trans hg, r⟩
theorem OwnL.lt (h : OwnL e size enc w v L) {g : Nat} (hg : v.ownBlock = some g) : g < w.heap.size := (World.ownsRow.lt h g hg).2
/-- The row's block is no block of another type. -/
theorem OwnL.ne (h : OwnL e size enc w v L) {b tt : Nat} {cs : Array Value} (hb : Blk w b tt cs) (hne : e ≠ tt) {g : Nat} (hg : v.ownBlock = some g) : g ≠ b := by
  rcases h.2 with ⟨rfl, _⟩ | ⟨g', cap, cur, rfl, _, hh, _⟩
  · simp [Value.ownBlock] at hg
  · rintro rfl
    simp [Value.ownBlock] at hg
    subst hg
    unfold Blk at hb
    rw [hh] at hb
    injection hb with hb
    injection hb with _ ht
    exact hne ht
theorem flat_get (henc : ∀ x, (enc x).length = size) : ∀ (L : List X) (i : Nat) (h : i < L.length) (j : Nat), j < size → (L.flatMap enc)[i * size + j]? = (enc L[i])[j]?
  | x :: L, 0, _, j, hj => by
    rw [List.flatMap_cons, List.getElem?_append_left (by rw [henc]; omega)]
    simp
  | x :: L, i + 1, h, j, hj => by
    rw [List.flatMap_cons, List.getElem?_append_right (by rw [henc, Nat.add_mul]; omega), henc]
    rw [show (i + 1) * size + j - size = i * size + j from by rw [Nat.add_mul]; omega]
    exact flat_get henc L i (by simpa using h) j hj
theorem flat_len (henc : ∀ x, (enc x).length = size) (L : List X) : (L.flatMap enc).length = L.length * size := by
  induction L with
  | nil => simp
  | cons x L ih => simp [ih, henc, Nat.add_mul, Nat.add_comm]
/-- Where there are elements: the address, and each element's cells. -/
theorem OwnL.form (henc : ∀ x, (enc x).length = size) (h : OwnL e size enc w v L) (hn : 0 < L.length) : ∃ g cap, v = .slice (some ⟨g, 0, none⟩) L.length cap ∧ L.length ≤ cap ∧ cap ≤ maxLen ∧ g < w.heap.size ∧
    (∀ i (hi : i < L.length) j, j < size → w.cell? ⟨g, i * size + j, none⟩ = (enc L[i])[j]?) ∧ ∀ o, w.frozen? ⟨g, o, none⟩ = false := by
  rcases h.2 with ⟨rfl, h0⟩ | ⟨g, cap, cur, rfl, hb, hg, hnc, hcm, hcs, htk⟩
  · omega
  · refine ⟨g, cap, rfl, hnc, hcm, (Array.getElem?_eq_some_iff.1 hg).1, fun i hi j hj => ?_, fun o => by simp [World.frozen?, hg]⟩
    rw [cell_of_row w g _ cur e (0, 0) hg, ← flat_get henc L i hi j hj, ← htk, List.getElem?_take, if_pos]
    · simp
    · have : (i + 1) * size ≤ L.length * size := Nat.mul_le_mul_right _ hi
      rw [Nat.add_mul] at this
      omega
theorem OwnL.reads (h : OwnL e size enc w v L) {A : Option Addr} {n cap : Nat} (hv : v = .slice A n cap) : Reads w w.heap.size size A L.length (L.flatMap enc) := by
  obtain ⟨A', cap', h'⟩ := h.val
  rw [hv] at h'
  cases h'
  subst hv
  exact Reads.of_own h
/-- A field of an element is written. -/
theorem OwnL.set (henc : ∀ x, (enc x).length = size) (h : OwnL e size enc w v L) {g i j : Nat} (hg : v.ownBlock = some g) (hi : i < L.length) (hj : j < size) (u : Value) (x : X) (hx : enc x = (enc L[i]).set j u) :
    OwnL e size enc (w.setCell ⟨g, i * size + j, none⟩ u) v (L.set i x) := by
  have e1 : (L.set i x).flatMap enc = (L.flatMap enc).set (i * size + j) u := by
    apply List.ext_getElem?
    intro q
    have hl := flat_len henc L
    have hl' := flat_len henc (L.set i x)
    have hss : 0 < size := by omega
    by_cases hq : q < L.length * size
    · have hq1 : q / size < L.length := Nat.div_lt_of_lt_mul (by rw [Nat.mul_comm]; exact hq)
      have hq2 : q % size < size := Nat.mod_lt _ hss
      have hq3 : q / size * size + q % size = q := by rw [Nat.mul_comm]; exact Nat.div_add_mod q size
      have a1 := flat_get henc (L.set i x) (q / size) (by simpa using hq1) (q % size) hq2
      have a2 := flat_get henc L (q / size) hq1 (q % size) hq2
      rw [hq3] at a1 a2
      rw [a1, List.getElem?_set, a2]
      by_cases hqi : q / size = i
      · have : (L.set i x)[q / size]'(by simpa using hq1) = x := by simp [hqi]
        rw [this, hx]
        rw [List.getElem?_set]
        subst hqi
        by_cases hqj : j = q % size
        · subst hqj
          have e2 : q / size * size + q % size = q := hq3
          rw [if_pos rfl, e2, if_pos rfl, if_pos (by rw [henc]; exact hq2), if_pos (by rw [hl]; exact hq)]
        · have e2 : q / size * size + j ≠ q := fun e => hqj (Nat.add_left_cancel (e.trans hq3.symm))
          rw [if_neg hqj, if_neg e2]
      · have : (L.set i x)[q / size]'(by simpa using hq1) = L[q / size] := List.getElem_set_ne (fun e => hqi e.symm) _
        rw [this, if_neg]
        intro e
        apply hqi
        rw [← e, Nat.mul_comm, Nat.mul_add_div hss, Nat.div_eq_of_lt hj, Nat.add_zero]
    · rw [List.getElem?_eq_none (by rw [hl']; simpa using hq), List.getElem?_eq_none (by rw [List.length_set, hl]; omega)]
  refine ⟨by rw [flat_len henc], ?_⟩
  rcases h.2 with ⟨rfl, h0⟩ | ⟨g', cap, cur, rfl, hb, hgg, hnc, hcm, hcs, htk⟩
  · simp [Value.ownBlock] at hg
  · simp [Value.ownBlock] at hg
    subst hg
    refine .inr ⟨g', cap, cur.setIfInBounds (i * size + j) u, by simp, hb, ?_, by simpa using hnc, hcm, by simpa using hcs, ?_⟩
    · simp [World.setCell, Array.getElem?_modify, hgg]
    · rw [e1, ← htk, List.length_set, Array.toList_setIfInBounds, List.take_set]
/-- 'append' onto a row of the call's own. -/
theorem wpList_appendL {ops : Array Oper} {rest : List Oper} {o : Oper} {a : Act} {Q : Exit → Act → World → Prop} (hgd : o.guard = none) (s x : Operand)
    (ho : o.op = .call { callee := .builtin .append, args := #[s, x], argTypes := #[t, t] }) (T : ET P t e size bytes i0 z) (_henc : ∀ x, (enc x).length = size) (h1 : ∀ x, ∀ u ∈ enc x, u.oneCell' = true)
    (hs : a.eval s = v) (hown : OwnL e size enc w v L) (B : Nat) (A : Option Addr) (m c : Nat) (N : List X) (hx : a.eval x = .slice A m c) (hm : m = N.length) (hr : Reads w B size A m (N.flatMap enc))
    (h63 : L.length + N.length ≤ maxLen) (hbytes : (L.length + N.length) * bytes ≤ 140737488355328)
    (h : ∀ v' w', OwnL e size enc w' v' (L ++ N) → w.grownBy w' v.ownBlock → (v'.ownBlock = v.ownBlock ∨ v'.ownBlock = some w.heap.size) → wpList P ops Q rest (a.put o.dst v') w') : wpList P ops Q (o :: rest) a w := by
  subst hm
  refine wpList_append_any w hgd s x t ho 0 e i0 z size bytes T.ht T.hi T.hz T.hs T.hb T.hzs T.pos v L.length (L.flatMap enc) hs hown B A N.length c (N.flatMap enc) hx hr (fun u hu => ?_) h63 hbytes (Nat.zero_le _) (fun v' w' a1 a2 a3 => h v' w' ?_ a2 a3)
  · obtain ⟨y, hy, hu'⟩ := List.mem_flatMap.1 hu
    exact h1 y u hu'
  · unfold OwnL
    rw [List.length_append, List.flatMap_append]
    exact a1
theorem step_appendL {ops : Array Oper} {o : Oper} {a : Act} {K : Act → World → Prop} {Q : Exit → Act → World → Prop} {E : Prop} (hgd : o.guard = none) (s x : Operand)
    (ho : o.op = .call { callee := .builtin .append, args := #[s, x], argTypes := #[t, t] }) (T : ET P t e size bytes i0 z) (_henc : ∀ x, (enc x).length = size) (h1 : ∀ x, ∀ u ∈ enc x, u.oneCell' = true)
    (hs : a.eval s = v) (hown : OwnL e size enc w v L) (B : Nat) (A : Option Addr) (m c : Nat) (N : List X) (hx : a.eval x = .slice A m c) (hm : m = N.length) (hr : Reads w B size A m (N.flatMap enc))
    (h63 : L.length + N.length ≤ maxLen) (hbytes : (L.length + N.length) * bytes ≤ 140737488355328)
    (h : ∀ v' w', OwnL e size enc w' v' (L ++ N) → w.grownBy w' v.ownBlock → (v'.ownBlock = v.ownBlock ∨ v'.ownBlock = some w.heap.size) → K (a.put o.dst v') w') : if Region.wanted o (yielded ops a.tmps) = true then Oper.wp P o a w K Q else E := by
  subst hm
  refine step_append_any w hgd s x t ho 0 e i0 z size bytes T.ht T.hi T.hz T.hs T.hb T.hzs T.pos v L.length (L.flatMap enc) hs hown B A N.length c (N.flatMap enc) hx hr (fun u hu => ?_) h63 hbytes (Nat.zero_le _) (fun v' w' a1 a2 a3 => h v' w' ?_ a2 a3)
  · obtain ⟨y, hy, hu'⟩ := List.mem_flatMap.1 hu
    exact h1 y u hu'
  · unfold OwnL
    rw [List.length_append, List.flatMap_append]
    exact a1
/-- A one-element block just laid, as the source of an append. -/
theorem reads_new (w : World) (tt : Nat) (x : X) (hx : (enc x).length = size) : Reads (w.alloc (.cells (enc x).toArray tt)) (w.heap.size + 1) size (some ⟨w.heap.size, 0, none⟩) 1 ([x].flatMap enc) := by
  refine ⟨by simp [hx], fun _ => ⟨_, rfl, by simp, fun j u hu => ?_⟩⟩
  have hb := Blk.new w tt (enc x).toArray
  have hadd : (⟨w.heap.size, 0, none⟩ : Addr).add j = ⟨w.heap.size, j, none⟩ := by unfold Addr.add; split <;> simp_all
  rw [hadd, hb.cell]
  simpa using hu
end
end Go.Proofs.YtciaallekkdnhaaGreat
namespace Go.Proofs.YtciaallekkdnhaaGreat
open Go.RowKit

section
variable {X : Type} {w w' : World} {B size n : Nat} {A : Option Addr} {xs : List Value} {enc : X → List Value} {L : List X}
theorem Reads.take (h : Reads w B size A n xs) {k : Nat} (hk : k ≤ n) : Reads w B size A k (xs.take (k * size)) := by
  refine ⟨by rw [List.length_take, h.1]; exact Nat.min_eq_left (Nat.mul_le_mul_right _ hk), fun h0 => ?_⟩
  obtain ⟨ad, e, hb, hc⟩ := h.2 (by omega)
  refine ⟨ad, e, hb, fun j u hu => hc j u ?_⟩
  rw [List.getElem?_take] at hu
  split at hu
  · exact hu
  · cases hu
theorem flat_take (henc : ∀ x, (enc x).length = size) : ∀ (L : List X) (k : Nat), (L.take k).flatMap enc = (L.flatMap enc).take (k * size)
  | [], k => by simp
  | x :: L, 0 => by simp
  | x :: L, k + 1 => by
    rw [List.take_succ_cons, List.flatMap_cons, List.flatMap_cons, flat_take henc L k, List.take_append, henc]
    rw [List.take_of_length_le (i := (k + 1) * size) (by rw [henc, Nat.add_mul]; omega)]
    rw [show (k + 1) * size - size = k * size from by rw [Nat.add_mul]; omega]
theorem flat_drop (henc : ∀ x, (enc x).length = size) : ∀ (L : List X) (k : Nat), (L.drop k).flatMap enc = (L.flatMap enc).drop (k * size)
  | [], k => by simp
  | x :: L, 0 => by simp
  | x :: L, k + 1 => by
    rw [List.drop_succ_cons, List.flatMap_cons, flat_drop henc L k, List.drop_append, henc]
    rw [List.drop_eq_nil_of_le (i := (k + 1) * size) (by rw [henc, Nat.add_mul]; omega)]
    rw [show (k + 1) * size - size = k * size from by rw [Nat.add_mul]; omega]
    rfl
theorem Reads.takeL (henc : ∀ x, (enc x).length = size) (h : Reads w B size A n (L.flatMap enc)) {k : Nat} (hk : k ≤ n) : Reads w B size A k ((L.take k).flatMap enc) := by
  rw [flat_take henc]; exact h.take hk
theorem Reads.cutL (henc : ∀ x, (enc x).length = size) (h : Reads w B size A n (L.flatMap enc)) {k cap : Nat} (hk : k ≤ n) (hc : n ≤ cap) :
    Reads w B size (if cap = k then A else A.map (·.add (k * size))) (n - k) ((L.drop k).flatMap enc) := by
  rw [flat_drop henc]; exact h.cut hk hc
/-- No element is read, wherever. -/
theorem reads_none {w : World} {B size n : Nat} {A : Option Addr} (h : n = 0) : Reads w B size A n ([] : List Value) := ⟨by simp [h], fun hn => absurd hn (by omega)⟩
/-- The elements from place k on. -/
theorem Reads.from_ (henc : ∀ x, (enc x).length = size) {g : Nat} (h : Reads w B size (some ⟨g, 0, none⟩) L.length (L.flatMap enc)) {k off : Nat} (hk : k ≤ L.length) (ho : off = k * size) : Reads w B size (some ⟨g, off, none⟩) (L.length - k) ((L.drop k).flatMap enc) := by
  have h1 := h.cutL henc (k := k) (cap := L.length + 1) hk (by omega)
  rw [if_neg (by omega)] at h1
  subst ho
  have e1 : (⟨g, 0, none⟩ : Addr).add (k * size) = ⟨g, k * size, none⟩ := by unfold Addr.add; split <;> simp_all
  simpa only [Option.map_some, e1] using h1
end
end Go.Proofs.YtciaallekkdnhaaGreat
namespace Go.Proofs.YtciaallekkdnhaaGreat

structure Chg where
  t : Int
  k : Int
  had : Bool
  o0 : Int
  o1 : Int
  o2 : Int
  has : Bool
  n0 : Int
  n1 : Int
  n2 : Int
  deriving DecidableEq

/-- The cells of a change. -/
def Chg.cells (c : Chg) : List Value := [.int .i64 c.t, .int .i64 c.k, .bool c.had, .int .i64 c.o0, .int .i64 c.o1, .int .i64 c.o2, .bool c.has, .int .i64 c.n0, .int .i64 c.n1, .int .i64 c.n2]
theorem Chg.len (c : Chg) : c.cells.length = 10 := rfl
theorem Chg.one (c : Chg) : ∀ u ∈ c.cells, u.oneCell' = true := by
  intro u hu
  simp only [Chg.cells, List.mem_cons, List.not_mem_nil, or_false] at hu
  rcases hu with rfl | rfl | rfl | rfl | rfl | rfl | rfl | rfl | rfl | rfl <;> rfl

structure Rec where
  p : Int
  cs : List Chg
  deriving DecidableEq

namespace Rw
def inI (lo hi x : Int) : Bool := decide (lo ≤ x ∧ x ≤ hi)
def row (t k a b c : Int) : Bool := inI 0 3 t && inI 1 1000000 k && (inI (-1000000000) 1000000000 a && inI (-1000000000) 1000000000 b && inI (-1000000000) 1000000000 c)
def sound (t k : Int) (there : Bool) (a b c : Int) : Bool := if there = true then row t k a b c else decide (a = 0 ∧ b = 0 ∧ c = 0)
def differs (c : Chg) : Bool := decide (c.o0 ≠ c.n0 ∨ c.o1 ≠ c.n1 ∨ c.o2 ≠ c.n2)
def turns (c : Chg) : Bool := c.had != c.has || c.had && differs c
def chg (c : Chg) : Bool := turns c && sound c.t c.k c.had c.o0 c.o1 c.o2 && sound c.t c.k c.has c.n0 c.n1 c.n2
/-- Behind a change of table lt and key lk. -/
def behind (lt lk : Int) (c : Chg) : Bool := decide (lt < c.t ∨ (lt = c.t ∧ lk < c.k))
def chgs (lt lk : Int) : List Chg → Bool
  | [] => true
  | c :: cs => chg c && behind lt lk c && chgs c.t c.k cs
def valid (r : Rec) : Bool := inI 1 10000 r.p && inI 1 8 r.cs.length && chgs (-1) 0 r.cs
end Rw
end Go.Proofs.YtciaallekkdnhaaGreat
namespace Go.Proofs.YtciaallekkdnhaaGreat

/-- A row. -/
structure RowV where
  t : Int
  k : Int
  x : Int
  y : Int
  z : Int
  deriving DecidableEq
@[reducible] def RowV.val (r : RowV) : Value := .agg #[.int .i64 r.t, .int .i64 r.k, .int .i64 r.x, .int .i64 r.y, .int .i64 r.z]
/-- What identifies a row: integers that fit. -/
abbrev IdK := { x : Int × Int // okI x.1 ∧ okI x.2 }
@[reducible] def IdK.val (x : IdK) : Value := .agg #[.int .i64 x.1.1, .int .i64 x.1.2]

instance (x : Int) : Decidable (okI x) := inferInstanceAs (Decidable ((Lit.int .i64 x).wf = true))
/-- The key that a change is about. -/
def idOf (t k : Int) : IdK := if h : okI t ∧ okI k then ⟨(t, k), h⟩ else ⟨(0, 0), okI_mk (by decide) (by decide), okI_mk (by decide) (by decide)⟩
theorem idOf_val {t k : Int} (h1 : okI t) (h2 : okI k) : (idOf t k).1 = (t, k) := by
  unfold idOf
  rw [dif_pos ⟨h1, h2⟩]

namespace Sm
structure Sta where
  M : List (IdK × RowV)
  pos : Int

def new : Sta := ⟨[], 0⟩
/-- Whether a change meets what is there. -/
def meets (M : List (IdK × RowV)) (c : Chg) : Bool := match mget M (idOf c.t c.k) with
  | some r => c.had && decide (r.x = c.o0 ∧ r.y = c.o1 ∧ r.z = c.o2)
  | none => !c.had
def grow (n : Int) (c : Chg) : Int := (if c.had = true then n - 1 else n) + (if c.has = true then 1 else 0)
def after (c : Chg) : RowV := ⟨c.t, c.k, c.n0, c.n1, c.n2⟩
def put1 (M : List (IdK × RowV)) (c : Chg) : List (IdK × RowV) := if c.has = true then mput M (idOf c.t c.k) (after c) else mdel M (idOf c.t c.k)
/-- The changes' part of 'fits', from a size on. -/
def fitsGo (M : List (IdK × RowV)) (n : Int) : List Chg → Bool
  | [] => decide (n ≤ 2000)
  | c :: cs => meets M c && fitsGo M (grow n c) cs
def fits (s : Sta) (r : Rec) : Bool := Rw.valid r && decide (r.p = s.pos + 1) && fitsGo s.M s.M.length r.cs
def apply (s : Sta) (r : Rec) : Sta := if fits s r = true then ⟨r.cs.foldl put1 s.M, r.p⟩ else s
def code (s : Sta) (r : Rec) : Int := if fits s r = true then 0 else 40
/-- What a state keeps to. -/
structure Ok (s : Sta) : Prop where
  p0 : 0 ≤ s.pos
  p1 : s.pos ≤ 10000
  nd : Nd s.M
  key : ∀ e ∈ s.M, e.1.1 = (e.2.t, e.2.k)
  len : s.M.length ≤ 2000
end Sm
end Go.Proofs.YtciaallekkdnhaaGreat
namespace Go.Proofs.YtciaallekkdnhaaGreat
open Go.RowKit

section
variable {P : Program} (w : World)
theorem run_append_full (t ty e : TypeId) (i : TypeInfo) (z : Value) (size bytes : Nat) (ht : P.underlying t = some (.slice e)) (hi : P.info? e = some i) (hz : i.zero = some z)
    (hsize : i.size = size) (hby : i.bytes = bytes) (hzs : z.cells.size = size)
    (B0 : Nat) (A0 : Option Addr) (n m sc : Nat) (xs : List Value) (h0 : Reads w B0 size A0 n xs) (hm : 0 < m) (hscn : sc ≤ n)
    (B : Nat) (A : Option Addr) (c : Nat) (news : List Value) (hr : Reads w B size A m news) (h1 : ∀ u ∈ news, u.oneCell' = true) (h63 : n + m ≤ maxLen) (hbytes : (n + m) * bytes ≤ 140737488355328) :
    ∃ v' w', (Builtin.append_ #[t, t] ty #[.slice A0 n sc, .slice A m c]).run P w = .ok v' w' ∧ w'.ownsRow 0 e size v' (n + m) (xs ++ news) ∧ w.grownBy w' none ∧ v'.ownBlock = some w.heap.size := by
  subst hsize
  subst hby

  obtain ⟨ad, rfl, hab, hac⟩ := hr.2 hm
  have hs : Src P i.size t (.slice (some ad) m c) m news w := Src.ofSlice w ht ad m c news hr.1 hac h1
  have hold : (Builtin.firstCells i.size n (.slice A0 n sc)).run P w.drew = .ok xs.toArray w.drew := by
    rcases A0 with _ | b
    · have hn : n = 0 := by
        rcases Nat.eq_zero_or_pos n with h2 | h2
        · exact h2
        · obtain ⟨ad', h, _⟩ := h0.2 h2
          cases h
      subst hn
      have hx : xs = [] := List.eq_nil_of_length_eq_zero (by simpa using h0.1)
      subst hx
      exact run_firstCells_none w.drew i.size 0 0 sc
    · refine run_firstCells_some w.drew i.size n b n sc xs h0.1 (fun j u hu => ?_)
      rcases Nat.eq_zero_or_pos n with h2 | h2
      · subst h2
        have hx : xs = [] := List.eq_nil_of_length_eq_zero (by simpa using h0.1)
        subst hx
        simp at hu
      · obtain ⟨b', e1, _, e2⟩ := h0.2 h2
        cases e1
        exact e2 j u hu
  have hrun := run_append_grow_src (P := P) w t t ty e i z ht hi hz A0 n sc xs hold _ m news hs (by omega) (by simp only [maxLen] at h63; omega) (growslice_fits (by omega) hbytes)
  refine ⟨_, _, hrun, ⟨by rw [List.length_append, h0.1, hr.1, Nat.add_mul], .inr ⟨w.heap.size, _, _, rfl, Nat.zero_le _, heap_alloc_new w.drew _, grownCap_ge w (n + m) sc e, grownCap_le_maxLen w (n + m) sc e h63, ?_, ?_⟩⟩, ⟨rfl, rfl, rfl, by simp, fun k hk _ => (Below.heap_alloc w.drew _ k hk)⟩, rfl⟩
  · have hge := grownCap_ge w (n + m) sc e
    simp only [Array.size_append, List.size_toArray, List.length_append, size_zeroCells, hzs, h0.1, hr.1, ← Nat.add_mul]
    congr 1
    omega
  · simp only [Array.toList_append]
    have hlen : (xs ++ news).length = (n + m) * i.size := by rw [List.length_append, h0.1, hr.1, Nat.add_mul]
    rw [← hlen]
    exact List.take_left
end

section
variable {X : Type} {P : Program} {t e size bytes : Nat} {i0 : TypeInfo} {z : Value} {enc : X → List Value} {w w' : World} {L : List X}
theorem wp_append_fullL {o : Oper} {a : Act} {K : Act → World → Prop} {Q : Exit → Act → World → Prop} (s x : Operand)
    (ho : o.op = .call { callee := .builtin .append, args := #[s, x], argTypes := #[t, t] }) (T : ET P t e size bytes i0 z) (h1 : ∀ x, ∀ u ∈ enc x, u.oneCell' = true)
    (B0 : Nat) (A0 : Option Addr) (n sc : Nat) (hs : a.eval s = .slice A0 n sc) (hn : n = L.length) (h0 : Reads w B0 size A0 n (L.flatMap enc)) (hscn : sc ≤ n)
    (B : Nat) (A : Option Addr) (m c : Nat) (N : List X) (hx : a.eval x = .slice A m c) (hm : m = N.length) (hpos : 0 < m) (hr : Reads w B size A m (N.flatMap enc))
    (h63 : L.length + N.length ≤ maxLen) (hbytes : (L.length + N.length) * bytes ≤ 140737488355328)
    (h : ∀ v' w', OwnL e size enc w' v' (L ++ N) → w.grownBy w' none → v'.ownBlock = some w.heap.size → K (a.put o.dst v') w') : o.wp P a w K Q := by
  subst hm
  subst hn
  obtain ⟨v', w', hrun, h2, h3, h4⟩ := run_append_full (P := P) w t o.type e i0 z size bytes T.ht T.hi T.hz T.hs T.hb T.hzs B0 A0 L.length N.length sc (L.flatMap enc) h0 hpos hscn B A c (N.flatMap enc) hr (fun u hu => by
    obtain ⟨y, hy, hu'⟩ := List.mem_flatMap.1 hu
    exact h1 y u hu') h63 hbytes
  unfold Oper.wp execOp
  simp only [ho, resolve, invoke, builtin, Sem.run_bind, Sem.run_pure, Result.andThen_ok, List.map_toArray, List.map_cons, List.map_nil, hs, hx, hrun]
  refine h v' w' ?_ h3 h4
  unfold OwnL
  rw [List.length_append, List.flatMap_append]
  exact h2
theorem wpList_append_fullL {ops : Array Oper} {rest : List Oper} {o : Oper} {a : Act} {Q : Exit → Act → World → Prop} (hgd : o.guard = none) (s x : Operand)
    (ho : o.op = .call { callee := .builtin .append, args := #[s, x], argTypes := #[t, t] }) (T : ET P t e size bytes i0 z) (h1 : ∀ x, ∀ u ∈ enc x, u.oneCell' = true)
    (B0 : Nat) (A0 : Option Addr) (n sc : Nat) (hs : a.eval s = .slice A0 n sc) (hn : n = L.length) (h0 : Reads w B0 size A0 n (L.flatMap enc)) (hscn : sc ≤ n)
    (B : Nat) (A : Option Addr) (m c : Nat) (N : List X) (hx : a.eval x = .slice A m c) (hm : m = N.length) (hpos : 0 < m) (hr : Reads w B size A m (N.flatMap enc))
    (h63 : L.length + N.length ≤ maxLen) (hbytes : (L.length + N.length) * bytes ≤ 140737488355328)
    (h : ∀ v' w', OwnL e size enc w' v' (L ++ N) → w.grownBy w' none → v'.ownBlock = some w.heap.size → wpList P ops Q rest (a.put o.dst v') w') : wpList P ops Q (o :: rest) a w :=
  wpList_plain hgd fun _ hK => wp_append_fullL s x ho T h1 B0 A0 n sc hs hn h0 hscn B A m c N hx hm hpos hr h63 hbytes fun v' w' h2 h3 h4 => hK _ _ (h v' w' h2 h3 h4)
theorem step_append_fullL {ops : Array Oper} {o : Oper} {a : Act} {K : Act → World → Prop} {Q : Exit → Act → World → Prop} {E : Prop} (hgd : o.guard = none) (s x : Operand)
    (ho : o.op = .call { callee := .builtin .append, args := #[s, x], argTypes := #[t, t] }) (T : ET P t e size bytes i0 z) (h1 : ∀ x, ∀ u ∈ enc x, u.oneCell' = true)
    (B0 : Nat) (A0 : Option Addr) (n sc : Nat) (hs : a.eval s = .slice A0 n sc) (hn : n = L.length) (h0 : Reads w B0 size A0 n (L.flatMap enc)) (hscn : sc ≤ n)
    (B : Nat) (A : Option Addr) (m c : Nat) (N : List X) (hx : a.eval x = .slice A m c) (hm : m = N.length) (hpos : 0 < m) (hr : Reads w B size A m (N.flatMap enc))
    (h63 : L.length + N.length ≤ maxLen) (hbytes : (L.length + N.length) * bytes ≤ 140737488355328)
    (h : ∀ v' w', OwnL e size enc w' v' (L ++ N) → w.grownBy w' none → v'.ownBlock = some w.heap.size → K (a.put o.dst v') w') : if Region.wanted o (yielded ops a.tmps) = true then Oper.wp P o a w K Q else E := by
  rw [if_pos (by simp [Region.wanted, hgd])]
  exact wp_append_fullL s x ho T h1 B0 A0 n sc hs hn h0 hscn B A m c N hx hm hpos hr h63 hbytes h
/-- A block of one element, just laid, as a row of its own. -/
theorem own_new (w : World) (x : X) (henc : ∀ x, (enc x).length = size) : OwnL e size enc (w.alloc (.cells (enc x).toArray e)) (.slice (some ⟨w.heap.size, 0, none⟩) 1 1) [x] := by
  refine ⟨by simp [henc], .inr ⟨w.heap.size, 1, (enc x).toArray, rfl, Nat.zero_le _, heap_alloc_new w _, Nat.le_refl _, by decide, by simp [henc], ?_⟩⟩
  simp only [List.flatMap_cons, List.flatMap_nil, List.append_nil]
  exact List.take_of_length_le (by simp [henc])
end
theorem own_cap2 {X : Type} {e size : Nat} {enc : X → List Value} {w : World} {A : Option Addr} {cap : Nat} {L : List X} (h : OwnL e size enc w (.slice A L.length cap) L) : L.length ≤ cap := by
  rcases h.2 with ⟨hv, h0⟩ | ⟨g, c, cur, hv, _, _, hnc, _⟩
  · omega
  · cases hv
    exact hnc
theorem own_open {X : Type} {e size : Nat} {enc : X → List Value} {w : World} {v : Value} {L : List X} (h : OwnL e size enc w v L) (h0 : 0 < L.length) : ∃ A n cap, v = .slice A n cap ∧ n = L.length ∧ Reads w w.heap.size size A n (L.flatMap enc) ∧ 0 < n := by
  obtain ⟨A, cap, hv⟩ := h.val
  exact ⟨A, L.length, cap, hv, rfl, h.reads hv, h0⟩
end Go.Proofs.YtciaallekkdnhaaGreat
