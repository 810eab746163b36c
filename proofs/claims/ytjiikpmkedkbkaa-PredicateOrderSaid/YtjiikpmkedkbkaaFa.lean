/-
  PACKAGE row: rows, changes and records in plain Lean.
-/
import Derived.WalkKit
import Derived.WalkLawsBesides
import Derived.Maps.RangeWalk
import Derived.Deep.AppendLies
import Derived.Deep.Draws
import Derived.Lib.Hide
import Derived.RegionTactic
import Derived.Maps.AppendAt
import Derived.OwnWalk
namespace Go.Proofs.Ytjiikpmkedkbkaa
open Go.RowKit Go.ChangeMaps Go.MapKept Go.WideShapes
open Go.WideElems (Fit rd rg pl rd_key rd_val rg_of rd_mk)
open Go.Maps (Keyed)

/-- Induction from the end. -/
theorem rev_ind {α : Type} {motive : List α → Prop} (L : List α) (h0 : motive []) (h1 : ∀ l b, motive l → motive (l ++ [b])) : motive L := by
  have h : ∀ l : List α, motive l.reverse := by
    intro l
    induction l with
    | nil => exact h0
    | cons a l ih => rw [List.reverse_cons]; exact h1 _ _ ih
  have := h L.reverse
  rwa [List.reverse_reverse] at this

/-! ### Frames -/

/-- Of the blocks that w has only those in S may have changed. -/
structure Fr (S : List Nat) (w w' : World) : Prop where
  os : w'.os = w.os
  tape : w'.tape = w.tape
  output : w'.output = w.output
  size : w.heap.size ≤ w'.heap.size
  block : ∀ k, k < w.heap.size → k ∉ S → w'.heap[k]? = w.heap[k]?

section
variable {S S' : List Nat} {a b c w w' : World}
theorem Fr.refl (S : List Nat) (w : World) : Fr S w w := ⟨rfl, rfl, rfl, Nat.le_refl _, fun _ _ _ => rfl⟩
theorem Fr.trans (h : Fr S a b) (k : Fr S b c) : Fr S a c :=
  ⟨k.os.trans h.os, k.tape.trans h.tape, k.output.trans h.output, Nat.le_trans h.size k.size,
    fun i hi hn => (k.block i (Nat.lt_of_lt_of_le hi h.size) hn).trans (h.block i hi hn)⟩
/-- The second step may also write what is new since the first world. -/
theorem Fr.trans' (h : Fr S a b) (k : Fr S' b c) (hs : ∀ i ∈ S', i ∈ S ∨ a.heap.size ≤ i) : Fr S a c :=
  ⟨k.os.trans h.os, k.tape.trans h.tape, k.output.trans h.output, Nat.le_trans h.size k.size,
    fun i hi hn => (k.block i (Nat.lt_of_lt_of_le hi h.size) (fun hm => by
      rcases hs i hm with h1 | h1
      · exact hn h1
      · omega)).trans (h.block i hi hn)⟩
theorem Fr.mono (h : Fr S a b) (hs : ∀ i ∈ S, i ∈ S' ∨ a.heap.size ≤ i) : Fr S' a b :=
  ⟨h.os, h.tape, h.output, h.size, fun i hi hn => h.block i hi (fun hm => by
    rcases hs i hm with h1 | h1
    · exact hn h1
    · omega)⟩
theorem Fr.drew (h : Fr S a w) : Fr S a w.drew := ⟨h.os, h.tape, h.output, h.size, h.block⟩
theorem Fr.drewN (h : Fr S a w) (n : Nat) : Fr S a (w.drewN n) := ⟨h.os, h.tape, h.output, h.size, h.block⟩
theorem Fr.alloc (h : Fr S a w) (o : Obj) : Fr S a (w.alloc o) :=
  h.trans ⟨rfl, rfl, rfl, by simp, fun k hk _ => Below.heap_alloc _ _ _ hk⟩
theorem Fr.setCell (h : Fr S a w) {p : Addr} (hp : p.block ∈ S ∨ a.heap.size ≤ p.block) (u : Value) : Fr S a (w.setCell p u) :=
  h.trans' (S' := [p.block]) ⟨rfl, rfl, rfl, by simp [World.setCell], fun k _ hn => Below.heap_setCell _ _ _ _ (by simpa using hn)⟩ (by simpa using hp)
theorem Fr.grown (h : Fr S a w) {row : Option Nat} (hg : w.grownBy w' row) (hr : ∀ g, row = some g → g ∈ S ∨ a.heap.size ≤ g) : Fr S a w' :=
  h.trans' (S' := row.toList) ⟨hg.os, hg.tape, hg.output, hg.size, fun k hk hn => hg.block k hk (fun e => hn (by rw [← e]; simp))⟩
    (fun i hi => hr i (by simpa [Option.mem_toList] using hi))
theorem Fr.below (h : Fr [] w w') : Below w.heap.size w w' := ⟨h.os, h.tape, h.output, h.size, fun k hk => h.block k hk (by simp)⟩
theorem Fr.of_below (h : Below w.heap.size w w') : Fr S w w' := ⟨h.os, h.tape, h.output, h.size, fun k hk _ => h.block k hk⟩
theorem Fr.belowB {B : Nat} (h : Fr S w w') (hs : ∀ i ∈ S, B ≤ i) (hB : B ≤ w.heap.size) : Below B w w' :=
  ⟨h.os, h.tape, h.output, h.size, fun k hk => h.block k (by omega) (fun hm => by have := hs k hm; omega)⟩
theorem Fr.cell (h : Fr S w w') {p : Addr} (hl : p.block < w.heap.size) (hp : p.block ∉ S) : w'.cell? p = w.cell? p := World.cell?_of_block (w := w) (h.block p.block hl hp)
/-- Two rules for the walk: cells and marks of old blocks read as before. -/
theorem Fr.rules (h : Fr [] w w') : (∀ b o, b < w.heap.size → w'.cell? ⟨b, o, none⟩ = w.cell? ⟨b, o, none⟩) ∧ (∀ b o, b < w.heap.size → w'.frozen? ⟨b, o, none⟩ = w.frozen? ⟨b, o, none⟩) :=
  ⟨fun b o hb => World.cell?_of_block (w := w) (a := ⟨b, o, none⟩) (h.block b hb (by simp)), fun b o hb => World.frozen?_of_block (w := w) (a := ⟨b, o, none⟩) (h.block b hb (by simp))⟩
theorem Fr.frozen (h : Fr S w w') {p : Addr} (hl : p.block < w.heap.size) (hp : p.block ∉ S) : w'.frozen? p = w.frozen? p := World.frozen?_of_block (w := w) (h.block p.block hl hp)
end

/-! ### A block that is known whole -/

def Blk (w : World) (g : Nat) (t : TypeId) (cs : Array Value) : Prop := w.heap[g]? = some (.cells cs t (0, 0))

section
variable {w w' : World} {g : Nat} {t : TypeId} {cs : Array Value} {S : List Nat}
theorem Blk.lt (h : Blk w g t cs) : g < w.heap.size := by
  rcases Nat.lt_or_ge g w.heap.size with hlt | hge
  · exact hlt
  · unfold Blk at h; rw [Array.getElem?_eq_none hge] at h; cases h
theorem Blk.cell (h : Blk w g t cs) (i : Nat) : w.cell? ⟨g, i, none⟩ = cs[i]? := cell_of_row w g i cs t (0, 0) h
theorem Blk.frozen (h : Blk w g t cs) (i : Nat) : w.frozen? ⟨g, i, none⟩ = false := by
  unfold Blk at h
  simp [World.frozen?, h]
theorem Blk.new (w : World) (t : TypeId) (cs : Array Value) : Blk (w.alloc (.cells cs t)) w.heap.size t cs := heap_alloc_new w _
theorem Blk.drew (h : Blk w g t cs) : Blk w.drew g t cs := h
theorem Blk.drewN (h : Blk w g t cs) (n : Nat) : Blk (w.drewN n) g t cs := h
theorem Blk.alloc (h : Blk w g t cs) (o : Obj) : Blk (w.alloc o) g t cs := (Below.heap_alloc w o g h.lt).trans h
theorem Blk.set_ (h : Blk w g t cs) (i : Nat) (u : Value) : Blk (w.setCell ⟨g, i, none⟩ u) g t (cs.setIfInBounds i u) := by
  unfold Blk at h ⊢
  simp [World.setCell, Array.getElem?_modify, h]
theorem Blk.far (h : Blk w g t cs) {p : Addr} (hp : g ≠ p.block) (u : Value) : Blk (w.setCell p u) g t cs := (Below.heap_setCell w p u g hp).trans h
theorem Blk.fr (h : Blk w g t cs) (hf : Fr S w w') (hg : g ∉ S) : Blk w' g t cs := (hf.block g h.lt hg).trans h
theorem Blk.grown {row : Option Nat} (h : Blk w g t cs) (hb : w.grownBy w' row) (hg : some g ≠ row) : Blk w' g t cs := (hb.block g h.lt hg).trans h
end

/-! ### Maps as lists of entries -/

/-- An element reads as itself. -/
def Rv (v : Value) : Option (DataW Value × List MemPlace) := some (.held v, [])

/-- A map's type, with how its keys and elements stand for Lean's. -/
structure MT {K V : Type} (P : Program) (t k e : TypeId) (ek : K → Value) (kl : K → Lit) (ev : V → Value) (ok : K → Prop) (z : Value) : Prop where
  keyed : Keyed P k
  ht : P.underlying t = some (.map k e)
  key : ∀ x, ok x → keyOf P k (ek x) = some (kl x)
  inj : ∀ x y, kl x = kl y → x = y
  zero : ∀ w, (zeroValue e).run P w = .ok z w

def ent {K V : Type} (kl : K → Lit) (ev : V → Value) (x : K × V) : Lit × DataW Value := (kl x.1, .held (ev x.2))

/-- Block b of w is a map with the entries M, in some order. -/
def VMap {K V : Type} (P : Program) (k : TypeId) (kl : K → Lit) (ev : V → Value) (w : World) (b : Nat) (M : List (K × V)) : Prop :=
  ∃ es clock, w.heap[b]? = some (.map es clock) ∧ Fit P k Rv es clock ∧ (es.toList.map (rg P k Rv)).Perm (M.map (ent kl ev))

/-- The list without a key; with a key set; what stands at a key. -/
def mdel {K V : Type} [DecidableEq K] (M : List (K × V)) (x : K) : List (K × V) := M.filter fun e => decide (e.1 ≠ x)
def mput {K V : Type} [DecidableEq K] (M : List (K × V)) (x : K) (u : V) : List (K × V) := (x, u) :: mdel M x
def mget {K V : Type} [DecidableEq K] (M : List (K × V)) (x : K) : Option V := (M.find? fun e => decide (e.1 = x)).map (·.2)

/-- No key stands twice. -/
def Nd {K V : Type} (M : List (K × V)) : Prop := M.Pairwise fun p q => p.1 ≠ q.1
theorem nd_nil {K V : Type} : Nd ([] : List (K × V)) := List.Pairwise.nil
theorem Nd.perm {K V : Type} {M M' : List (K × V)} (h : Nd M) (p : M.Perm M') : Nd M' := (p.pairwise_iff (fun {_ _} hne => Ne.symm hne)).1 h

section
variable {K V : Type} [DecidableEq K] {M : List (K × V)} {x y : K} {u : V}
theorem mget_put_same : mget (mput M x u) x = some u := by simp [mget, mput]
theorem mget_del_same : mget (mdel M x) x = none := by
  simp only [mget, mdel, Option.map_eq_none_iff, List.find?_eq_none, List.mem_filter]
  rintro e ⟨_, h⟩
  simpa using h
theorem mget_del_other (h : y ≠ x) : mget (mdel M x) y = mget M y := by
  simp only [mget, mdel]
  congr 1
  induction M with
  | nil => rfl
  | cons e r ih =>
    by_cases h1 : e.1 = x
    · have h2 : e.1 ≠ y := fun e2 => h (e2.symm.trans h1)
      rw [List.filter_cons_of_neg (by simp [h1]), List.find?_cons_of_neg (by simpa using h2), ih]
    · rw [List.filter_cons_of_pos (by simp [h1])]
      by_cases h2 : e.1 = y
      · rw [List.find?_cons_of_pos (by simpa using h2), List.find?_cons_of_pos (by simpa using h2)]
      · rw [List.find?_cons_of_neg (by simpa using h2), List.find?_cons_of_neg (by simpa using h2), ih]
theorem mget_put_other (h : y ≠ x) : mget (mput M x u) y = mget M y := by
  refine Eq.trans ?_ (mget_del_other h)
  unfold mput mget
  rw [List.find?_cons_of_neg (by simpa using fun e : x = y => h e.symm)]
theorem Nd.del (h : Nd M) (x : K) : Nd (mdel M x) := List.Pairwise.filter _ h
theorem Nd.put (h : Nd M) (x : K) (u : V) : Nd (mput M x u) :=
  List.pairwise_cons.2 ⟨fun q hq e => by have := (List.mem_filter.1 hq).2; simp at this; exact this e.symm, h.del x⟩
theorem mget_iff (h : Nd M) : mget M x = some u ↔ (x, u) ∈ M := by
  induction M with
  | nil => simp [mget]
  | cons e r ih =>
    obtain ⟨h1, h2⟩ := List.pairwise_cons.1 h
    by_cases he : e.1 = x
    · have e0 : mget (e :: r) x = some e.2 := by simp [mget, he]
      rw [e0, List.mem_cons]
      constructor
      · intro h3; exact .inl (by rw [← he, ← Option.some.inj h3])
      · rintro (e1 | hm)
        · rw [← e1]
        · exact absurd he (h1 _ hm)
    · have e0 : mget (e :: r) x = mget r x := by simp [mget, he]
      rw [e0, ih h2, List.mem_cons]
      constructor
      · exact .inr
      · rintro (e1 | hm)
        · exact absurd (by rw [← e1]) he
        · exact hm
theorem mget_none : mget M x = none ↔ ∀ e ∈ M, e.1 ≠ x := by simp [mget, List.find?_eq_none]
theorem mget_perm {M' : List (K × V)} (h : Nd M) (p : M.Perm M') : mget M x = mget M' x := by
  cases e : mget M' x with
  | none => rw [mget_none] at e ⊢; exact fun q hq => e q (p.mem_iff.1 hq)
  | some u => rw [mget_iff h]; rw [mget_iff (h.perm p)] at e; exact p.mem_iff.2 e
theorem mdel_perm {M' : List (K × V)} (p : M.Perm M') (x : K) : (mdel M x).Perm (mdel M' x) := p.filter _
theorem mput_perm {M' : List (K × V)} (p : M.Perm M') (x : K) (u : V) : (mput M x u).Perm (mput M' x u) := (mdel_perm p x).cons _
theorem mdel_none (h : mget M x = none) : mdel M x = M := by
  rw [mget_none] at h
  exact List.filter_eq_self.2 fun e he => by simpa using h e he
theorem length_mdel_le : (mdel M x).length ≤ M.length := List.length_filter_le _ _
theorem length_mdel (h : Nd M) : (mdel M x).length + (if (mget M x).isSome then 1 else 0) = M.length := by
  induction M with
  | nil => simp [mdel, mget]
  | cons e r ih =>
    obtain ⟨h1, h2⟩ := List.pairwise_cons.1 h
    have ih := ih h2
    by_cases he : e.1 = x
    · have hr : mget r x = none := mget_none.2 fun q hq e1 => h1 q hq (he.trans e1.symm)
      rw [hr] at ih
      have e1 : mdel (e :: r) x = mdel r x := List.filter_cons_of_neg (by simp [he])
      have e2 : mget (e :: r) x = some e.2 := by simp [mget, he]
      rw [e1, e2]
      simpa using ih
    · have e1 : mdel (e :: r) x = e :: mdel r x := List.filter_cons_of_pos (by simp [he])
      have e2 : mget (e :: r) x = mget r x := by simp [mget, he]
      rw [e1, e2, List.length_cons, List.length_cons]
      omega
theorem length_mput (h : Nd M) : (mput M x u).length = if (mget M x).isSome then M.length else M.length + 1 := by
  have := length_mdel (x := x) h
  unfold mput
  rw [List.length_cons]
  split <;> simp_all
theorem mem_mdel {e : K × V} : e ∈ mdel M x ↔ e ∈ M ∧ e.1 ≠ x := by simp [mdel]
theorem mem_mput {e : K × V} : e ∈ mput M x u ↔ e = (x, u) ∨ (e ∈ M ∧ e.1 ≠ x) := by simp [mput, mem_mdel]
end

section
variable {K V : Type} {P : Program} {t k e : TypeId} {ek : K → Value} {kl : K → Lit} {ev : V → Value} {ok : K → Prop} {z : Value} {w w' : World} {b : Nat} {M : List (K × V)}

theorem VMap.lt (h : VMap P k kl ev w b M) : b < w.heap.size := by
  obtain ⟨es, clock, hb, _⟩ := h
  exact (Array.getElem?_eq_some_iff.1 hb).1
theorem VMap.of_block (h : VMap P k kl ev w b M) (hb : w'.heap[b]? = w.heap[b]?) : VMap P k kl ev w' b M := by
  obtain ⟨es, clock, h1, h2⟩ := h
  exact ⟨es, clock, hb.trans h1, h2⟩
theorem VMap.fr {S : List Nat} (h : VMap P k kl ev w b M) (hf : Fr S w w') (hb : b ∉ S) : VMap P k kl ev w' b M := h.of_block (hf.block b h.lt hb)
theorem VMap.grown {row : Option Nat} (h : VMap P k kl ev w b M) (hg : w.grownBy w' row) (hb : some b ≠ row) : VMap P k kl ev w' b M := h.of_block (hg.block b h.lt hb)
theorem VMap.alloc (h : VMap P k kl ev w b M) (o : Obj) : VMap P k kl ev (w.alloc o) b M := h.of_block (Below.heap_alloc w o b h.lt)
theorem VMap.setCell (h : VMap P k kl ev w b M) {p : Addr} (hp : b ≠ p.block) (u : Value) : VMap P k kl ev (w.setCell p u) b M := h.of_block (Below.heap_setCell w p u b hp)
theorem VMap.drew (h : VMap P k kl ev w b M) : VMap P k kl ev w.drew b M := h
theorem VMap.drewN (h : VMap P k kl ev w b M) (n : Nat) : VMap P k kl ev (w.drewN n) b M := h
theorem VMap.perm {M' : List (K × V)} (h : VMap P k kl ev w b M) (p : M.Perm M') : VMap P k kl ev w b M' := by
  obtain ⟨es, clock, h1, h2, h3⟩ := h
  exact ⟨es, clock, h1, h2, h3.trans (p.map _)⟩
/-- A map's block is no row of cells. -/
theorem VMap.ne {g : Nat} {tt : TypeId} {cs : Array Value} {fz : Nat × Nat} (h : VMap P k kl ev w b M) (hg : w.heap[g]? = some (.cells cs tt fz)) : b ≠ g := by
  rintro rfl
  obtain ⟨es, clock, hb, _⟩ := h
  rw [hb] at hg
  cases hg
theorem VMap.made (kl : K → Lit) (ev : V → Value) (w : World) : VMap P k kl ev (w.alloc (.map #[] 0)) w.heap.size [] :=
  ⟨#[], 0, (MapKept.heap_alloc w _).1, ⟨by simp, stamped_empty 0, by simp⟩, by simp⟩
theorem VMap.len (h : VMap P k kl ev w b M) (ht : P.underlying t = some (.map k e)) (ty : TypeId) : (Builtin.len_ #[t] ty #[.map (some b)]).run P w = .ok (.int .i64 M.length) w := by
  obtain ⟨es, clock, hb, F, hp⟩ := h
  have e1 : es.size = M.length := by have := hp.length_eq; simpa using this
  rw [← e1]
  simp [Builtin.len_, run_underlying ht, MapKept.run_getObj_map hb, goInt, Result.andThen]
theorem VMap.length_le (h : VMap P k kl ev w b M) : M.length ≤ maxLen := by
  obtain ⟨es, clock, hb, F, hp⟩ := h
  have e1 : es.size = M.length := by have := hp.length_eq; simpa using this
  rw [← e1]
  exact F.size
theorem VMap.nd (T : MT P t k e ek kl ev ok z) (h : VMap P k kl ev w b M) : Nd M := by
  obtain ⟨es, clock, hb, F, hp⟩ := h
  have h1 := (hp.pairwise_iff (fun {_ _} (hne : _ ≠ _) => Ne.symm hne)).1 (Maps.fit_apart T.keyed F)
  rw [List.pairwise_map] at h1
  exact h1.imp fun {p q} hne e1 => hne (by simp [ent, e1])
theorem rgv {es : Array MapEntry} {clock : Nat} {x : MapEntry} (F : Fit P k Rv es clock) (hx : x ∈ es.toList) : ∃ l, keyOf P k x.key = some l ∧ rg P k Rv x = (l, .held x.val) := by
  obtain ⟨y, hy⟩ := F.reads x hx
  obtain ⟨zz, hz, hzd⟩ := rd_val hy
  refine ⟨y.1, rd_key hy, ?_⟩
  rw [rg_of hy]
  cases hz
  exact Prod.ext rfl hzd
theorem kl_isKey (T : MT P t k e ek kl ev ok z) (x : K) (hx : ok x) : WideAt.IsKeyLit (kl x) := T.keyed.key (T.key x hx)
variable [DecidableEq K]
/-- 'm[x]' and 'v, ok := m[x]'. -/
theorem VMap.look (T : MT P t k e ek kl ev ok z) (h : VMap P k kl ev w b M) (x : K) (hx : ok x) (c : Bool) :
    (Instr.lookup t (.map (some b)) (ek x) c).run P w = .ok (if c then .tuple #[((mget M x).map ev).getD z, .bool (mget M x).isSome] else ((mget M x).map ev).getD z) w := by
  have hnd := h.nd T
  obtain ⟨es, clock, hb, F, hp⟩ := h
  rcases Maps.fit_look c T.keyed T.ht (T.zero w) hb F (T.key x hx) with ⟨hrun, hno, _⟩ | ⟨e0, y, hm, hk, hrun, _⟩
  · have hg : mget M x = none := by
      rw [mget_none]
      intro q hq e1
      have hq' : ent kl ev q ∈ es.toList.map (rg P k Rv) := hp.mem_iff.2 (List.mem_map.2 ⟨q, hq, rfl⟩)
      obtain ⟨x1, hx1, e2⟩ := List.mem_map.1 hq'
      obtain ⟨l, hl, e3⟩ := rgv F hx1
      rw [e3] at e2
      have e4 : l = kl x := by have := congrArg Prod.fst e2; simpa [ent, e1] using this
      rw [e4] at hl
      exact hno x1 hx1 (T.keyed.inj hl (T.key x hx))
    rw [hrun, hg]
    rfl
  · obtain ⟨l, hl, e3⟩ := rgv F hm
    rw [hk, T.key x hx] at hl
    cases hl
    have hq' : (kl x, DataW.held e0.val) ∈ M.map (ent kl ev) := hp.mem_iff.1 (List.mem_map.2 ⟨e0, hm, e3⟩)
    obtain ⟨q, hq, e4⟩ := List.mem_map.1 hq'
    have e5 : q.1 = x := T.inj _ _ (congrArg Prod.fst e4)
    have e6 : ev q.2 = e0.val := by have := congrArg Prod.snd e4; simpa [ent] using this
    have hg : mget M x = some q.2 := (mget_iff hnd).2 (by rw [← e5]; exact hq)
    rw [hrun, hg]
    simp [e6]
theorem filter_ent (T : MT P t k e ek kl ev ok z) (x : K) (hx : ok x) (M : List (K × V)) : (M.map (ent kl ev)).filter (notKey (kl x)) = (mdel M x).map (ent kl ev) := by
  rw [List.filter_map]
  congr 1
  unfold mdel
  refine List.filter_congr fun q _ => ?_
  have hi := kl_isKey T x hx
  show (!(kl q.1).sameKey (kl x)) = decide (q.1 ≠ x)
  by_cases e1 : q.1 = x
  · rw [e1, WideAt.sameKey_self hi]; simp
  · rw [Maps.sameKey_ne (fun e2 => e1 (T.inj _ _ e2))]; simp [e1]
/-- 'm[x] = u'. -/
theorem VMap.store (T : MT P t k e ek kl ev ok z) (h : VMap P k kl ev w b M) (x : K) (hx : ok x) (u : V) (hn : M.length < maxLen) :
    ∃ w', (Instr.mapUpdate t (.map (some b)) (ek x) (ev u)).run P w = .ok () w' ∧ VMap P k kl ev w' b (mput M x u) ∧ w.mapTurned w' b := by
  obtain ⟨es, clock, hb, F, hp⟩ := h
  have e1 : es.size = M.length := by have := hp.length_eq; simpa using this
  obtain ⟨es', clock', hrun, F', hput, _⟩ := Maps.fit_store (R' := Rv) T.keyed T.ht hb F (by omega) (fun _ _ _ _ hz => hz) (T.key x hx) (yv := (.held (ev u), [])) rfl
  refine ⟨_, hrun, ⟨es', clock', heap_setBlock_same hb _, F', ?_⟩, ⟨es, clock, es', clock', hb, rfl⟩⟩
  have p1 : (es'.toList.map (rg P k Rv)).Perm (putKey (kl x) (.held (ev u)) ((es.toList.map (rg P k Rv)).foldr DataW.insert [])) := by
    rw [← hput]
    exact (sorted_perm _).symm
  refine p1.trans ((insert_perm _ _).trans ?_)
  have p2 : (((es.toList.map (rg P k Rv)).foldr DataW.insert []).filter (notKey (kl x))).Perm ((M.map (ent kl ev)).filter (notKey (kl x))) := ((sorted_perm _).trans hp).filter _
  rw [filter_ent T x hx] at p2
  exact p2.cons _
/-- 'delete(m, x)'. -/
theorem VMap.drop (T : MT P t k e ek kl ev ok z) (h : VMap P k kl ev w b M) (x : K) (hx : ok x) (ty : TypeId) :
    ∃ w', (Builtin.delete_ #[t, k] ty #[.map (some b), ek x]).run P w = .ok (.tuple #[]) w' ∧ VMap P k kl ev w' b (mdel M x) ∧ w.mapTurned w' b := by
  obtain ⟨es, clock, hb, F, hp⟩ := h
  obtain ⟨es', hrun, F', hle, hdel, _⟩ := Maps.fit_drop (ty := ty) T.keyed T.ht hb F (T.key x hx)
  refine ⟨_, hrun, ⟨es', clock, heap_setBlock_same hb _, F', ?_⟩, ⟨es, clock, es', clock, hb, rfl⟩⟩
  have p1 : (es'.toList.map (rg P k Rv)).Perm (delKey (kl x) ((es.toList.map (rg P k Rv)).foldr DataW.insert [])) := by
    rw [← hdel]
    exact (sorted_perm _).symm
  refine p1.trans ?_
  have p2 : (((es.toList.map (rg P k Rv)).foldr DataW.insert []).filter (notKey (kl x))).Perm ((M.map (ent kl ev)).filter (notKey (kl x))) := ((sorted_perm _).trans hp).filter _
  rw [filter_ent T x hx] at p2
  exact p2
end
theorem turned_fr {w w' : World} {b : Nat} {S : List Nat} (h : w.mapTurned w' b) (hb : b ∈ S) : Fr S w w' :=
  (Fr.refl S w).grown h.grown (fun g hg => by cases hg; exact .inl hb)

/-! ### A range over a map -/

/-- Block r is an iterator over the map in block b with the entries M; 'rest' are those still to come. -/
def Iter {K V : Type} (P : Program) (k : TypeId) (kl : K → Lit) (ev : V → Value) (w : World) (b r : Nat) (M rest : List (K × V)) : Prop :=
  VMap P k kl ev w b M ∧ ∃ n D left cnt, w.ranges P k Rv b r n D left cnt ∧ rest.Perm (M.filter fun e => left (kl e.1))

section
variable {K V : Type} {P : Program} {t k e : TypeId} {ek : K → Value} {kl : K → Lit} {ev : V → Value} {ok : K → Prop} {z : Value} {w w' : World} {b r : Nat} {M rest : List (K × V)}
theorem Iter.map (h : Iter P k kl ev w b r M rest) : VMap P k kl ev w b M := h.1
theorem Iter.lt (h : Iter P k kl ev w b r M rest) : r < w.heap.size := by
  obtain ⟨_, n, D, left, cnt, hr, _⟩ := h
  exact hr.lt
theorem Iter.ne (h : Iter P k kl ev w b r M rest) : r ≠ b := by
  obtain ⟨_, n, D, left, cnt, hr, _⟩ := h
  exact hr.ne
/-- An iterator's block is no row of cells. -/
theorem Iter.ne_cells {g : Nat} {tt : TypeId} {cs : Array Value} {fz : Nat × Nat} (h : Iter P k kl ev w b r M rest) (hg : w.heap[g]? = some (.cells cs tt fz)) : r ≠ g := by
  rintro rfl
  obtain ⟨_, n, D, left, cnt, ⟨es, clock, since, seen, c0, _, _, _, _, hr, _⟩, _⟩ := h
  rw [hr] at hg
  cases hg
theorem ranges_of_blocks {n : Nat} {D : DataW Value} {left : Lit → Bool} {cnt : Nat} (h : w.ranges P k Rv b r n D left cnt) (h1 : w'.heap[b]? = w.heap[b]?) (h2 : w'.heap[r]? = w.heap[r]?) : w'.ranges P k Rv b r n D left cnt := by
  obtain ⟨es, clock, since, seen, c0, hb, F, hs, hD, hr, rest⟩ := h
  exact ⟨es, clock, since, seen, c0, h1.trans hb, F, hs, hD, h2.trans hr, rest⟩
theorem Iter.of_blocks (h : Iter P k kl ev w b r M rest) (h1 : w'.heap[b]? = w.heap[b]?) (h2 : w'.heap[r]? = w.heap[r]?) : Iter P k kl ev w' b r M rest := by
  obtain ⟨hm, n, D, left, cnt, hr, hp⟩ := h
  exact ⟨hm.of_block h1, n, D, left, cnt, ranges_of_blocks hr h1 h2, hp⟩
theorem Iter.fr {S : List Nat} (h : Iter P k kl ev w b r M rest) (hf : Fr S w w') (hb : b ∉ S) (hr : r ∉ S) : Iter P k kl ev w' b r M rest :=
  h.of_blocks (hf.block b h.map.lt hb) (hf.block r h.lt hr)
theorem Iter.alloc (h : Iter P k kl ev w b r M rest) (o : Obj) : Iter P k kl ev (w.alloc o) b r M rest :=
  h.of_blocks (Below.heap_alloc w o b h.map.lt) (Below.heap_alloc w o r h.lt)
theorem VMap.owns (h : VMap P k kl ev w b M) : ∃ es clock, w.heap[b]? = some (.map es clock) ∧ w.ownsMap P k Rv b es.size (.map ((es.toList.map (rg P k Rv)).foldr DataW.insert [])) ∧ (es.toList.map (rg P k Rv)).Perm (M.map (ent kl ev)) ∧ Fit P k Rv es clock := by
  obtain ⟨es, clock, hb, F, hp⟩ := h
  exact ⟨es, clock, hb, ⟨es, clock, hb, F, Nat.le_refl _, rfl⟩, hp, F⟩
/-- 'range m'. -/
theorem VMap.range (T : MT P t k e ek kl ev ok z) (h : VMap P k kl ev w b M) :
    ∃ w', (Instr.range t (.map (some b))).run P w = .ok (.pointer (some ⟨w.heap.size, 0, none⟩)) w' ∧ Iter P k kl ev w' b w.heap.size M M ∧ Fr [] w w' ∧ w'.heap.size = w.heap.size + 1 := by
  obtain ⟨es, clock, hb, hown, hp, F⟩ := h.owns
  obtain ⟨w', hrun, hr, hg, hs⟩ := hown.range T.keyed T.ht
  have hf : Fr [] w w' := (Fr.refl _ _).grown hg (fun g hg => by cases hg)
  refine ⟨w', hrun, ⟨h.fr hf (by simp), _, _, _, _, hr, ?_⟩, hf, hs⟩
  rw [List.filter_eq_self.2]
  intro q hq
  have hq' : ent kl ev q ∈ es.toList.map (rg P k Rv) := hp.mem_iff.2 (List.mem_map.2 ⟨q, hq, rfl⟩)
  have hq2 : ent kl ev q ∈ (es.toList.map (rg P k Rv)).foldr DataW.insert [] := (sorted_perm _).mem_iff.2 hq'
  refine List.any_eq_true.2 ⟨_, hq2, WideAt.sameKey_self ?_⟩
  obtain ⟨x1, hx1, e2⟩ := List.mem_map.1 hq'
  obtain ⟨l, hl, e3⟩ := rgv F hx1
  rw [← e2, e3]
  exact T.keyed.key hl
/-- THE STEP. -/
theorem Iter.next (T : MT P t k e ek kl ev ok z) (hkv : ∀ q ∈ M, ok q.1) (h : Iter P k kl ev w b r M rest) (ty : TypeId) :
    (rest = [] ∧ (Instr.next (.pointer (some ⟨r, 0, none⟩)) false ty).run P w = .ok (.tuple #[.bool false]) w) ∨
    ∃ x u rest' w', rest.Perm ((x, u) :: rest') ∧ (x, u) ∈ M ∧ (Instr.next (.pointer (some ⟨r, 0, none⟩)) false ty).run P w = .ok (.tuple #[.bool true, ek x, ev u]) w' ∧
      Iter P k kl ev w' b r M rest' ∧ Fr [r] w w' ∧ w'.heap.size = w.heap.size ∧ (Instr.entry (.pointer (some ⟨r, 0, none⟩))).run P w' = .ok (.tuple #[ek x, ev u]) w' := by
  have hnd := h.map.nd T
  have hrb := h.ne
  obtain ⟨hm, n, D, left, cnt, hr, hp⟩ := h
  rcases hr.next T.keyed ty with ⟨_, hl, hrun⟩ | ⟨key, v, lk, y, w', cnt', hkey, hlk, hv, hat, hrun, hr', _, hg, hs, hen⟩
  · refine .inl ⟨?_, hrun⟩
    rw [List.filter_eq_nil_iff.2 (fun q _ => by simp [hl])] at hp
    exact hp.eq_nil
  · right
    cases hv
    obtain ⟨es, clock, hb, F, hpe⟩ := hm
    obtain ⟨es1, clock1, since, seen, c0, hb1, F1, _, hD, _⟩ := hr
    rw [hb] at hb1
    cases hb1
    -- which entry
    have hhas : Maps.has D lk = true := Maps.has_true_of_atKey hat
    rw [hD] at hhas
    obtain ⟨p, hpm, hpk⟩ := List.any_eq_true.1 hhas
    have hpm' : p ∈ es.toList.map (rg P k Rv) := (sorted_perm _).mem_iff.1 hpm
    have epk : p.1 = lk := WideAt.sameKey_eq hpk
    have eat := (atKey_sorted (es.toList.map (rg P k Rv)) (Maps.fit_rising T.keyed F) lk (T.keyed.key hkey)).2 p hpm' epk .nil
    rw [← hD, hat .nil] at eat
    obtain ⟨q, hq, eq⟩ := List.mem_map.1 (hpe.mem_iff.1 hpm')
    have e1 : kl q.1 = lk := by rw [← epk, ← eq]; rfl
    have e2 : ev q.2 = v := by
      have : p.2 = .held (ev q.2) := by rw [← eq]; rfl
      rw [this] at eat
      cases eat
      rfl
    have e3 : ek q.1 = key := T.keyed.inj (T.key q.1 (hkv q hq)) (by rw [hkey, e1])
    subst e2
    subst e3
    subst e1
    have hfr : Fr [r] w w' := (Fr.refl _ _).grown hg (fun g hg => by cases hg; exact .inl (by simp))
    have hM' : VMap P k kl ev w' b M := VMap.of_block ⟨es, clock, hb, F, hpe⟩ (hg.block b (Array.getElem?_eq_some_iff.1 hb).1 (fun e => hrb (Option.some.inj e).symm))
    have hsplit : (M.filter fun e => left (kl e.1)).Perm (q :: M.filter fun e => left (kl e.1) && !(kl e.1).sameKey (kl q.1)) := by
      clear hp hpe hM' eat hpm hpm' hhas hrun hen hr' hkv
      induction M with
      | nil => simp at hq
      | cons a l ih =>
        obtain ⟨h1, h2⟩ := List.pairwise_cons.1 hnd
        have hik : WideAt.IsKeyLit (kl q.1) := T.keyed.key hkey
        rcases List.mem_cons.1 hq with rfl | hq'
        · rw [List.filter_cons_of_pos (by simpa using hlk), List.filter_cons_of_neg (by simp [WideAt.sameKey_self hik])]
          rw [List.filter_congr (q := fun e => left (kl e.1) && !(kl e.1).sameKey (kl q.1))]
          intro x hx
          rw [Maps.sameKey_ne (fun e => h1 x hx (T.inj _ _ e).symm)]
          simp
        · have hne : (kl a.1).sameKey (kl q.1) = false := Maps.sameKey_ne (fun e => h1 q hq' (T.inj _ _ e))
          cases hla : left (kl a.1)
          · rw [List.filter_cons_of_neg (by simp [hla]), List.filter_cons_of_neg (by simp [hla])]
            exact ih h2 hq'
          · rw [List.filter_cons_of_pos (by simp [hla]), List.filter_cons_of_pos (by simp [hla, hne])]
            exact ((ih h2 hq').cons a).trans (List.Perm.swap _ _ _)
    exact ⟨q.1, q.2, _, w', hp.trans hsplit, hq, hrun, ⟨hM', n, D, _, cnt', hr', List.Perm.refl _⟩, hfr, hs, hen⟩
theorem Iter.nd (T : MT P t k e ek kl ev ok z) (h : Iter P k kl ev w b r M rest) : Nd rest := by
  have h1 := h.map.nd T
  obtain ⟨_, n, D, left, cnt, _, hp⟩ := h
  exact Nd.perm (List.Pairwise.filter _ h1) hp.symm
theorem Iter.perm {M' : List (K × V)} (h : Iter P k kl ev w b r M rest) (p : M.Perm M') : Iter P k kl ev w b r M' rest := by
  obtain ⟨hm, n, D, left, cnt, hr, hp⟩ := h
  exact ⟨hm.perm p, n, D, left, cnt, hr, hp.trans (p.filter _)⟩
/-- FOR THE LOOP's MEASURE. -/
theorem Iter.left_eq (h : Iter P k kl ev w b r M rest) : w.rangeLeft b r = rest.length := by
  obtain ⟨⟨es, clock, hb, F, hpe⟩, n, D, left, cnt, hr, hp⟩ := h
  rw [hr.left_eq, hp.length_eq]
  obtain ⟨es1, clock1, since, seen, c0, hb1, F1, _, hD, _, _, hc, hl, _⟩ := hr
  rw [hb] at hb1
  cases hb1
  have e1 : (M.filter fun e => left (kl e.1)).length = ((M.map (ent kl ev)).filter fun p => left p.1).length := by
    rw [List.filter_map, List.length_map]
    rfl
  rw [e1, ← (hpe.filter fun p => left p.1).length_eq, List.filter_map, List.length_map, ← hc]
  unfold leftOf
  rw [← Array.length_toList, Array.toList_filter]
  congr 1
  refine List.filter_congr fun x hx => ?_
  exact (hl x hx).symm
variable [DecidableEq K]
/-- 'delete(m, x)' in the round. -/
theorem Iter.drop (T : MT P t k e ek kl ev ok z) (h : Iter P k kl ev w b r M rest) (x : K) (hx : ok x) (ty : TypeId) :
    ∃ w', (Builtin.delete_ #[t, k] ty #[.map (some b), ek x]).run P w = .ok (.tuple #[]) w' ∧ Iter P k kl ev w' b r (mdel M x) (mdel rest x) ∧ w.mapTurned w' b := by
  obtain ⟨hm, n, D, left, cnt, hr, hp⟩ := h
  obtain ⟨w', cnt', hrun, hr', _, ht⟩ := hr.drop T.keyed T.ht (T.key x hx) ty
  obtain ⟨w'', hrun2, hm2, _⟩ := hm.drop T x hx ty
  rw [hrun] at hrun2
  cases hrun2
  refine ⟨w', hrun, ⟨hm2, n, _, _, cnt', hr', ?_⟩, ht⟩
  refine (mdel_perm hp x).trans (List.Perm.of_eq ?_)
  have hi := kl_isKey T x hx
  unfold mdel
  rw [List.filter_filter, List.filter_filter]
  refine List.filter_congr fun q _ => ?_
  by_cases e1 : q.1 = x
  · rw [e1, WideAt.sameKey_self hi]; simp
  · rw [Maps.sameKey_ne (fun e2 => e1 (T.inj _ _ e2))]; simp [e1]
end

end Go.Proofs.Ytjiikpmkedkbkaa
namespace Go.Proofs.Ytjiikpmkedkbkaa
open Go.RowKit Go.ChangeMaps
section
variable {K V : Type} {P : Program} {t k e : TypeId} {ek : K → Value} {kl : K → Lit} {ev : V → Value} {ok : K → Prop} {z : Value} {o : Oper} {a : Act} {C : Act → World → Prop} {Q : Exit → Act → World → Prop} {ops : Array Oper} {rest : List Oper} {E : Prop}

theorem step_of_wp {w : World} (hg : o.guard = none) (h : Oper.wp P o a w C Q) : if Region.wanted o (yielded ops a.tmps) = true then Oper.wp P o a w C Q else E := by
  rw [if_pos (by simp [Region.wanted, hg])]
  exact h
theorem wp_vlook [DecidableEq K] (w : World) (m x : Operand) (c : Bool) (hop : o.op = Op.lookup t m x c) (T : MT P t k e ek kl ev ok z) (b : Nat) (M : List (K × V)) (hm : a.eval m = .map (some b)) (h : VMap P k kl ev w b M) (x0 : K) (hx : a.eval x = ek x0) (hok : ok x0) (hK : C (a.put o.dst (if c then .tuple #[((mget M x0).map ev).getD z, .bool (mget M x0).isSome] else ((mget M x0).map ev).getD z)) w) : Oper.wp P o a w C Q := by
  have hrun := h.look T x0 hok c
  unfold Oper.wp
  simp [execOp, hop, hm, hx, hrun, Result.andThen]
  exact hK
theorem wpList_vlook [DecidableEq K] (w : World) (hg : o.guard = none) (m x : Operand) (c : Bool) (hop : o.op = Op.lookup t m x c) (T : MT P t k e ek kl ev ok z) (b : Nat) (M : List (K × V)) (hm : a.eval m = .map (some b)) (h : VMap P k kl ev w b M) (x0 : K) (hx : a.eval x = ek x0) (hok : ok x0) (hK : wpList P ops Q rest (a.put o.dst (if c then .tuple #[((mget M x0).map ev).getD z, .bool (mget M x0).isSome] else ((mget M x0).map ev).getD z)) w) : wpList P ops Q (o :: rest) a w :=
  wpList_plain hg fun _ hC => wp_vlook w m x c hop T b M hm h x0 hx hok (hC _ _ (hK))
theorem step_vlook [DecidableEq K] (w : World) (hg : o.guard = none) (m x : Operand) (c : Bool) (hop : o.op = Op.lookup t m x c) (T : MT P t k e ek kl ev ok z) (b : Nat) (M : List (K × V)) (hm : a.eval m = .map (some b)) (h : VMap P k kl ev w b M) (x0 : K) (hx : a.eval x = ek x0) (hok : ok x0) (hK : C (a.put o.dst (if c then .tuple #[((mget M x0).map ev).getD z, .bool (mget M x0).isSome] else ((mget M x0).map ev).getD z)) w) : if Region.wanted o (yielded ops a.tmps) = true then Oper.wp P o a w C Q else E :=
  step_of_wp hg (wp_vlook w m x c hop T b M hm h x0 hx hok hK)
theorem wp_vstore [DecidableEq K] (w : World) (m x v : Operand) (hop : o.op = Op.mapUpdate t m x v) (T : MT P t k e ek kl ev ok z) (b : Nat) (M : List (K × V)) (hm : a.eval m = .map (some b)) (h : VMap P k kl ev w b M) (x0 : K) (u0 : V) (hx : a.eval x = ek x0) (hv : a.eval v = ev u0) (hok : ok x0) (hn : M.length < maxLen) (hK : ∀ w', VMap P k kl ev w' b (mput M x0 u0) → w.mapTurned w' b → C (a.put o.dst undef) w') : Oper.wp P o a w C Q := by
  obtain ⟨w', hrun, r1, r2⟩ := h.store T x0 hok u0 hn
  unfold Oper.wp
  simp [execOp, hop, hm, hx, hv, hrun, Result.andThen]
  exact hK w' r1 r2
theorem wpList_vstore [DecidableEq K] (w : World) (hg : o.guard = none) (m x v : Operand) (hop : o.op = Op.mapUpdate t m x v) (T : MT P t k e ek kl ev ok z) (b : Nat) (M : List (K × V)) (hm : a.eval m = .map (some b)) (h : VMap P k kl ev w b M) (x0 : K) (u0 : V) (hx : a.eval x = ek x0) (hv : a.eval v = ev u0) (hok : ok x0) (hn : M.length < maxLen) (hK : ∀ w', VMap P k kl ev w' b (mput M x0 u0) → w.mapTurned w' b → wpList P ops Q rest (a.put o.dst undef) w') : wpList P ops Q (o :: rest) a w :=
  wpList_plain hg fun _ hC => wp_vstore w m x v hop T b M hm h x0 u0 hx hv hok hn (fun w' h1 h2 => hC _ _ (hK w' h1 h2))
theorem step_vstore [DecidableEq K] (w : World) (hg : o.guard = none) (m x v : Operand) (hop : o.op = Op.mapUpdate t m x v) (T : MT P t k e ek kl ev ok z) (b : Nat) (M : List (K × V)) (hm : a.eval m = .map (some b)) (h : VMap P k kl ev w b M) (x0 : K) (u0 : V) (hx : a.eval x = ek x0) (hv : a.eval v = ev u0) (hok : ok x0) (hn : M.length < maxLen) (hK : ∀ w', VMap P k kl ev w' b (mput M x0 u0) → w.mapTurned w' b → C (a.put o.dst undef) w') : if Region.wanted o (yielded ops a.tmps) = true then Oper.wp P o a w C Q else E :=
  step_of_wp hg (wp_vstore w m x v hop T b M hm h x0 u0 hx hv hok hn hK)
theorem wp_vdel [DecidableEq K] (w : World) (m x : Operand) (hop : o.op = Op.call { callee := Callee.builtin Builtin.delete, args := #[m, x], argTypes := #[t, k] }) (T : MT P t k e ek kl ev ok z) (b : Nat) (M : List (K × V)) (hm : a.eval m = .map (some b)) (h : VMap P k kl ev w b M) (x0 : K) (hx : a.eval x = ek x0) (hok : ok x0) (hK : ∀ w', VMap P k kl ev w' b (mdel M x0) → w.mapTurned w' b → C (a.put o.dst (.tuple #[])) w') : Oper.wp P o a w C Q := by
  obtain ⟨w', hrun, r1, r2⟩ := h.drop T x0 hok o.type
  unfold Oper.wp
  simp [execOp, hop, resolve, invoke, builtin, hm, hx, hrun, Result.andThen]
  exact hK w' r1 r2
theorem wpList_vdel [DecidableEq K] (w : World) (hg : o.guard = none) (m x : Operand) (hop : o.op = Op.call { callee := Callee.builtin Builtin.delete, args := #[m, x], argTypes := #[t, k] }) (T : MT P t k e ek kl ev ok z) (b : Nat) (M : List (K × V)) (hm : a.eval m = .map (some b)) (h : VMap P k kl ev w b M) (x0 : K) (hx : a.eval x = ek x0) (hok : ok x0) (hK : ∀ w', VMap P k kl ev w' b (mdel M x0) → w.mapTurned w' b → wpList P ops Q rest (a.put o.dst (.tuple #[])) w') : wpList P ops Q (o :: rest) a w :=
  wpList_plain hg fun _ hC => wp_vdel w m x hop T b M hm h x0 hx hok (fun w' h1 h2 => hC _ _ (hK w' h1 h2))
theorem step_vdel [DecidableEq K] (w : World) (hg : o.guard = none) (m x : Operand) (hop : o.op = Op.call { callee := Callee.builtin Builtin.delete, args := #[m, x], argTypes := #[t, k] }) (T : MT P t k e ek kl ev ok z) (b : Nat) (M : List (K × V)) (hm : a.eval m = .map (some b)) (h : VMap P k kl ev w b M) (x0 : K) (hx : a.eval x = ek x0) (hok : ok x0) (hK : ∀ w', VMap P k kl ev w' b (mdel M x0) → w.mapTurned w' b → C (a.put o.dst (.tuple #[])) w') : if Region.wanted o (yielded ops a.tmps) = true then Oper.wp P o a w C Q else E :=
  step_of_wp hg (wp_vdel w m x hop T b M hm h x0 hx hok hK)
theorem wp_vlen (w : World) (m : Operand) (hop : o.op = Op.call { callee := Callee.builtin Builtin.len, args := #[m], argTypes := #[t] }) (ht : P.underlying t = some (.map k e)) (b : Nat) (M : List (K × V)) (hm : a.eval m = .map (some b)) (h : VMap P k kl ev w b M) (hK : C (a.put o.dst (.int .i64 M.length)) w) : Oper.wp P o a w C Q := by
  have hrun := h.len ht o.type
  unfold Oper.wp
  simp [execOp, hop, resolve, invoke, builtin, hm, hrun, Result.andThen]
  exact hK
theorem wpList_vlen (w : World) (hg : o.guard = none) (m : Operand) (hop : o.op = Op.call { callee := Callee.builtin Builtin.len, args := #[m], argTypes := #[t] }) (ht : P.underlying t = some (.map k e)) (b : Nat) (M : List (K × V)) (hm : a.eval m = .map (some b)) (h : VMap P k kl ev w b M) (hK : wpList P ops Q rest (a.put o.dst (.int .i64 M.length)) w) : wpList P ops Q (o :: rest) a w :=
  wpList_plain hg fun _ hC => wp_vlen w m hop ht b M hm h (hC _ _ (hK))
theorem step_vlen (w : World) (hg : o.guard = none) (m : Operand) (hop : o.op = Op.call { callee := Callee.builtin Builtin.len, args := #[m], argTypes := #[t] }) (ht : P.underlying t = some (.map k e)) (b : Nat) (M : List (K × V)) (hm : a.eval m = .map (some b)) (h : VMap P k kl ev w b M) (hK : C (a.put o.dst (.int .i64 M.length)) w) : if Region.wanted o (yielded ops a.tmps) = true then Oper.wp P o a w C Q else E :=
  step_of_wp hg (wp_vlen w m hop ht b M hm h hK)
theorem wp_vrange (w : World) (m : Operand) (hop : o.op = Op.range t m) (T : MT P t k e ek kl ev ok z) (b : Nat) (M : List (K × V)) (hm : a.eval m = .map (some b)) (h : VMap P k kl ev w b M) (hK : ∀ w', Iter P k kl ev w' b w.heap.size M M → Fr [] w w' → w'.heap.size = w.heap.size + 1 → C (a.put o.dst (.pointer (some ⟨w.heap.size, 0, none⟩))) w') : Oper.wp P o a w C Q := by
  obtain ⟨w', hrun, r1, r2, r3⟩ := h.range T
  unfold Oper.wp
  simp [execOp, hop, hm, hrun, Result.andThen]
  exact hK w' r1 r2 r3
theorem wpList_vrange (w : World) (hg : o.guard = none) (m : Operand) (hop : o.op = Op.range t m) (T : MT P t k e ek kl ev ok z) (b : Nat) (M : List (K × V)) (hm : a.eval m = .map (some b)) (h : VMap P k kl ev w b M) (hK : ∀ w', Iter P k kl ev w' b w.heap.size M M → Fr [] w w' → w'.heap.size = w.heap.size + 1 → wpList P ops Q rest (a.put o.dst (.pointer (some ⟨w.heap.size, 0, none⟩))) w') : wpList P ops Q (o :: rest) a w :=
  wpList_plain hg fun _ hC => wp_vrange w m hop T b M hm h (fun w' h1 h2 h3 => hC _ _ (hK w' h1 h2 h3))
theorem step_vrange (w : World) (hg : o.guard = none) (m : Operand) (hop : o.op = Op.range t m) (T : MT P t k e ek kl ev ok z) (b : Nat) (M : List (K × V)) (hm : a.eval m = .map (some b)) (h : VMap P k kl ev w b M) (hK : ∀ w', Iter P k kl ev w' b w.heap.size M M → Fr [] w w' → w'.heap.size = w.heap.size + 1 → C (a.put o.dst (.pointer (some ⟨w.heap.size, 0, none⟩))) w') : if Region.wanted o (yielded ops a.tmps) = true then Oper.wp P o a w C Q else E :=
  step_of_wp hg (wp_vrange w m hop T b M hm h hK)
theorem wp_vdel_iter [DecidableEq K] (w : World) (m x : Operand) (hop : o.op = Op.call { callee := Callee.builtin Builtin.delete, args := #[m, x], argTypes := #[t, k] }) (T : MT P t k e ek kl ev ok z) (b r : Nat) (M left : List (K × V)) (hm : a.eval m = .map (some b)) (h : Iter P k kl ev w b r M left) (x0 : K) (hx : a.eval x = ek x0) (hok : ok x0) (hK : ∀ w', Iter P k kl ev w' b r (mdel M x0) (mdel left x0) → w.mapTurned w' b → C (a.put o.dst (.tuple #[])) w') : Oper.wp P o a w C Q := by
  obtain ⟨w', hrun, r1, r2⟩ := h.drop T x0 hok o.type
  unfold Oper.wp
  simp [execOp, hop, resolve, invoke, builtin, hm, hx, hrun, Result.andThen]
  exact hK w' r1 r2
theorem wpList_vdel_iter [DecidableEq K] (w : World) (hg : o.guard = none) (m x : Operand) (hop : o.op = Op.call { callee := Callee.builtin Builtin.delete, args := #[m, x], argTypes := #[t, k] }) (T : MT P t k e ek kl ev ok z) (b r : Nat) (M left : List (K × V)) (hm : a.eval m = .map (some b)) (h : Iter P k kl ev w b r M left) (x0 : K) (hx : a.eval x = ek x0) (hok : ok x0) (hK : ∀ w', Iter P k kl ev w' b r (mdel M x0) (mdel left x0) → w.mapTurned w' b → wpList P ops Q rest (a.put o.dst (.tuple #[])) w') : wpList P ops Q (o :: rest) a w :=
  wpList_plain hg fun _ hC => wp_vdel_iter w m x hop T b r M left hm h x0 hx hok (fun w' h1 h2 => hC _ _ (hK w' h1 h2))
theorem step_vdel_iter [DecidableEq K] (w : World) (hg : o.guard = none) (m x : Operand) (hop : o.op = Op.call { callee := Callee.builtin Builtin.delete, args := #[m, x], argTypes := #[t, k] }) (T : MT P t k e ek kl ev ok z) (b r : Nat) (M left : List (K × V)) (hm : a.eval m = .map (some b)) (h : Iter P k kl ev w b r M left) (x0 : K) (hx : a.eval x = ek x0) (hok : ok x0) (hK : ∀ w', Iter P k kl ev w' b r (mdel M x0) (mdel left x0) → w.mapTurned w' b → C (a.put o.dst (.tuple #[])) w') : if Region.wanted o (yielded ops a.tmps) = true then Oper.wp P o a w C Q else E :=
  step_of_wp hg (wp_vdel_iter w m x hop T b r M left hm h x0 hx hok hK)
theorem wpList_vnext (w : World) (hg : o.guard = none) (it : Operand) (hop : o.op = Op.next it false) (T : MT P t k e ek kl ev ok z) (b r : Nat) (M left : List (K × V)) (hkv : ∀ q ∈ M, ok q.1)
    (hit : a.eval it = .pointer (some ⟨r, 0, none⟩)) (h : Iter P k kl ev w b r M left)
    (hDone : left = [] → wpList P ops Q rest (a.put o.dst (.tuple #[.bool false])) w)
    (hMore : ∀ (x : K) (u : V) (left' : List (K × V)) (w' : World), left.Perm ((x, u) :: left') → (x, u) ∈ M → Iter P k kl ev w' b r M left' → Fr [r] w w' → w'.heap.size = w.heap.size →
      (Instr.entry (.pointer (some ⟨r, 0, none⟩))).run P w' = .ok (.tuple #[ek x, ev u]) w' → wpList P ops Q rest (a.put o.dst (.tuple #[.bool true, ek x, ev u])) w') :
    wpList P ops Q (o :: rest) a w := by
  refine wpList_plain hg fun K' hK' => ?_
  unfold Oper.wp
  rcases h.next T hkv o.type with ⟨h0, hrun⟩ | ⟨x, u, left', w', hp, hm, hrun, hi, hf, hs, hen⟩
  · simp [execOp, hop, hit, hrun, Result.andThen]
    exact hK' _ _ (hDone h0)
  · simp [execOp, hop, hit, hrun, Result.andThen]
    exact hK' _ _ (hMore x u left' w' hp hm hi hf hs hen)
end
end Go.Proofs.Ytjiikpmkedkbkaa
namespace Go.Proofs.Ytjiikpmkedkbkaa
open Go.RowKit

theorem block_of_add (a : Addr) (n : Nat) : (a.add n).block = a.block := by unfold Addr.add; split <;> rfl
theorem add_of_add (a : Addr) (i j : Nat) : (a.add i).add j = a.add (i + j) := by
  unfold Addr.add
  by_cases hi : i = 0 <;> by_cases hj : j = 0 <;> simp [hi, hj, Nat.add_assoc]

def Reads (w : World) (B size : Nat) (A : Option Addr) (n : Nat) (xs : List Value) : Prop :=
  xs.length = n * size ∧ (0 < n → ∃ ad, A = some ad ∧ ad.block < B ∧ ∀ j u, xs[j]? = some u → w.cell? (ad.add j) = some u)

section
variable {w w' : World} {B B' size n : Nat} {A : Option Addr} {xs : List Value}
theorem Reads.none_ : Reads w B size A 0 [] := ⟨by simp, fun h => absurd h (by omega)⟩
theorem Reads.at_ {k : Nat} (h : Reads w B 1 A n xs) (hk : k < n) : ∃ ad u, A = some ad ∧ ad.block < B ∧ xs[k]? = some u ∧ w.cell? (ad.add k) = some u := by
  obtain ⟨ad, e, hb, hc⟩ := h.2 (by omega)
  have hl : k < xs.length := by have := h.1; omega
  exact ⟨ad, xs[k], e, hb, List.getElem?_eq_getElem hl, hc k _ (List.getElem?_eq_getElem hl)⟩
theorem Reads.keep (h : Reads w B size A n xs) (hk : ∀ p : Addr, p.block < B → w'.cell? p = w.cell? p) : Reads w' B size A n xs :=
  ⟨h.1, fun hn => by
    obtain ⟨ad, e, hb, hc⟩ := h.2 hn
    exact ⟨ad, e, hb, fun j u hu => (hk _ (by rw [block_of_add]; exact hb)).trans (hc j u hu)⟩⟩
theorem Reads.more (h : Reads w B size A n xs) (hB : B ≤ B') : Reads w B' size A n xs :=
  ⟨h.1, fun hn => by
    obtain ⟨ad, e, hb, hc⟩ := h.2 hn
    exact ⟨ad, e, by omega, hc⟩⟩
theorem Reads.below (h : Reads w B size A n xs) (hb : Below B w w') : Reads w' B size A n xs := h.keep fun _ hp => hb.cell hp
theorem Reads.drew (h : Reads w B size A n xs) : Reads w.drew B size A n xs := h
theorem Reads.drewN (h : Reads w B size A n xs) (k : Nat) : Reads (w.drewN k) B size A n xs := h
theorem Reads.alloc (h : Reads w B size A n xs) (hB : B ≤ w.heap.size) (o : Obj) : Reads (w.alloc o) B size A n xs := h.keep fun p hp => World.cell?_alloc_lt w o p (by omega)
theorem Reads.setCell (h : Reads w B size A n xs) {p : Addr} (hB : B ≤ p.block) (u : Value) : Reads (w.setCell p u) B size A n xs :=
  h.keep fun q hq => World.cell?_setCell_other w p q u (fun e => by subst e; omega)
theorem Reads.grown (h : Reads w B size A n xs) {row : Option Nat} (hg : w.grownBy w' row) (hB : B ≤ w.heap.size) (hr : ∀ g, row = some g → B ≤ g) : Reads w' B size A n xs :=
  h.keep fun p hp => World.cell?_of_block (hg.block p.block (by omega) (fun e => by have := hr _ e.symm; omega))
theorem Reads.cut (h : Reads w B size A n xs) {k cap : Nat} (hk : k ≤ n) (hc : n ≤ cap) :
    Reads w B size (if cap = k then A else A.map (·.add (k * size))) (n - k) (xs.drop (k * size)) := by
  refine ⟨by rw [List.length_drop, h.1, Nat.sub_mul], fun hn => ?_⟩
  obtain ⟨ad, rfl, hb, hcell⟩ := h.2 (by omega)
  rw [if_neg (by omega)]
  refine ⟨ad.add (k * size), rfl, by rw [block_of_add]; exact hb, fun j u hu => ?_⟩
  rw [add_of_add]
  exact hcell _ u (by rw [← hu, List.getElem?_drop])
theorem Reads.of_own {base : Nat} {e : TypeId} {c : Nat} (h : w.ownsRow base e size (.slice A n c) n xs) : Reads w w.heap.size size A n xs := by
  refine ⟨h.1, fun hn => ?_⟩
  obtain ⟨g, cap, hv, _, hlt⟩ := h.form hn
  have hA : A = some ⟨g, 0, none⟩ := by injection hv
  subst hA
  exact ⟨_, rfl, hlt, h.cells (g := g) rfl⟩
end

section
variable {P : Program} (w : World)

theorem run_append_of_nil (base : Nat) (t ty e : TypeId) (i : TypeInfo) (size : Nat) (ht : P.underlying t = some (.slice e)) (hi : P.info? e = some i)
    (v : Value) (n : Nat) (xs : List Value) (hown : w.ownsRow base e size v n xs) (c : Nat) : (Builtin.append_ #[t, t] ty #[v, .slice none 0 c]).run P w = .ok v w := by
  rcases hown.2 with ⟨rfl, rfl⟩ | ⟨g, cap, cur, rfl, _, _, hnc, _⟩
  · simp [Builtin.append_, run_underlying ht, sizeOf, typeInfo, hi, Builtin.lenOf, Builtin.firstCells]
  · simp [Builtin.append_, run_underlying ht, sizeOf, typeInfo, hi, Builtin.lenOf, Builtin.firstCells, hnc, storeCells]

theorem run_append_any (base : Nat) (t ty e : TypeId) (i : TypeInfo) (z : Value) (size bytes : Nat) (ht : P.underlying t = some (.slice e)) (hi : P.info? e = some i) (hz : i.zero = some z)
    (hsize : i.size = size) (hby : i.bytes = bytes) (hzs : z.cells.size = size) (hsz : 0 < size)
    (v : Value) (n : Nat) (xs : List Value) (hown : w.ownsRow base e size v n xs)
    (B : Nat) (A : Option Addr) (m c : Nat) (news : List Value) (hr : Reads w B size A m news) (h1 : ∀ u ∈ news, u.oneCell' = true)
    (h63 : n + m ≤ maxLen) (hbytes : (n + m) * bytes ≤ 140737488355328) (hbase : base ≤ w.heap.size) :
    ∃ v' w', (Builtin.append_ #[t, t] ty #[v, .slice A m c]).run P w = .ok v' w' ∧ w'.ownsRow base e size v' (n + m) (xs ++ news) ∧ w.grownBy w' v.ownBlock ∧
      (v'.ownBlock = v.ownBlock ∨ v'.ownBlock = some w.heap.size) := by
  rcases A with _ | ad
  · have hm : m = 0 := by
      rcases Nat.eq_zero_or_pos m with h0 | h0
      · exact h0
      · obtain ⟨ad, h, _⟩ := hr.2 h0
        cases h
    subst hm
    have hn : news = [] := List.eq_nil_of_length_eq_zero (by simpa using hr.1)
    subst hn
    exact ⟨v, w, run_append_of_nil w base t ty e i size ht hi v n xs hown c, by simpa using hown, World.grownBy.refl w _, .inl rfl⟩
  · have hcells : ∀ j u, news[j]? = some u → w.cell? (ad.add j) = some u := by
      intro j u hu
      rcases Nat.eq_zero_or_pos m with h0 | h0
      · subst h0
        have hn : news = [] := List.eq_nil_of_length_eq_zero (by simpa using hr.1)
        subst hn
        simp at hu
      · obtain ⟨ad', h, _, hc⟩ := hr.2 h0
        injection h with h
        subst h
        exact hc j u hu
    obtain ⟨v', w', hrun, h2, h3, _, h5⟩ := run_append_own_at (P := P) w base t ty e i z size bytes ht hi hz hsize hby hzs hsz v n xs hown ad m c news hr.1 hcells h1 h63 hbytes hbase
    exact ⟨v', w', hrun, h2, h3, h5⟩

theorem wp_append_any {o : Oper} {a : Act} {K : Act → World → Prop} {Q : Exit → Act → World → Prop} (s x : Operand) (t : TypeId)
    (ho : o.op = .call { callee := .builtin .append, args := #[s, x], argTypes := #[t, t] })
    (base : Nat) (e : TypeId) (i : TypeInfo) (z : Value) (size bytes : Nat) (ht : P.underlying t = some (.slice e)) (hi : P.info? e = some i) (hz : i.zero = some z)
    (hsize : i.size = size) (hby : i.bytes = bytes) (hzs : z.cells.size = size) (hsz : 0 < size)
    (v : Value) (n : Nat) (xs : List Value) (hs : a.eval s = v) (hown : w.ownsRow base e size v n xs)
    (B : Nat) (A : Option Addr) (m c : Nat) (news : List Value) (hx : a.eval x = .slice A m c) (hr : Reads w B size A m news) (h1 : ∀ u ∈ news, u.oneCell' = true)
    (h63 : n + m ≤ maxLen) (hbytes : (n + m) * bytes ≤ 140737488355328) (hbase : base ≤ w.heap.size)
    (h : ∀ v' w', w'.ownsRow base e size v' (n + m) (xs ++ news) → w.grownBy w' v.ownBlock → (v'.ownBlock = v.ownBlock ∨ v'.ownBlock = some w.heap.size) → K (a.put o.dst v') w') : o.wp P a w K Q := by
  obtain ⟨v', w', hrun, h2, h3, h4⟩ := run_append_any (P := P) w base t o.type e i z size bytes ht hi hz hsize hby hzs hsz v n xs hown B A m c news hr h1 h63 hbytes hbase
  unfold Oper.wp execOp
  simp only [ho, resolve, invoke, builtin, Sem.run_bind, Sem.run_pure, Result.andThen_ok, List.map_toArray, List.map_cons, List.map_nil, hs, hx, hrun]
  exact h v' w' h2 h3 h4

theorem wpList_append_any {ops : Array Oper} {rest : List Oper} {o : Oper} {a : Act} {Q : Exit → Act → World → Prop} (hgd : o.guard = none) (s x : Operand) (t : TypeId)
    (ho : o.op = .call { callee := .builtin .append, args := #[s, x], argTypes := #[t, t] })
    (base : Nat) (e : TypeId) (i : TypeInfo) (z : Value) (size bytes : Nat) (ht : P.underlying t = some (.slice e)) (hi : P.info? e = some i) (hz : i.zero = some z)
    (hsize : i.size = size) (hby : i.bytes = bytes) (hzs : z.cells.size = size) (hsz : 0 < size)
    (v : Value) (n : Nat) (xs : List Value) (hs : a.eval s = v) (hown : w.ownsRow base e size v n xs)
    (B : Nat) (A : Option Addr) (m c : Nat) (news : List Value) (hx : a.eval x = .slice A m c) (hr : Reads w B size A m news) (h1 : ∀ u ∈ news, u.oneCell' = true)
    (h63 : n + m ≤ maxLen) (hbytes : (n + m) * bytes ≤ 140737488355328) (hbase : base ≤ w.heap.size)
    (h : ∀ v' w', w'.ownsRow base e size v' (n + m) (xs ++ news) → w.grownBy w' v.ownBlock → (v'.ownBlock = v.ownBlock ∨ v'.ownBlock = some w.heap.size) → wpList P ops Q rest (a.put o.dst v') w') : wpList P ops Q (o :: rest) a w :=
  wpList_plain hgd fun _ hK => wp_append_any w s x t ho base e i z size bytes ht hi hz hsize hby hzs hsz v n xs hs hown B A m c news hx hr h1 h63 hbytes hbase fun v' w' h2 h3 h4 => hK _ _ (h v' w' h2 h3 h4)

theorem step_append_any {ops : Array Oper} {o : Oper} {a : Act} {K : Act → World → Prop} {Q : Exit → Act → World → Prop} {E : Prop} (hgd : o.guard = none) (s x : Operand) (t : TypeId)
    (ho : o.op = .call { callee := .builtin .append, args := #[s, x], argTypes := #[t, t] })
    (base : Nat) (e : TypeId) (i : TypeInfo) (z : Value) (size bytes : Nat) (ht : P.underlying t = some (.slice e)) (hi : P.info? e = some i) (hz : i.zero = some z)
    (hsize : i.size = size) (hby : i.bytes = bytes) (hzs : z.cells.size = size) (hsz : 0 < size)
    (v : Value) (n : Nat) (xs : List Value) (hs : a.eval s = v) (hown : w.ownsRow base e size v n xs)
    (B : Nat) (A : Option Addr) (m c : Nat) (news : List Value) (hx : a.eval x = .slice A m c) (hr : Reads w B size A m news) (h1 : ∀ u ∈ news, u.oneCell' = true)
    (h63 : n + m ≤ maxLen) (hbytes : (n + m) * bytes ≤ 140737488355328) (hbase : base ≤ w.heap.size)
    (h : ∀ v' w', w'.ownsRow base e size v' (n + m) (xs ++ news) → w.grownBy w' v.ownBlock → (v'.ownBlock = v.ownBlock ∨ v'.ownBlock = some w.heap.size) → K (a.put o.dst v') w') :
    if Region.wanted o (yielded ops a.tmps) = true then Oper.wp P o a w K Q else E := by
  have hw : Region.wanted o (yielded ops a.tmps) = true := by simp [Region.wanted, hgd]
  rw [if_pos hw]
  exact wp_append_any w s x t ho base e i z size bytes ht hi hz hsize hby hzs hsz v n xs hs hown B A m c news hx hr h1 h63 hbytes hbase h
end

theorem Reads.fr {w w' : World} {B size n : Nat} {A : Option Addr} {xs : List Value} {S : List Nat} (h : Reads w B size A n xs) (hB : B ≤ w.heap.size) (hf : Fr S w w') (hs : ∀ ad, A = some ad → ad.block ∉ S) : Reads w' B size A n xs :=
  ⟨h.1, fun hn => by
    obtain ⟨ad, e, hb, hc⟩ := h.2 hn
    exact ⟨ad, e, hb, fun j u hu => (hf.cell (by rw [block_of_add]; omega) (by rw [block_of_add]; exact hs ad e)).trans (hc j u hu)⟩⟩

/-- An element type: its slice type t, its own number e, its cells, its bytes. -/
structure ET (P : Program) (t e size bytes : Nat) (i : TypeInfo) (z : Value) : Prop where
  ht : P.underlying t = some (.slice e)
  hi : P.info? e = some i
  hz : i.zero = some z
  hs : i.size = size
  hb : i.bytes = bytes
  hzs : z.cells.size = size
  pos : 0 < size

/-- v is nil, or the head of a row that holds the elements L. -/
def OwnL {X : Type} (e size : Nat) (enc : X → List Value) (w : World) (v : Value) (L : List X) : Prop := w.ownsRow 0 e size v L.length (L.flatMap enc)

section
variable {X : Type} {P : Program} {t e size bytes : Nat} {i0 : TypeInfo} {z : Value} {enc : X → List Value} {w w' : World} {v : Value} {L : List X}
theorem OwnL.nil : OwnL e size enc w (.slice none 0 0) ([] : List X) := World.ownsRow_nil _ _ _ _
theorem OwnL.val (h : OwnL e size enc w v L) : ∃ A cap, v = .slice A L.length cap := by
  rcases h.2 with ⟨rfl, h0⟩ | ⟨g, cap, cur, rfl, _⟩
  · exact ⟨none, 0, by rw [h0]⟩
  · exact ⟨_, _, rfl⟩
theorem OwnL.fr {S : List Nat} (h : OwnL e size enc w v L) (hf : Fr S w w') (hs : ∀ g, v.ownBlock = some g → g ∉ S) : OwnL e size enc w' v L := by
  refine ⟨h.1, ?_⟩
  rcases h.2 with h0 | ⟨g, cap, cur, rfl, hb, hg, r⟩
  · exact .inl h0
  · exact .inr ⟨g, cap, cur, rfl, hb, (hf.block g (Array.getElem?_eq_some_iff.1 hg).1 (hs g rfl)).trans hg, r⟩
theorem OwnL.of_block (h : OwnL e size enc w v L) (hs : ∀ g, v.ownBlock = some g → w'.heap[g]? = w.heap[g]?) : OwnL e size enc w' v L := by
  refine ⟨h.1, ?_⟩
  rcases h.2 with h0 | ⟨g, cap, cur, rfl, hb, hg, r⟩
  · exact .inl h0
  · exact .inr ⟨g, cap, cur, rfl, hb, (hs g rfl).trans hg, r⟩
theorem OwnL.lt (h : OwnL e size enc w v L) {g : Nat} (hg : v.ownBlock = some g) : g < w.heap.size := (World.ownsRow.lt h g hg).2
/-- The row's block is no block of another type. -/
theorem OwnL.ne (h : OwnL e size enc w v L) {b tt : Nat} {cs : Array Value} (hb : Blk w b tt cs) (hne : e ≠ tt) {g : Nat} (hg : v.ownBlock = some g) : g ≠ b := by
  rcases h.2 with ⟨rfl, _⟩ | ⟨g', cap, cur, rfl, _, hh, _⟩
  · simp [Value.ownBlock] at hg
  · rintro rfl
    simp [Value.ownBlock] at hg
    subst hg
    unfold Blk at hb
    rw [hh] at hb
    injection hb with hb
    injection hb with _ ht
    exact hne ht
theorem flat_get (henc : ∀ x, (enc x).length = size) : ∀ (L : List X) (i : Nat) (h : i < L.length) (j : Nat), j < size → (L.flatMap enc)[i * size + j]? = (enc L[i])[j]?
  | x :: L, 0, _, j, hj => by
    rw [List.flatMap_cons, List.getElem?_append_left (by rw [henc]; omega)]
    simp
  | x :: L, i + 1, h, j, hj => by
    rw [List.flatMap_cons, List.getElem?_append_right (by rw [henc, Nat.add_mul]; omega), henc]
    rw [show (i + 1) * size + j - size = i * size + j from by rw [Nat.add_mul]; omega]
    exact flat_get henc L i (by simpa using h) j hj
theorem flat_len (henc : ∀ x, (enc x).length = size) (L : List X) : (L.flatMap enc).length = L.length * size := by
  induction L with
  | nil => simp
  | cons x L ih => simp [ih, henc, Nat.add_mul, Nat.add_comm]
/-- Where there are elements: the address, and each element's cells. -/
theorem OwnL.form (henc : ∀ x, (enc x).length = size) (h : OwnL e size enc w v L) (hn : 0 < L.length) : ∃ g cap, v = .slice (some ⟨g, 0, none⟩) L.length cap ∧ L.length ≤ cap ∧ cap ≤ maxLen ∧ g < w.heap.size ∧
    (∀ i (hi : i < L.length) j, j < size → w.cell? ⟨g, i * size + j, none⟩ = (enc L[i])[j]?) ∧ ∀ o, w.frozen? ⟨g, o, none⟩ = false := by
  rcases h.2 with ⟨rfl, h0⟩ | ⟨g, cap, cur, rfl, hb, hg, hnc, hcm, hcs, htk⟩
  · omega
  · refine ⟨g, cap, rfl, hnc, hcm, (Array.getElem?_eq_some_iff.1 hg).1, fun i hi j hj => ?_, fun o => by simp [World.frozen?, hg]⟩
    rw [cell_of_row w g _ cur e (0, 0) hg, ← flat_get henc L i hi j hj, ← htk, List.getElem?_take, if_pos]
    · simp
    · have : (i + 1) * size ≤ L.length * size := Nat.mul_le_mul_right _ hi
      rw [Nat.add_mul] at this
      omega
theorem OwnL.reads (h : OwnL e size enc w v L) {A : Option Addr} {n cap : Nat} (hv : v = .slice A n cap) : Reads w w.heap.size size A L.length (L.flatMap enc) := by
  obtain ⟨A', cap', h'⟩ := h.val
  rw [hv] at h'
  cases h'
  subst hv
  exact Reads.of_own h
/-- A field of an element is written. -/
theorem OwnL.set (henc : ∀ x, (enc x).length = size) (h : OwnL e size enc w v L) {g i j : Nat} (hg : v.ownBlock = some g) (hi : i < L.length) (hj : j < size) (u : Value) (x : X) (hx : enc x = (enc L[i]).set j u) :
    OwnL e size enc (w.setCell ⟨g, i * size + j, none⟩ u) v (L.set i x) := by
  have e1 : (L.set i x).flatMap enc = (L.flatMap enc).set (i * size + j) u := by
    apply List.ext_getElem?
    intro q
    have hl := flat_len henc L
    have hl' := flat_len henc (L.set i x)
    have hss : 0 < size := by omega
    by_cases hq : q < L.length * size
    · have hq1 : q / size < L.length := Nat.div_lt_of_lt_mul (by rw [Nat.mul_comm]; exact hq)
      have hq2 : q % size < size := Nat.mod_lt _ hss
      have hq3 : q / size * size + q % size = q := by rw [Nat.mul_comm]; exact Nat.div_add_mod q size
      have a1 := flat_get henc (L.set i x) (q / size) (by simpa using hq1) (q % size) hq2
      have a2 := flat_get henc L (q / size) hq1 (q % size) hq2
      rw [hq3] at a1 a2
      rw [a1, List.getElem?_set, a2]
      by_cases hqi : q / size = i
      · have : (L.set i x)[q / size]'(by simpa using hq1) = x := by simp [hqi]
        rw [this, hx]
        rw [List.getElem?_set]
        subst hqi
        by_cases hqj : j = q % size
        · subst hqj
          have e2 : q / size * size + q % size = q := hq3
          rw [if_pos rfl, e2, if_pos rfl, if_pos (by rw [henc]; exact hq2), if_pos (by rw [hl]; exact hq)]
        · have e2 : q / size * size + j ≠ q := fun e => hqj (Nat.add_left_cancel (e.trans hq3.symm))
          rw [if_neg hqj, if_neg e2]
      · have : (L.set i x)[q / size]'(by simpa using hq1) = L[q / size] := List.getElem_set_ne (fun e => hqi e.symm) _
        rw [this, if_neg]
        intro e
        apply hqi
        rw [← e, Nat.mul_comm, Nat.mul_add_div hss, Nat.div_eq_of_lt hj, Nat.add_zero]
    · rw [List.getElem?_eq_none (by rw [hl']; simpa using hq), List.getElem?_eq_none (by rw [List.length_set, hl]; omega)]
  refine ⟨by rw [flat_len henc], ?_⟩
  rcases h.2 with ⟨rfl, h0⟩ | ⟨g', cap, cur, rfl, hb, hgg, hnc, hcm, hcs, htk⟩
  · simp [Value.ownBlock] at hg
  · simp [Value.ownBlock] at hg
    subst hg
    refine .inr ⟨g', cap, cur.setIfInBounds (i * size + j) u, by simp, hb, ?_, by simpa using hnc, hcm, by simpa using hcs, ?_⟩
    · simp [World.setCell, Array.getElem?_modify, hgg]
    · rw [e1, ← htk, List.length_set, Array.toList_setIfInBounds, List.take_set]
/-- 'append' onto a row of the call's own. -/
theorem wpList_appendL {ops : Array Oper} {rest : List Oper} {o : Oper} {a : Act} {Q : Exit → Act → World → Prop} (hgd : o.guard = none) (s x : Operand)
    (ho : o.op = .call { callee := .builtin .append, args := #[s, x], argTypes := #[t, t] }) (T : ET P t e size bytes i0 z) (_henc : ∀ x, (enc x).length = size) (h1 : ∀ x, ∀ u ∈ enc x, u.oneCell' = true)
    (hs : a.eval s = v) (hown : OwnL e size enc w v L) (B : Nat) (A : Option Addr) (m c : Nat) (N : List X) (hx : a.eval x = .slice A m c) (hm : m = N.length) (hr : Reads w B size A m (N.flatMap enc))
    (h63 : L.length + N.length ≤ maxLen) (hbytes : (L.length + N.length) * bytes ≤ 140737488355328)
    (h : ∀ v' w', OwnL e size enc w' v' (L ++ N) → w.grownBy w' v.ownBlock → (v'.ownBlock = v.ownBlock ∨ v'.ownBlock = some w.heap.size) → wpList P ops Q rest (a.put o.dst v') w') : wpList P ops Q (o :: rest) a w := by
  subst hm
  refine wpList_append_any w hgd s x t ho 0 e i0 z size bytes T.ht T.hi T.hz T.hs T.hb T.hzs T.pos v L.length (L.flatMap enc) hs hown B A N.length c (N.flatMap enc) hx hr (fun u hu => ?_) h63 hbytes (Nat.zero_le _) (fun v' w' a1 a2 a3 => h v' w' ?_ a2 a3)
  · obtain ⟨y, hy, hu'⟩ := List.mem_flatMap.1 hu
    exact h1 y u hu'
  · unfold OwnL
    rw [List.length_append, List.flatMap_append]
    exact a1
theorem step_appendL {ops : Array Oper} {o : Oper} {a : Act} {K : Act → World → Prop} {Q : Exit → Act → World → Prop} {E : Prop} (hgd : o.guard = none) (s x : Operand)
    (ho : o.op = .call { callee := .builtin .append, args := #[s, x], argTypes := #[t, t] }) (T : ET P t e size bytes i0 z) (_henc : ∀ x, (enc x).length = size) (h1 : ∀ x, ∀ u ∈ enc x, u.oneCell' = true)
    (hs : a.eval s = v) (hown : OwnL e size enc w v L) (B : Nat) (A : Option Addr) (m c : Nat) (N : List X) (hx : a.eval x = .slice A m c) (hm : m = N.length) (hr : Reads w B size A m (N.flatMap enc))
    (h63 : L.length + N.length ≤ maxLen) (hbytes : (L.length + N.length) * bytes ≤ 140737488355328)
    (h : ∀ v' w', OwnL e size enc w' v' (L ++ N) → w.grownBy w' v.ownBlock → (v'.ownBlock = v.ownBlock ∨ v'.ownBlock = some w.heap.size) → K (a.put o.dst v') w') : if Region.wanted o (yielded ops a.tmps) = true then Oper.wp P o a w K Q else E := by
  subst hm
  refine step_append_any w hgd s x t ho 0 e i0 z size bytes T.ht T.hi T.hz T.hs T.hb T.hzs T.pos v L.length (L.flatMap enc) hs hown B A N.length c (N.flatMap enc) hx hr (fun u hu => ?_) h63 hbytes (Nat.zero_le _) (fun v' w' a1 a2 a3 => h v' w' ?_ a2 a3)
  · obtain ⟨y, hy, hu'⟩ := List.mem_flatMap.1 hu
    exact h1 y u hu'
  · unfold OwnL
    rw [List.length_append, List.flatMap_append]
    exact a1
/-- A one-element block just laid, as the source of an append. -/
theorem reads_new (w : World) (tt : Nat) (x : X) (hx : (enc x).length = size) : Reads (w.alloc (.cells (enc x).toArray tt)) (w.heap.size + 1) size (some ⟨w.heap.size, 0, none⟩) 1 ([x].flatMap enc) := by
  refine ⟨by simp [hx], fun _ => ⟨_, rfl, by simp, fun j u hu => ?_⟩⟩
  have hb := Blk.new w tt (enc x).toArray
  have hadd : (⟨w.heap.size, 0, none⟩ : Addr).add j = ⟨w.heap.size, j, none⟩ := by unfold Addr.add; split <;> simp_all
  rw [hadd, hb.cell]
  simpa using hu
end
end Go.Proofs.Ytjiikpmkedkbkaa
namespace Go.Proofs.Ytjiikpmkedkbkaa
open Go.RowKit

section
variable {X : Type} {w w' : World} {B size n : Nat} {A : Option Addr} {xs : List Value} {enc : X → List Value} {L : List X}
theorem Reads.take (h : Reads w B size A n xs) {k : Nat} (hk : k ≤ n) : Reads w B size A k (xs.take (k * size)) := by
  refine ⟨by rw [List.length_take, h.1]; exact Nat.min_eq_left (Nat.mul_le_mul_right _ hk), fun h0 => ?_⟩
  obtain ⟨ad, e, hb, hc⟩ := h.2 (by omega)
  refine ⟨ad, e, hb, fun j u hu => hc j u ?_⟩
  rw [List.getElem?_take] at hu
  split at hu
  · exact hu
  · cases hu
theorem flat_take (henc : ∀ x, (enc x).length = size) : ∀ (L : List X) (k : Nat), (L.take k).flatMap enc = (L.flatMap enc).take (k * size)
  | [], k => by simp
  | x :: L, 0 => by simp
  | x :: L, k + 1 => by
    rw [List.take_succ_cons, List.flatMap_cons, List.flatMap_cons, flat_take henc L k, List.take_append, henc]
    rw [List.take_of_length_le (i := (k + 1) * size) (by rw [henc, Nat.add_mul]; omega)]
    rw [show (k + 1) * size - size = k * size from by rw [Nat.add_mul]; omega]
theorem flat_drop (henc : ∀ x, (enc x).length = size) : ∀ (L : List X) (k : Nat), (L.drop k).flatMap enc = (L.flatMap enc).drop (k * size)
  | [], k => by simp
  | x :: L, 0 => by simp
  | x :: L, k + 1 => by
    rw [List.drop_succ_cons, List.flatMap_cons, flat_drop henc L k, List.drop_append, henc]
    rw [List.drop_eq_nil_of_le (i := (k + 1) * size) (by rw [henc, Nat.add_mul]; omega)]
    rw [show (k + 1) * size - size = k * size from by rw [Nat.add_mul]; omega]
    rfl
theorem Reads.takeL (henc : ∀ x, (enc x).length = size) (h : Reads w B size A n (L.flatMap enc)) {k : Nat} (hk : k ≤ n) : Reads w B size A k ((L.take k).flatMap enc) := by
  rw [flat_take henc]; exact h.take hk
theorem Reads.cutL (henc : ∀ x, (enc x).length = size) (h : Reads w B size A n (L.flatMap enc)) {k cap : Nat} (hk : k ≤ n) (hc : n ≤ cap) :
    Reads w B size (if cap = k then A else A.map (·.add (k * size))) (n - k) ((L.drop k).flatMap enc) := by
  rw [flat_drop henc]; exact h.cut hk hc
/-- No element is read, wherever. -/
theorem reads_none {w : World} {B size n : Nat} {A : Option Addr} (h : n = 0) : Reads w B size A n ([] : List Value) := ⟨by simp [h], fun hn => absurd hn (by omega)⟩
/-- The elements from place k on. -/
theorem Reads.from_ (henc : ∀ x, (enc x).length = size) {g : Nat} (h : Reads w B size (some ⟨g, 0, none⟩) L.length (L.flatMap enc)) {k off : Nat} (hk : k ≤ L.length) (ho : off = k * size) : Reads w B size (some ⟨g, off, none⟩) (L.length - k) ((L.drop k).flatMap enc) := by
  have h1 := h.cutL henc (k := k) (cap := L.length + 1) hk (by omega)
  rw [if_neg (by omega)] at h1
  subst ho
  have e1 : (⟨g, 0, none⟩ : Addr).add (k * size) = ⟨g, k * size, none⟩ := by unfold Addr.add; split <;> simp_all
  simpa only [Option.map_some, e1] using h1
end
end Go.Proofs.Ytjiikpmkedkbkaa
namespace Go.Proofs.Ytjiikpmkedkbkaa

structure Chg where
  t : Int
  k : Int
  had : Bool
  o0 : Int
  o1 : Int
  o2 : Int
  has : Bool
  n0 : Int
  n1 : Int
  n2 : Int
  deriving DecidableEq

/-- The cells of a change. -/
def Chg.cells (c : Chg) : List Value := [.int .i64 c.t, .int .i64 c.k, .bool c.had, .int .i64 c.o0, .int .i64 c.o1, .int .i64 c.o2, .bool c.has, .int .i64 c.n0, .int .i64 c.n1, .int .i64 c.n2]
theorem Chg.len (c : Chg) : c.cells.length = 10 := rfl
theorem Chg.one (c : Chg) : ∀ u ∈ c.cells, u.oneCell' = true := by
  intro u hu
  simp only [Chg.cells, List.mem_cons, List.not_mem_nil, or_false] at hu
  rcases hu with rfl | rfl | rfl | rfl | rfl | rfl | rfl | rfl | rfl | rfl <;> rfl

structure Rec where
  p : Int
  cs : List Chg
  deriving DecidableEq

namespace Rw
def inI (lo hi x : Int) : Bool := decide (lo ≤ x ∧ x ≤ hi)
def row (t k a b c : Int) : Bool := inI 0 3 t && inI 1 1000000 k && (inI (-1000000000) 1000000000 a && inI (-1000000000) 1000000000 b && inI (-1000000000) 1000000000 c)
def sound (t k : Int) (there : Bool) (a b c : Int) : Bool := if there = true then row t k a b c else decide (a = 0 ∧ b = 0 ∧ c = 0)
def differs (c : Chg) : Bool := decide (c.o0 ≠ c.n0 ∨ c.o1 ≠ c.n1 ∨ c.o2 ≠ c.n2)
def turns (c : Chg) : Bool := c.had != c.has || c.had && differs c
def chg (c : Chg) : Bool := turns c && sound c.t c.k c.had c.o0 c.o1 c.o2 && sound c.t c.k c.has c.n0 c.n1 c.n2
/-- Behind a change of table lt and key lk. -/
def behind (lt lk : Int) (c : Chg) : Bool := decide (lt < c.t ∨ (lt = c.t ∧ lk < c.k))
def chgs (lt lk : Int) : List Chg → Bool
  | [] => true
  | c :: cs => chg c && behind lt lk c && chgs c.t c.k cs
def valid (r : Rec) : Bool := inI 1 10000 r.p && inI 1 8 r.cs.length && chgs (-1) 0 r.cs
end Rw
end Go.Proofs.Ytjiikpmkedkbkaa
