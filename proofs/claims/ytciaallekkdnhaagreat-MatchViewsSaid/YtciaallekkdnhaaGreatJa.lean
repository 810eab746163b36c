/-
  A REGION THAT DRAWS ITS ORDER, its head run in worlds of which S holds (loads are taken first, calls come as they come), its tail, which waits for the head, walked as it stands: S need not hold behind the tail's stores.
-/
import Derived.WalkKit
import Derived.WalkLawsBesides
import Derived.Maps.RangeWalk
import Derived.Deep.AppendLies
import Derived.Deep.Draws
import Derived.Lib.Hide
import Derived.Test.YtciaallekkdnhaaGreatRows
import Derived.ProofKit
import Derived.OpenShut
import Derived.SizedLaws
import Derived.Deep.Slices
import Derived.Deep.Fields
import Derived.StillTail
import Derived.Deep.RegionHeld
namespace Go.Proofs.YtciaallekkdnhaaGreat
open Go.RowKit Go.ChangeMaps Go.MapKept Go.WideShapes
open Go.WideElems (Fit rd rg pl rd_key rd_val rg_of rd_mk)
open Go.Maps (Keyed)

/-- Induction from the end. -/
theorem rev_ind {α : Type} {motive : List α → Prop} (L : List α) (h0 : motive []) (h1 : ∀ l b, motive l → motive (l ++ [b])) : motive L := by
  have h : ∀ l : List α, motive l.reverse := by
    intro l
    induction l with
    | nil => exact h0
    | cons a l ih => rw [List.reverse_cons]; exact h1 _ _ ih
  have := h L.reverse
  rwa [List.reverse_reverse] at this

/-! ### Frames -/

/-- Of the blocks that w has only those in S may have changed. -/
structure Fr (S : List Nat) (w w' : World) : Prop where
  os : w'.os = w.os
  tape : w'.tape = w.tape
  output : w'.output = w.output
  size : w.heap.size ≤ w'.heap.size
  block : ∀ k, k < w.heap.size → k ∉ S → w'.heap[k]? = w.heap[k]?

section
variable {S S' : List Nat} {a b c w w' : World}
theorem Fr.refl (S : List Nat) (w : World) : Fr S w w := ⟨rfl, rfl, rfl, Nat.le_refl _, fun _ _ _ => rfl⟩
theorem Fr.trans (h : Fr S a b) (k : Fr S b c) : Fr S a c :=
  ⟨k.os.trans h.os, k.tape.trans h.tape, k.output.trans h.output, Nat.le_trans h.size k.size,
    fun i hi hn => (k.block i (Nat.lt_of_lt_of_le hi h.size) hn).trans (h.block i hi hn)⟩
/-- The second step may also write what is new since the first world. -/
theorem Fr.trans' (h : Fr S a b) (k : Fr S' b c) (hs : ∀ i ∈ S', i ∈ S ∨ a.heap.size ≤ i) : Fr S a c :=
  ⟨k.os.trans h.os, k.tape.trans h.tape, k.output.trans h.output, Nat.le_trans h.size k.size,
    fun i hi hn => (k.block i (Nat.lt_of_lt_of_le hi h.size) (fun hm => by
      rcases hs i hm with h1 | h1
      · exact hn h1
      · omega)).trans (h.block i hi hn)⟩
theorem Fr.mono (h : Fr S a b) (hs : ∀ i ∈ S, i ∈ S' ∨ a.heap.size ≤ i) : Fr S' a b :=
  ⟨h.os, h.tape, h.output, h.size, fun i hi hn => h.block i hi (fun hm => by
    rcases hs i hm with h1 | h1
    · exact hn h1
    · omega)⟩
theorem Fr.drew (h : Fr S a w) : Fr S a w.drew := ⟨h.os, h.tape, h.output, h.size, h.block⟩
theorem Fr.drewN (h : Fr S a w) (n : Nat) : Fr S a (w.drewN n) := ⟨h.os, h.tape, h.output, h.size, h.block⟩
theorem Fr.alloc (h : Fr S a w) (o : Obj) : Fr S a (w.alloc o) :=
  h.trans ⟨rfl, rfl, rfl, by simp, fun k hk _ => Below.heap_alloc _ _ _ hk⟩
theorem Fr.setCell (h : Fr S a w) {p : Addr} (hp : p.block ∈ S ∨ a.heap.size ≤ p.block) (u : Value) : Fr S a (w.setCell p u) :=
  h.trans' (S' := [p.block]) ⟨rfl, rfl, rfl, by simp [World.setCell], fun k _ hn => Below.heap_setCell _ _ _ _ (by simpa using hn)⟩ (by simpa using hp)
theorem Fr.grown (h : Fr S a w) {row : Option Nat} (hg : w.grownBy w' row) (hr : ∀ g, row = some g → g ∈ S ∨ a.heap.size ≤ g) : Fr S a w' :=
  h.trans' (S' := row.toList) ⟨hg.os, hg.tape, hg.output, hg.size, fun k hk hn => hg.block k hk (fun e => hn (by rw [← e]; simp))⟩
    (fun i hi => hr i (by simpa [Option.mem_toList] using hi))
theorem Fr.below (h : Fr [] w w') : Below w.heap.size w w' := ⟨h.os, h.tape, h.output, h.size, fun k hk => h.block k hk (by simp)⟩
theorem Fr.of_below (h : Below w.heap.size w w') : Fr S w w' := ⟨h.os, h.tape, h.output, h.size, fun k hk _ => h.block k hk⟩
theorem Fr.belowB {B : Nat} (h : Fr S w w') (hs : ∀ i ∈ S, B ≤ i) (hB : B ≤ w.heap.size) : Below B w w' :=
  ⟨h.os, h.tape, h.output, h.size, fun k hk => h.block k (by omega) (fun hm => by have := hs k hm; omega)⟩
theorem Fr.cell (h : Fr S w w') {p : Addr} (hl : p.block < w.heap.size) (hp : p.block ∉ S) : w'.cell? p = w.cell? p := World.cell?_of_block (w := w) (h.block p.block hl hp)
/-- Two rules for the walk: cells and marks of old blocks read as before. -/
theorem Fr.rules (h : Fr [] w w') : (∀ b o, b < w.heap.size → w'.cell? ⟨b, o, none⟩ = w.cell? ⟨b, o, none⟩) ∧ (∀ b o, b < w.heap.size → w'.frozen? ⟨b, o, none⟩ = w.frozen? ⟨b, o, none⟩) :=
  ⟨fun b o hb => World.cell?_of_block (w := w) (a := ⟨b, o, none⟩) (h.block b hb (by simp)), fun b o hb => World.frozen?_of_block (w := w) (a := ⟨b, o, none⟩) (h.block b hb (by simp))⟩
theorem Fr.frozen (h : Fr S w w') {p : Addr} (hl : p.block < w.heap.size) (hp : p.block ∉ S) : w'.frozen? p = w.frozen? p := World.frozen?_of_block (w := w) (h.block p.block hl hp)
end

/-! ### A block that is known whole -/

def Blk (w : World) (g : Nat) (t : TypeId) (cs : Array Value) : Prop := w.heap[g]? = some (.cells cs t (0, 0))

section
variable {w w' : World} {g : Nat} {t : TypeId} {cs : Array Value} {S : List Nat}
theorem Blk.lt (h : Blk w g t cs) : g < w.heap.size := by
  rcases Nat.lt_or_ge g w.heap.size with hlt | hge
  · exact hlt
  · unfold Blk at h; rw [Array.getElem?_eq_none hge] at h; cases h
theorem Blk.cell (h : Blk w g t cs) (i : Nat) : w.cell? ⟨g, i, none⟩ = cs[i]? := cell_of_row w g i cs t (0, 0) h
theorem Blk.frozen (h : Blk w g t cs) (i : Nat) : w.frozen? ⟨g, i, none⟩ = false := by
  unfold Blk at h
  simp [World.frozen?, h]
theorem Blk.new (w : World) (t : TypeId) (cs : Array Value) : Blk (w.alloc (.cells cs t)) w.heap.size t cs := heap_alloc_new w _
theorem Blk.drew (h : Blk w g t cs) : Blk w.drew g t cs := h
theorem Blk.drewN (h : Blk w g t cs) (n : Nat) : Blk (w.drewN n) g t cs := h
theorem Blk.alloc (h : Blk w g t cs) (o : Obj) : Blk (w.alloc o) g t cs := (Below.heap_alloc w o g h.lt).trans h
theorem Blk.set_ (h : Blk w g t cs) (i : Nat) (u : Value) : Blk (w.setCell ⟨g, i, none⟩ u) g t (cs.setIfInBounds i u) := by
  unfold Blk at h ⊢
  simp [World.setCell, Array.getElem?_modify, h]
theorem Blk.far (h : Blk w g t cs) {p : Addr} (hp : g ≠ p.block) (u : Value) : Blk (w.setCell p u) g t cs := (Below.heap_setCell w p u g hp).trans h
theorem Blk.fr (h : Blk w g t cs) (hf : Fr S w w') (hg : g ∉ S) : Blk w' g t cs := (hf.block g h.lt hg).trans h
theorem Blk.grown {row : Option Nat} (h : Blk w g t cs) (hb : w.grownBy w' row) (hg : some g ≠ row) : Blk w' g t cs := (hb.block g h.lt hg).trans h
end

/-! ### Maps as lists of entries -/

/-- An element reads as itself. -/
def Rv (v : Value) : Option (DataW Value × List MemPlace) := some (.held v, [])

/-- A map's type, with how its keys and elements stand for Lean's. -/
structure MT {K V : Type} (P : Program) (t k e : TypeId) (ek : K → Value) (kl : K → Lit) (ev : V → Value) (ok : K → Prop) (z : Value) : Prop where
  keyed : Keyed P k
  ht : P.underlying t = some (.map k e)
  key : ∀ x, ok x → keyOf P k (ek x) = some (kl x)
  inj : ∀ x y, kl x = kl y → x = y
  zero : ∀ w, (zeroValue e).run P w = .ok z w

def ent {K V : Type} (kl : K → Lit) (ev : V → Value) (x : K × V) : Lit × DataW Value := (kl x.1, .held (ev x.2))

/-- Block b of w is a map with the entries M, in some order. -/
def VMap {K V : Type} (P : Program) (k : TypeId) (kl : K → Lit) (ev : V → Value) (w : World) (b : Nat) (M : List (K × V)) : Prop :=
  ∃ es clock, w.heap[b]? = some (.map es clock) ∧ Fit P k Rv es clock ∧ (es.toList.map (rg P k Rv)).Perm (M.map (ent kl ev))

/-- The list without a key; with a key set; what stands at a key. -/
def mdel {K V : Type} [DecidableEq K] (M : List (K × V)) (x : K) : List (K × V) := M.filter fun e => decide (e.1 ≠ x)
def mput {K V : Type} [DecidableEq K] (M : List (K × V)) (x : K) (u : V) : List (K × V) := (x, u) :: mdel M x
def mget {K V : Type} [DecidableEq K] (M : List (K × V)) (x : K) : Option V := (M.find? fun e => decide (e.1 = x)).map (·.2)

/-- No key stands twice. -/
def Nd {K V : Type} (M : List (K × V)) : Prop := M.Pairwise fun p q => p.1 ≠ q.1
theorem nd_nil {K V : Type} : Nd ([] : List (K × V)) := List.Pairwise.nil
theorem Nd.perm {K V : Type} {M M' : List (K × V)} (h : Nd M) (p : M.Perm M') : Nd M' := (p.pairwise_iff (fun {_ _} hne => Ne.symm hne)).1 h

section
variable {K V : Type} [DecidableEq K] {M : List (K × V)} {x y : K} {u : V}
theorem mget_put_same : mget (mput M x u) x = some u := by simp [mget, mput]
theorem mget_del_same : mget (mdel M x) x = none := by
  simp only [mget, mdel, Option.map_eq_none_iff, List.find?_eq_none, List.mem_filter]
  rintro e ⟨_, h⟩
  simpa using h
theorem mget_del_other (h : y ≠ x) : mget (mdel M x) y = mget M y := by
  simp only [mget, mdel]
  congr 1
  induction M with
  | nil => rfl
  | cons e r ih =>
    by_cases h1 : e.1 = x
    · have h2 : e.1 ≠ y := fun e2 => h (e2.symm.trans h1)
      rw [List.filter_cons_of_neg (by simp [h1]), List.find?_cons_of_neg (by simpa using h2), ih]
    · rw [List.filter_cons_of_pos (by simp [h1])]
      by_cases h2 : e.1 = y
      · rw [List.find?_cons_of_pos (by simpa using h2), List.find?_cons_of_pos (by simpa using h2)]
      · rw [List.find?_cons_of_neg (by simpa using h2), List.find?_cons_of_neg (by simpa using h2), ih]
theorem mget_put_other (h : y ≠ x) : mget (mput M x u) y = mget M y := by
  refine Eq.trans ?_ (mget_del_other h)
  unfold mput mget
  rw [List.find?_cons_of_neg (by simpa using fun e : x = y => h e.symm)]
theorem Nd.del (h : Nd M) (x : K) : Nd (mdel M x) := List.Pairwise.filter _ h
theorem Nd.put (h : Nd M) (x : K) (u : V) : Nd (mput M x u) :=
  List.pairwise_cons.2 ⟨fun q hq e => by have := (List.mem_filter.1 hq).2; simp at this; exact this e.symm, h.del x⟩
theorem mget_iff (h : Nd M) : mget M x = some u ↔ (x, u) ∈ M := by
  induction M with
  | nil => simp [mget]
  | cons e r ih =>
    obtain ⟨h1, h2⟩ := List.pairwise_cons.1 h
    by_cases he : e.1 = x
    · have e0 : mget (e :: r) x = some e.2 := by simp [mget, he]
      rw [e0, List.mem_cons]
      constructor
      · intro h3; exact .inl (by rw [← he, ← Option.some.inj h3])
      · rintro (e1 | hm)
        · rw [← e1]
        · exact absurd he (h1 _ hm)
    · have e0 : mget (e :: r) x = mget r x := by simp [mget, he]
      rw [e0, ih h2, List.mem_cons]
      constructor
      · exact .inr
      · rintro (e1 | hm)
        · exact absurd (by rw [← e1]) he
        · exact hm
theorem mget_none : mget M x = none ↔ ∀ e ∈ M, e.1 ≠ x := by simp [mget, List.find?_eq_none]
theorem mget_perm {M' : List (K × V)} (h : Nd M) (p : M.Perm M') : mget M x = mget M' x := by
  cases e : mget M' x with
  | none => rw [mget_none] at e ⊢; exact fun q hq => e q (p.mem_iff.1 hq)
  | some u => rw [mget_iff h]; rw [mget_iff (h.perm p)] at e; exact p.mem_iff.2 e
theorem mdel_perm {M' : List (K × V)} (p : M.Perm M') (x : K) : (mdel M x).Perm (mdel M' x) := p.filter _
theorem mput_perm {M' : List (K × V)} (p : M.Perm M') (x : K) (u : V) : (mput M x u).Perm (mput M' x u) := (mdel_perm p x).cons _
theorem mdel_none (h : mget M x = none) : mdel M x = M := by
  rw [mget_none] at h
  exact List.filter_eq_self.2 fun e he => by simpa using h e he
theorem length_mdel_le : (mdel M x).length ≤ M.length := List.length_filter_le _ _
theorem length_mdel (h : Nd M) : (mdel M x).length + (if (mget M x).isSome then 1 else 0) = M.length := by
  induction M with
  | nil => simp [mdel, mget]
  | cons e r ih =>
    obtain ⟨h1, h2⟩ := List.pairwise_cons.1 h
    have ih := ih h2
    by_cases he : e.1 = x
    · have hr : mget r x = none := mget_none.2 fun q hq e1 => h1 q hq (he.trans e1.symm)
      rw [hr] at ih
      have e1 : mdel (e :: r) x = mdel r x := List.filter_cons_of_neg (by simp [he])
      have e2 : mget (e :: r) x = some e.2 := by simp [mget, he]
      rw [e1, e2]
      simpa using ih
    · have e1 : mdel (e :: r) x = e :: mdel r x := List.filter_cons_of_pos (by simp [he])
      have e2 : mget (e :: r) x = mget r x := by simp [mget, he]
      rw [e1, e2, List.length_cons, List.length_cons]
      omega
theorem length_mput (h : Nd M) : (mput M x u).length = if (mget M x).isSome then M.length else M.length + 1 := by
  have := length_mdel (x := x) h
  unfold mput
  rw [List.length_cons]
  split <;> simp_all
theorem mem_mdel {e : K × V} : e ∈ mdel M x ↔ e ∈ M ∧ e.1 ≠ x := by simp [mdel]
theorem mem_mput {e : K × V} : e ∈ mput M x u ↔ e = (x, u) ∨ (e ∈ M ∧ e.1 ≠ x) := by simp [mput, mem_mdel]
end

section
variable {K V : Type} {P : Program} {t k e : TypeId} {ek : K → Value} {kl : K → Lit} {ev : V → Value} {ok : K → Prop} {z : Value} {w w' : World} {b : Nat} {M : List (K × V)}

theorem VMap.lt (h : VMap P k kl ev w b M) : b < w.heap.size := by
  obtain ⟨es, clock, hb, _⟩ := h
  exact (Array.getElem?_eq_some_iff.1 hb).1
theorem VMap.of_block (h : VMap P k kl ev w b M) (hb : w'.heap[b]? = w.heap[b]?) : VMap P k kl ev w' b M := by
  obtain ⟨es, clock, h1, h2⟩ := h
  exact ⟨es, clock, hb.trans h1, h2⟩
theorem VMap.fr {S : List Nat} (h : VMap P k kl ev w b M) (hf : Fr S w w') (hb : b ∉ S) : VMap P k kl ev w' b M := h.of_block (hf.block b h.lt hb)
theorem VMap.grown {row : Option Nat} (h : VMap P k kl ev w b M) (hg : w.grownBy w' row) (hb : some b ≠ row) : VMap P k kl ev w' b M := h.of_block (hg.block b h.lt hb)
theorem VMap.alloc (h : VMap P k kl ev w b M) (o : Obj) : VMap P k kl ev (w.alloc o) b M := h.of_block (Below.heap_alloc w o b h.lt)
theorem VMap.setCell (h : VMap P k kl ev w b M) {p : Addr} (hp : b ≠ p.block) (u : Value) : VMap P k kl ev (w.setCell p u) b M := h.of_block (Below.heap_setCell w p u b hp)
theorem VMap.drew (h : VMap P k kl ev w b M) : VMap P k kl ev w.drew b M := h
theorem VMap.drewN (h : VMap P k kl ev w b M) (n : Nat) : VMap P k kl ev (w.drewN n) b M := h
theorem VMap.perm {M' : List (K × V)} (h : VMap P k kl ev w b M) (p : M.Perm M') : VMap P k kl ev w b M' := by
  obtain ⟨es, clock, h1, h2, h3⟩ := h
  exact ⟨es, clock, h1, h2, h3.trans (p.map _)⟩
/-- A map's block is no row of cells. -/
theorem VMap.ne {g : Nat} {tt : TypeId} {cs : Array Value} {fz : Nat × Nat} (h : VMap P k kl ev w b M) (hg : w.heap[g]? = some (.cells cs tt fz)) : b ≠ g := by
  rintro rfl
  obtain ⟨es, clock, hb, _⟩ := h
  rw [hb] at hg
  cases hg
theorem VMap.made (kl : K → Lit) (ev : V → Value) (w : World) : VMap P k kl ev (w.alloc (.map #[] 0)) w.heap.size [] :=
  ⟨#[], 0, (MapKept.heap_alloc w _).1, ⟨by simp, stamped_empty 0, by simp⟩, by simp⟩
theorem VMap.len (h : VMap P k kl ev w b M) (ht : P.underlying t = some (.map k e)) (ty : TypeId) : (Builtin.len_ #[t] ty #[.map (some b)]).run P w = .ok (.int .i64 M.length) w := by
  obtain ⟨es, clock, hb, F, hp⟩ := h
  have e1 : es.size = M.length := by have := hp.length_eq; simpa using this
  rw [← e1]
  simp [Builtin.len_, run_underlying ht, MapKept.run_getObj_map hb, goInt, Result.andThen]
theorem VMap.length_le (h : VMap P k kl ev w b M) : M.length ≤ maxLen := by
  obtain ⟨es, clock, hb, F, hp⟩ := h
  have e1 : es.size = M.length := by have := hp.length_eq; simpa using this
  rw [← e1]
  exact F.size
theorem VMap.nd (T : MT P t k e ek kl ev ok z) (h : VMap P k kl ev w b M) : Nd M := by
  obtain ⟨es, clock, hb, F, hp⟩ := h
  have h1 := (hp.pairwise_iff (fun {_ _} (hne : _ ≠ _) => Ne.symm hne)).1 (Maps.fit_apart T.keyed F)
  rw [List.pairwise_map] at h1
  exact h1.imp fun {p q} hne e1 => hne (by simp [ent, e1])
theorem rgv {es : Array MapEntry} {clock : Nat} {x : MapEntry} (F : Fit P k Rv es clock) (hx : x ∈ es.toList) : ∃ l, keyOf P k x.key = some l ∧ rg P k Rv x = (l, .held x.val) := by
  obtain ⟨y, hy⟩ := F.reads x hx
  obtain ⟨zz, hz, hzd⟩ := rd_val hy
  refine ⟨y.1, rd_key hy, ?_⟩
  rw [rg_of hy]
  cases hz
  exact Prod.ext rfl hzd
theorem kl_isKey (T : MT P t k e ek kl ev ok z) (x : K) (hx : ok x) : WideAt.IsKeyLit (kl x) := T.keyed.key (T.key x hx)
variable [DecidableEq K]
/-- 'm[x]' and 'v, ok := m[x]'. -/
theorem VMap.look (T : MT P t k e ek kl ev ok z) (h : VMap P k kl ev w b M) (x : K) (hx : ok x) (c : Bool) :
    (Instr.lookup t (.map (some b)) (ek x) c).run P w = .ok (if c then .tuple #[((mget M x).map ev).getD z, .bool (mget M x).isSome] else ((mget M x).map ev).getD z) w := by
  have hnd := h.nd T
  obtain ⟨es, clock, hb, F, hp⟩ := h
  rcases Maps.fit_look c T.keyed T.ht (T.zero w) hb F (T.key x hx) with ⟨hrun, hno, _⟩ | ⟨e0, y, hm, hk, hrun, _⟩
  · have hg : mget M x = none := by
      rw [mget_none]
      intro q hq e1
      have hq' : ent kl ev q ∈ es.toList.map (rg P k Rv) := hp.mem_iff.2 (List.mem_map.2 ⟨q, hq, rfl⟩)
      obtain ⟨x1, hx1, e2⟩ := List.mem_map.1 hq'
      obtain ⟨l, hl, e3⟩ := rgv F hx1
      rw [e3] at e2
      have e4 : l = kl x := by have := congrArg Prod.fst e2; simpa [ent, e1] using this
      rw [e4] at hl
      exact hno x1 hx1 (T.keyed.inj hl (T.key x hx))
    rw [hrun, hg]
    rfl
  · obtain ⟨l, hl, e3⟩ := rgv F hm
    rw [hk, T.key x hx] at hl
    cases hl
    have hq' : (kl x, DataW.held e0.val) ∈ M.map (ent kl ev) := hp.mem_iff.1 (List.mem_map.2 ⟨e0, hm, e3⟩)
    obtain ⟨q, hq, e4⟩ := List.mem_map.1 hq'
    have e5 : q.1 = x := T.inj _ _ (congrArg Prod.fst e4)
    have e6 : ev q.2 = e0.val := by have := congrArg Prod.snd e4; simpa [ent] using this
    have hg : mget M x = some q.2 := (mget_iff hnd).2 (by rw [← e5]; exact hq)
    rw [hrun, hg]
    simp [e6]
theorem filter_ent (T : MT P t k e ek kl ev ok z) (x : K) (hx : ok x) (M : List (K × V)) : (M.map (ent kl ev)).filter (notKey (kl x)) = (mdel M x).map (ent kl ev) := by
  rw [List.filter_map]
  congr 1
  unfold mdel
  refine List.filter_congr fun q _ => ?_
  have hi := kl_isKey T x hx
  show (!(kl q.1).sameKey (kl x)) = decide (q.1 ≠ x)
  by_cases e1 : q.1 = x
  · rw [e1, WideAt.sameKey_self hi]; simp
  · rw [Maps.sameKey_ne (fun e2 => e1 (T.inj _ _ e2))]; simp [e1]
/-- 'm[x] = u'. -/
theorem VMap.store (T : MT P t k e ek kl ev ok z) (h : VMap P k kl ev w b M) (x : K) (hx : ok x) (u : V) (hn : M.length < maxLen) :
    ∃ w', (Instr.mapUpdate t (.map (some b)) (ek x) (ev u)).run P w = .ok () w' ∧ VMap P k kl ev w' b (mput M x u) ∧ w.mapTurned w' b := by
  obtain ⟨es, clock, hb, F, hp⟩ := h
  have e1 : es.size = M.length := by have := hp.length_eq; simpa using this
  obtain ⟨es', clock', hrun, F', hput, _⟩ := Maps.fit_store (R' := Rv) T.keyed T.ht hb F (by omega) (fun _ _ _ _ hz => hz) (T.key x hx) (yv := (.held (ev u), [])) rfl
  refine ⟨_, hrun, ⟨es', clock', heap_setBlock_same hb _, F', ?_⟩, ⟨es, clock, es', clock', hb, rfl⟩⟩
  have p1 : (es'.toList.map (rg P k Rv)).Perm (putKey (kl x) (.held (ev u)) ((es.toList.map (rg P k Rv)).foldr DataW.insert [])) := by
    rw [← hput]
    exact (sorted_perm _).symm
  refine p1.trans ((insert_perm _ _).trans ?_)
  have p2 : (((es.toList.map (rg P k Rv)).foldr DataW.insert []).filter (notKey (kl x))).Perm ((M.map (ent kl ev)).filter (notKey (kl x))) := ((sorted_perm _).trans hp).filter _
  rw [filter_ent T x hx] at p2
  exact p2.cons _
/-- 'delete(m, x)'. -/
theorem VMap.drop (T : MT P t k e ek kl ev ok z) (h : VMap P k kl ev w b M) (x : K) (hx : ok x) (ty : TypeId) :
    ∃ w', (Builtin.delete_ #[t, k] ty #[.map (some b), ek x]).run P w = .ok (.tuple #[]) w' ∧ VMap P k kl ev w' b (mdel M x) ∧ w.mapTurned w' b := by
  obtain ⟨es, clock, hb, F, hp⟩ := h
  obtain ⟨es', hrun, F', hle, hdel, _⟩ := Maps.fit_drop (ty := ty) T.keyed T.ht hb F (T.key x hx)
  refine ⟨_, hrun, ⟨es', clock, heap_setBlock_same hb _, F', ?_⟩, ⟨es, clock, es', clock, hb, rfl⟩⟩
  have p1 : (es'.toList.map (rg P k Rv)).Perm (delKey (kl x) ((es.toList.map (rg P k Rv)).foldr DataW.insert [])) := by
    rw [← hdel]
    exact (sorted_perm _).symm
  refine p1.trans ?_
  have p2 : (((es.toList.map (rg P k Rv)).foldr DataW.insert []).filter (notKey (kl x))).Perm ((M.map (ent kl ev)).filter (notKey (kl x))) := ((sorted_perm _).trans hp).filter _
  rw [filter_ent T x hx] at p2
  exact p2
end
theorem turned_fr {w w' : World} {b : Nat} {S : List Nat} (h : w.mapTurned w' b) (hb : b ∈ S) : Fr S w w' :=
  (Fr.refl S w).grown h.grown (fun g hg => by cases hg; exact .inl hb)

/-! ### A range over a map -/

/-- Block r is an iterator over the map in block b with the entries M; 'rest' are those still to come. -/
def Iter {K V : Type} (P : Program) (k : TypeId) (kl : K → Lit) (ev : V → Value) (w : World) (b r : Nat) (M rest : List (K × V)) : Prop :=
  VMap P k kl ev w b M ∧ ∃ n D left cnt, w.ranges P k Rv b r n D left cnt ∧ rest.Perm (M.filter fun e => left (kl e.1))

section
variable {K V : Type} {P : Program} {t k e : TypeId} {ek : K → Value} {kl : K → Lit} {ev : V → Value} {ok : K → Prop} {z : Value} {w w' : World} {b r : Nat} {M rest : List (K × V)}
theorem Iter.map (h : Iter P k kl ev w b r M rest) : VMap P k kl ev w b M := h.1
theorem Iter.lt (h : Iter P k kl ev w b r M rest) : r < w.heap.size := by
  obtain ⟨_, n, D, left, cnt, hr, _⟩ := h
  exact hr.lt
theorem Iter.ne (h : Iter P k kl ev w b r M rest) : r ≠ b := by
  obtain ⟨_, n, D, left, cnt, hr, _⟩ := h
  exact hr.ne
/-- An iterator's block is no row of cells. -/
theorem Iter.ne_cells {g : Nat} {tt : TypeId} {cs : Array Value} {fz : Nat × Nat} (h : Iter P k kl ev w b r M rest) (hg : w.heap[g]? = some (.cells cs tt fz)) : r ≠ g := by
  rintro rfl
  obtain ⟨_, n, D, left, cnt, ⟨es, clock, since, seen, c0, _, _, _, _, hr, _⟩, _⟩ := h
  rw [hr] at hg
  cases hg
theorem ranges_of_blocks {n : Nat} {D : DataW Value} {left : Lit → Bool} {cnt : Nat} (h : w.ranges P k Rv b r n D left cnt) (h1 : w'.heap[b]? = w.heap[b]?) (h2 : w'.heap[r]? = w.heap[r]?) : w'.ranges P k Rv b r n D left cnt := by
  obtain ⟨es, clock, since, seen, c0, hb, F, hs, hD, hr, rest⟩ := h
  exact ⟨es, clock, since, seen, c0, h1.trans hb, F, hs, hD, h2.trans hr, rest⟩
theorem Iter.of_blocks (h : Iter P k kl ev w b r M rest) (h1 : w'.heap[b]? = w.heap[b]?) (h2 : w'.heap[r]? = w.heap[r]?) : Iter P k kl ev w' b r M rest := by
  obtain ⟨hm, n, D, left, cnt, hr, hp⟩ := h
  exact ⟨hm.of_block h1, n, D, left, cnt, ranges_of_blocks hr h1 h2, hp⟩
theorem Iter.fr {S : List Nat} (h : Iter P k kl ev w b r M rest) (hf : Fr S w w') (hb : b ∉ S) (hr : r ∉ S) : Iter P k kl ev w' b r M rest :=
  h.of_blocks (hf.block b h.map.lt hb) (hf.block r h.lt hr)
theorem Iter.alloc (h : Iter P k kl ev w b r M rest) (o : Obj) : Iter P k kl ev (w.alloc o) b r M rest :=
  h.of_blocks (Below.heap_alloc w o b h.map.lt) (Below.heap_alloc w o r h.lt)
theorem VMap.owns (h : VMap P k kl ev w b M) : ∃ es clock, w.heap[b]? = some (.map es clock) ∧ w.ownsMap P k Rv b es.size (.map ((es.toList.map (rg P k Rv)).foldr DataW.insert [])) ∧ (es.toList.map (rg P k Rv)).Perm (M.map (ent kl ev)) ∧ Fit P k Rv es clock := by
  obtain ⟨es, clock, hb, F, hp⟩ := h
  exact ⟨es, clock, hb, ⟨es, clock, hb, F, Nat.le_refl _, rfl⟩, hp, F⟩
/-- 'range m'. -/
theorem VMap.range (T : MT P t k e ek kl ev ok z) (h : VMap P k kl ev w b M) :
    ∃ w', (Instr.range t (.map (some b))).run P w = .ok (.pointer (some ⟨w.heap.size, 0, none⟩)) w' ∧ Iter P k kl ev w' b w.heap.size M M ∧ Fr [] w w' ∧ w'.heap.size = w.heap.size + 1 := by
  obtain ⟨es, clock, hb, hown, hp, F⟩ := h.owns
  obtain ⟨w', hrun, hr, hg, hs⟩ := hown.range T.keyed T.ht
  have hf : Fr [] w w' := (Fr.refl _ _).grown hg (fun g hg => by cases hg)
  refine ⟨w', hrun, ⟨h.fr hf (by simp), _, _, _, _, hr, ?_⟩, hf, hs⟩
  rw [List.filter_eq_self.2]
  intro q hq
  have hq' : ent kl ev q ∈ es.toList.map (rg P k Rv) := hp.mem_iff.2 (List.mem_map.2 ⟨q, hq, rfl⟩)
  have hq2 : ent kl ev q ∈ (es.toList.map (rg P k Rv)).foldr DataW.insert [] := (sorted_perm _).mem_iff.2 hq'
  refine List.any_eq_true.2 ⟨_, hq2, WideAt.sameKey_self ?_⟩
  obtain ⟨x1, hx1, e2⟩ := List.mem_map.1 hq'
  obtain ⟨l, hl, e3⟩ := rgv F hx1
  rw [← e2, e3]
  exact T.keyed.key hl
/-- THE STEP. -/
theorem Iter.next (T : MT P t k e ek kl ev ok z) (hkv : ∀ q ∈ M, ok q.1) (h : Iter P k kl ev w b r M rest) (ty : TypeId) :
    (rest = [] ∧ (Instr.next (.pointer (some ⟨r, 0, none⟩)) false ty).run P w = .ok (.tuple #[.bool false]) w) ∨
    ∃ x u rest' w', rest.Perm ((x, u) :: rest') ∧ (x, u) ∈ M ∧ (Instr.next (.pointer (some ⟨r, 0, none⟩)) false ty).run P w = .ok (.tuple #[.bool true, ek x, ev u]) w' ∧
      Iter P k kl ev w' b r M rest' ∧ Fr [r] w w' ∧ w'.heap.size = w.heap.size ∧ (Instr.entry (.pointer (some ⟨r, 0, none⟩))).run P w' = .ok (.tuple #[ek x, ev u]) w' := by
  have hnd := h.map.nd T
  have hrb := h.ne
  obtain ⟨hm, n, D, left, cnt, hr, hp⟩ := h
  rcases hr.next T.keyed ty with ⟨_, hl, hrun⟩ | ⟨key, v, lk, y, w', cnt', hkey, hlk, hv, hat, hrun, hr', _, hg, hs, hen⟩
  · refine .inl ⟨?_, hrun⟩
    rw [List.filter_eq_nil_iff.2 (fun q _ => by simp [hl])] at hp
    exact hp.eq_nil
  · right
    cases hv
    obtain ⟨es, clock, hb, F, hpe⟩ := hm
    obtain ⟨es1, clock1, since, seen, c0, hb1, F1, _, hD, _⟩ := hr
    rw [hb] at hb1
    cases hb1
    -- which entry
    have hhas : Maps.has D lk = true := Maps.has_true_of_atKey hat
    rw [hD] at hhas
    obtain ⟨p, hpm, hpk⟩ := List.any_eq_true.1 hhas
    have hpm' : p ∈ es.toList.map (rg P k Rv) := (sorted_perm _).mem_iff.1 hpm
    have epk : p.1 = lk := WideAt.sameKey_eq hpk
    have eat := (atKey_sorted (es.toList.map (rg P k Rv)) (Maps.fit_rising T.keyed F) lk (T.keyed.key hkey)).2 p hpm' epk .nil
    rw [← hD, hat .nil] at eat
    obtain ⟨q, hq, eq⟩ := List.mem_map.1 (hpe.mem_iff.1 hpm')
    have e1 : kl q.1 = lk := by rw [← epk, ← eq]; rfl
    have e2 : ev q.2 = v := by
      have : p.2 = .held (ev q.2) := by rw [← eq]; rfl
      rw [this] at eat
      cases eat
      rfl
    have e3 : ek q.1 = key := T.keyed.inj (T.key q.1 (hkv q hq)) (by rw [hkey, e1])
    subst e2
    subst e3
    subst e1
    have hfr : Fr [r] w w' := (Fr.refl _ _).grown hg (fun g hg => by cases hg; exact .inl (by simp))
    have hM' : VMap P k kl ev w' b M := VMap.of_block ⟨es, clock, hb, F, hpe⟩ (hg.block b (Array.getElem?_eq_some_iff.1 hb).1 (fun e => hrb (Option.some.inj e).symm))
    have hsplit : (M.filter fun e => left (kl e.1)).Perm (q :: M.filter fun e => left (kl e.1) && !(kl e.1).sameKey (kl q.1)) := by
      clear hp hpe hM' eat hpm hpm' hhas hrun hen hr' hkv
      induction M with
      | nil => simp at hq
      | cons a l ih =>
        obtain ⟨h1, h2⟩ := List.pairwise_cons.1 hnd
        have hik : WideAt.IsKeyLit (kl q.1) := T.keyed.key hkey
        rcases List.mem_cons.1 hq with rfl | hq'
        · rw [List.filter_cons_of_pos (by simpa using hlk), List.filter_cons_of_neg (by simp [WideAt.sameKey_self hik])]
          rw [List.filter_congr (q := fun e => left (kl e.1) && !(kl e.1).sameKey (kl q.1))]
          intro x hx
          rw [Maps.sameKey_ne (fun e => h1 x hx (T.inj _ _ e).symm)]
          simp
        · have hne : (kl a.1).sameKey (kl q.1) = false := Maps.sameKey_ne (fun e => h1 q hq' (T.inj _ _ e))
          cases hla : left (kl a.1)
          · rw [List.filter_cons_of_neg (by simp [hla]), List.filter_cons_of_neg (by simp [hla])]
            exact ih h2 hq'
          · rw [List.filter_cons_of_pos (by simp [hla]), List.filter_cons_of_pos (by simp [hla, hne])]
            exact ((ih h2 hq').cons a).trans (List.Perm.swap _ _ _)
    exact ⟨q.1, q.2, _, w', hp.trans hsplit, hq, hrun, ⟨hM', n, D, _, cnt', hr', List.Perm.refl _⟩, hfr, hs, hen⟩
theorem Iter.nd (T : MT P t k e ek kl ev ok z) (h : Iter P k kl ev w b r M rest) : Nd rest := by
  have h1 := h.map.nd T
  obtain ⟨_, n, D, left, cnt, _, hp⟩ := h
  exact Nd.perm (List.Pairwise.filter _ h1) hp.symm
theorem Iter.perm {M' : List (K × V)} (h : Iter P k kl ev w b r M rest) (p : M.Perm M') : Iter P k kl ev w b r M' rest := by
  obtain ⟨hm, n, D, left, cnt, hr, hp⟩ := h
  exact ⟨hm.perm p, n, D, left, cnt, hr, hp.trans (p.filter _)⟩
/-- FOR THE LOOP's MEASURE. -/
theorem Iter.left_eq (h : Iter P k kl ev w b r M rest) : w.rangeLeft b r = rest.length := by
  obtain ⟨⟨es, clock, hb, F, hpe⟩, n, D, left, cnt, hr, hp⟩ := h
  rw [hr.left_eq, hp.length_eq]
  obtain ⟨es1, clock1, since, seen, c0, hb1, F1, _, hD, _, _, hc, hl, _⟩ := hr
  rw [hb] at hb1
  cases hb1
  have e1 : (M.filter fun e => left (kl e.1)).length = ((M.map (ent kl ev)).filter fun p => left p.1).length := by
    rw [List.filter_map, List.length_map]
    rfl
  rw [e1, ← (hpe.filter fun p => left p.1).length_eq, List.filter_map, List.length_map, ← hc]
  unfold leftOf
  rw [← Array.length_toList, Array.toList_filter]
  congr 1
  refine List.filter_congr fun x hx => ?_
  exact (hl x hx).symm
variable [DecidableEq K]
/-- 'delete(m, x)' in the round. -/
theorem Iter.drop (T : MT P t k e ek kl ev ok z) (h : Iter P k kl ev w b r M rest) (x : K) (hx : ok x) (ty : TypeId) :
    ∃ w', (Builtin.delete_ #[t, k] ty #[.map (some b), ek x]).run P w = .ok (.tuple #[]) w' ∧ Iter P k kl ev w' b r (mdel M x) (mdel rest x) ∧ w.mapTurned w' b := by
  obtain ⟨hm, n, D, left, cnt, hr, hp⟩ := h
  obtain ⟨w', cnt', hrun, hr', _, ht⟩ := hr.drop T.keyed T.ht (T.key x hx) ty
  obtain ⟨w'', hrun2, hm2, _⟩ := hm.drop T x hx ty
  rw [hrun] at hrun2
  cases hrun2
  refine ⟨w', hrun, ⟨hm2, n, _, _, cnt', hr', ?_⟩, ht⟩
  refine (mdel_perm hp x).trans (List.Perm.of_eq ?_)
  have hi := kl_isKey T x hx
  unfold mdel
  rw [List.filter_filter, List.filter_filter]
  refine List.filter_congr fun q _ => ?_
  by_cases e1 : q.1 = x
  · rw [e1, WideAt.sameKey_self hi]; simp
  · rw [Maps.sameKey_ne (fun e2 => e1 (T.inj _ _ e2))]; simp [e1]
end

end Go.Proofs.YtciaallekkdnhaaGreat
namespace Go.Proofs.YtciaallekkdnhaaGreat
open Go.RowKit Go.WideShapes Go.ChangeShapes Go.ChangeAt

section
variable {H : Type} {enc : TypeId × Value → H} {P : Program} {w : World} {base : Nat} {spare : Nat → Bool} {held : Bool}
open Go.Deep
theorem open_slice_fields {t e : TypeId} {fs : Array Field} {fuel : Nat} {cs : List Value} {x : DataW H × List MemPlace} (ht : P.underlying t = some (.slice e)) (he : P.underlying e = some (.struct fs))
    (hone : oneCellFields P fs = true) (hC : P.cellsOf e = fs.size) (h : DataW.trod enc P w base spare held fuel t cs = some x) :
    (cs = [.slice none 0 0] ∧ x = (.nil, [])) ∨
    ∃ (a : Addr) (len cap m : Nat) (D : Nat → DataW H) (Pl : Nat → List MemPlace), cs = [.slice (some a) len cap] ∧ base ≤ a.block ∧ len ≤ cap ∧ cap ≤ maxLen ∧ m = (if spare a.block then cap else len) ∧
      x = (.slice ((List.range len).map D) ((List.range (m - len)).map fun j => D (len + j)), MemPlace.row a (m * fs.size) ++ (List.range m).flatMap Pl) ∧
      ∀ i, i < m → ∃ (ys : List (DataW H × List MemPlace)) (n : Nat), D i = .agg (ys.map (·.1)) ∧ Pl i = ys.flatMap (·.2) ∧ ys.length = fs.size ∧
        ∀ (j : Nat) (f : Field), fs[j]? = some f → ∃ (v : Value) (y : DataW H × List MemPlace), w.cell? (a.add (i * fs.size + j)) = some v ∧ ys[j]? = some y ∧ DataW.trod enc P w base spare held n f.type [v] = some y := by
  rcases open_slice ht h with h0 | ⟨a, len, cap, m, n, D, Pl, hcs, hb, hl, hm, hmm, hx, hi⟩
  · exact .inl h0
  · refine .inr ⟨a, len, cap, m, D, Pl, hcs, hb, hl, hm, hmm, by rw [hC] at hx; exact hx, fun i him => ?_⟩
    obtain ⟨cs', hc, ht'⟩ := hi i him
    rw [hC] at hc
    obtain ⟨ys, n', hn', hy, hlen, hyl, hf⟩ := DataW.trod_struct he ht'
    obtain ⟨_, hcl, hat⟩ := World.cells?_some hc
    simp only [Prod.mk.injEq] at hy
    refine ⟨ys, n', hy.1, hy.2, hyl, fun j f hj => ?_⟩
    obtain ⟨ho, hk⟩ := hone_of hone j f hj
    have hjl : j < fs.size := (Array.getElem?_eq_some_iff.1 hj).1
    have hcell := hat j hjl
    have hv : cs'[j]? = some (cs'[j]'(by omega)) := List.getElem?_eq_getElem (by omega)
    have h1 := hf j f hj
    rw [ho, hk] at h1
    have hone' : (cs'.drop j).take 1 = [cs'[j]'(by omega)] := by
      rw [List.drop_eq_getElem_cons (by omega)]
      rfl
    rw [hone'] at h1
    have hys : ys[j]? = some (ys[j]'(by omega)) := List.getElem?_eq_getElem (by omega)
    refine ⟨_, _, ?_, hys, h1.trans hys⟩
    rw [← Go.Deep.add_add, hcell, hv]
end

section
variable {H : Type} {enc : TypeId × Value → H} {P : Program}
theorem post_of_below {f : Func} {s : ChangeSpec} {apart fresh handsOn again : Bool} {W W' : World} {args : Array Value} {v : Value} {ds gs : List (DataW H)} {before pa pv : List MemPlace}
    (hW : DataW.Whole enc P f.params.toList s.vars apart W args.toList ds gs before)
    (hres : ∀ (b : Nat) (sp : Nat → Bool) (hd : Bool), DataW.TrodAll enc P W' b sp hd f.resultTypes.toList (v.resultList f.resultTypes.size) (s.fn H (ds ++ gs)).results [])
    (hargs : ∀ sp : Nat → Bool, (∀ p ∈ before, sp p.block = true) → DataW.TrodAll enc P W' 0 sp true f.params.toList args.toList (s.fn H (ds ++ gs)).args pa)
    (hvars : ∀ sp : Nat → Bool, (∀ p ∈ before, sp p.block = true) → DataW.TrodVars enc P W' sp s.vars (s.fn H (ds ++ gs)).vars pv)
    (hps : before = pa ++ pv) (hb : Below W.heap.size W W')
    (hok : ∀ (j : Nat) (t : TypeId) (r : Value), f.resultTypes[j]? = some t → (v.resultList f.resultTypes.size)[j]? = some r → Value.okWide P W' .any 0 t r) :
    s.post enc P f apart fresh handsOn again W args v W' := by
  have hlt : ∀ p ∈ before, p.block < W.heap.size := fun p hp => hW.lt p hp
  have hold : ∀ p ∈ before, (fun b => decide (b < W.heap.size)) p.block = true := fun p hp => by simpa using hlt p hp
  refine ⟨ds, gs, before, [], pa, pv, hW, hres _ _ _, hargs _ hold, hvars _ hold, World.keptBut_mono (fun p hp => ⟨hp, ?_⟩) (hb.frame (· ∈ before)), fun _ => ?_⟩
  · rw [hps, List.mem_append] at hp
    exact Or.inr hp
  · obtain ⟨_, _, _, _, _, hz, hn⟩ := hW
    refine ⟨hok, _, _, ([] ++ pa) ++ pv, ⟨[] ++ pa, pv, trodAll_append (hargs _ (fun _ _ => rfl)) (hres _ _ _), hvars _ (fun _ _ => rfl), rfl, ?_, ?_⟩, ?_⟩
    · intro b off hp
      have hin : MemPlace.cell b off ∈ before := by rw [hps]; simpa using hp
      rw [hb.frozen (hlt _ hin)]
      exact hz b off hin
    · intro ha
      have := hn ha
      rw [hps] at this
      simpa using this
    · intro p hp _
      rw [hps]
      simpa using hp
end

/-- Arguments read as before. -/
theorem trodAll_below {H : Type} {enc : TypeId × Value → H} {P : Program} (hl : laidOutB P = true) {W W' : World} (hb : Below W.heap.size W W') {sp : Nat → Bool} : ∀ (ts : List TypeId) (vs : List Value) (ds : List (DataW H)) (ps : List MemPlace),
    (∀ t ∈ ts, P.readableRec t = true ∧ t < P.types.size) → DataW.TrodAll enc P W 0 (fun _ => true) true ts vs ds ps → (∀ x ∈ ps, x.block < W.heap.size) → (∀ x ∈ ps, sp x.block = true) → DataW.TrodAll enc P W' 0 sp true ts vs ds ps
  | [], vs, ds, ps, _, h, _, _ => by
    cases vs <;> cases ds <;> simp_all [DataW.TrodAll]
  | t :: ts, vs, ds, ps, ht, h, hlt, hsp => by
    obtain ⟨v, vs', d, ds', p, q, rfl, rfl, rfl, h1, h2⟩ := trodAll_cons h
    exact trodAll_cons_mk (WideElems.Trod_stays hl (ht t (by simp)).1 (ht t (by simp)).2 h1 (fun x hx => hb.same (hlt x (by simp [hx]))) (fun x hx => hsp x (by simp [hx])))
      (trodAll_below hl hb ts vs' ds' q (fun t' h' => ht t' (by simp [h'])) h2 (fun x hx => hlt x (by simp [hx])) (fun x hx => hsp x (by simp [hx])))

theorem trodAll_length {H : Type} {enc : TypeId × Value → H} {P : Program} {W : World} {b : Nat} {sp : Nat → Bool} {hd : Bool} : ∀ (ts : List TypeId) (vs : List Value) (ds : List (DataW H)) (ps : List MemPlace), DataW.TrodAll enc P W b sp hd ts vs ds ps → ds.length = ts.length
  | [], vs, ds, _, h => by cases vs <;> cases ds <;> simp_all [DataW.TrodAll]
  | t :: ts, vs, ds, ps, h => by
    obtain ⟨v, vs', d, ds', p, q, rfl, rfl, rfl, _, h2⟩ := trodAll_cons h
    simp [trodAll_length ts vs' ds' q h2]

set_option maxRecDepth 100000 in
theorem own : ownKnob Tryz.prog.godebug = none := by kernel_rfl
set_option maxRecDepth 100000 in
theorem laidOut : laidOutB Tryz.prog = true := by kernel_rfl

/-- What a law's walk owes: from the arguments' readings to 'true', what was there as it was. -/
def LawWalk (f : FuncId) (fn : Func) : Prop := ∀ (H : Type) (enc : TypeId × Value → H) (W : World) (base : Nat) (args : Array Value) (ds : List (DataW H)) (p : List MemPlace),
  (∀ (j : Nat) t v, fn.params[j]? = some t → args[j]? = some v → Value.okWide Tryz.prog W .any base t v) → DataW.TrodAll enc Tryz.prog W 0 (fun _ => true) true fn.params.toList args.toList ds p →
  (∀ x ∈ p, x.block < W.heap.size) → (DataW.weightsEach Tryz.prog fn.params.toList ds).all (· ≤ reachBytes) = true →
  Calls Tryz.prog f args W fun e W' => e = .returned (.bool true) ∧ Below W.heap.size W W'

set_option maxRecDepth 100000 in
theorem law_lifted {f : FuncId} {fn : Func} {s : ChangeSpec} {conds : List PathCond} (hfn : Tryz.prog.funcs[f]? = some fn) (noInit : Tryz.prog.inits.idxOf? f = none) (hvars : s.vars = [])
    (hrt : fn.resultTypes = #[4]) (hts : ∀ t ∈ fn.params.toList, Tryz.prog.readableRec t = true ∧ t < Tryz.prog.types.size)
    (hs : ∀ (H : Type) (ds : List (DataW H)), ds.length = fn.params.toList.length → (s.fn H (ds ++ [])).results = [.lit (.bool true)] ∧ (s.fn H (ds ++ [])).args = ds ∧ (s.fn H (ds ++ [])).vars = [])
    (walk : LawWalk f fn) (os : Os) (started : os.Started) (H : Type) (enc : TypeId × Value → H)
    (witness : ∃ (w : World) (tape : Tape) (i : Input), w.os = os ∧ (w.forCall tape i).Shaped Tryz.prog ∧ i.vars = [] ∧ Input.okWide Tryz.prog (w.forCall tape i) .any w.heap.size f i ∧
      s.pre6 enc Tryz.prog fn conds false (w.forCall tape i).memory i.args ∧ ({} : Assume).holds Tryz.prog (lone (Frame.enter Tryz.prog f i.args .normal) [] (w.forCall tape i))) :
    ReturnsInHanded {} Tryz.checked os f .any (s.pre6 enc Tryz.prog fn conds false) (s.post enc Tryz.prog fn false true false false) := by
  refine returnsInHanded_of_change_sized (C := Tryz.checked) own started noInit hfn witness ?_
  intro W base args ds gs before hval hW _ hsz _
  have hW' := hW
  obtain ⟨p, q, hA, hV, rfl, hfz, hnd⟩ := hW
  rw [hvars] at hV
  obtain ⟨rfl, rfl⟩ := trodVars_none hV
  rw [List.append_nil] at hW' hfz hnd
  have hlt : ∀ x ∈ p, x.block < W.heap.size := fun x hx => hW'.lt x hx
  have hvt : s.plain.varTypes Tryz.prog = [] := by
    simp [DataSpec.varTypes, ChangeSpec.plain, hvars]
  have hsz' : (DataW.weightsEach Tryz.prog fn.params.toList ds).all (· ≤ reachBytes) = true := by
    have := hsz
    rw [show s.plain.varTypes Tryz.checked.prog = [] from hvt, List.append_nil, List.append_nil] at this
    exact this
  refine (walk H enc W base args ds p hval hA hlt hsz').mono fun e W' ⟨he, hb⟩ => ?_
  subst he
  have hlen : ds.length = fn.params.toList.length := trodAll_length _ _ _ _ hA
  obtain ⟨s1, s2, s3⟩ := hs H ds hlen
  refine ⟨_, rfl, post_of_below (pa := p) (pv := []) hW' (fun b sp hd => ?_) (fun sp hsp => ?_) (fun sp _ => ?_) (by simp) hb ?_⟩
  · rw [s1, hrt]
    exact trodAll_mk1 (shut_bool Tryz.underlying4 _)
  · rw [s2]
    exact trodAll_below laidOut hb _ _ _ _ hts hA hlt hsp
  · rw [hvars, s3]; rfl
  · rw [hrt]
    intro j t r hj hr
    match j, hj, hr with
    | 0, hj, hr =>
      simp only [List.getElem?_toArray, List.getElem?_cons_zero, Option.some.injEq] at hj
      subst hj
      have hr' : some (Value.bool true) = some r := hr
      cases hr'
      exact okWide_bool_mk Tryz.underlying4 true
    | j + 1, hj, _ => simp at hj

/-- A list from what holds at each index. -/
theorem list_of_all {α : Type} {P : Nat → α → Prop} : ∀ (n : Nat), (∀ i, i < n → ∃ x, P i x) → ∃ xs : List α, xs.length = n ∧ ∀ i (h : i < xs.length), P i xs[i]
  | 0, _ => ⟨[], rfl, fun i h => by simp at h⟩
  | n + 1, h => by
    obtain ⟨xs, hl, hx⟩ := list_of_all n (fun i hi => h i (by omega))
    obtain ⟨x, hp⟩ := h n (by omega)
    refine ⟨xs ++ [x], by simp [hl], fun i hi => ?_⟩
    rcases Nat.lt_or_ge i xs.length with h1 | h1
    · rw [List.getElem_append_left h1]; exact hx i h1
    · have e : i = n := by simp at hi; omega
      subst e
      rw [List.getElem_append_right (by omega)]
      simpa using hp
end Go.Proofs.YtciaallekkdnhaaGreat
namespace Go.Proofs.YtciaallekkdnhaaGreat
open Go.RowKit Go.WideShapes Go.ChangeShapes

def okI (x : Int) : Prop := (Lit.int .i64 x).wf = true
theorem okI_mk {x : Int} (h1 : -9223372036854775808 ≤ x) (h2 : x ≤ 9223372036854775807) : okI x := WalkArith.wf_i64 ⟨h1, h2⟩
theorem okI_bounds {x : Int} (h : okI x) : -9223372036854775808 ≤ x ∧ x ≤ 9223372036854775807 := by
  have h1 : IntKind.i64.min ≤ x ∧ x ≤ IntKind.i64.max := by simpa [okI, Lit.wf] using h
  exact h1

/-- The elements of a slice of integers. -/
structure IntsAt (w : World) (b off : Nat) (xs : List Int) : Prop where
  cell : ∀ i (h : i < xs.length), w.cell? ⟨b, off + i, none⟩ = some (.int .i64 xs[i])
  wf : ∀ x ∈ xs, okI x
  lt : 0 < xs.length → b < w.heap.size
theorem IntsAt.fr {w w' : World} {b off : Nat} {xs : List Int} (h : IntsAt w b off xs) (hf : Fr [] w w') : IntsAt w' b off xs :=
  ⟨fun i hi => (hf.rules.1 b _ (h.lt (by omega))).trans (h.cell i hi), h.wf, fun hl => Nat.lt_of_lt_of_le (h.lt hl) hf.size⟩
set_option maxRecDepth 100000 in
theorem intCells : Tryz.prog.cellsOf 3 = 1 := by kernel_rfl
set_option maxRecDepth 100000 in
theorem open_intsAt {H : Type} {enc : TypeId × Value → H} {W : World} {base : Nat} {v : Value} {d : DataW H} {p : List MemPlace} (hv : Value.okWide Tryz.prog W .any base 49 v)
    (h : DataW.Trod enc Tryz.prog W 0 (fun _ => true) true 49 v d p) :
    ∃ A n cap xs, v = .slice A n cap ∧ xs.length = n ∧ n ≤ maxLen ∧ (n = 0 ∨ ∃ b off, A = some ⟨b, off, none⟩ ∧ IntsAt W b off xs) := by
  obtain ⟨a0, len, cap, rfl⟩ := okWide_slice Tryz.underlying49 hv
  obtain ⟨fuel, hf⟩ := h
  rcases open_ints Tryz.underlying49 Tryz.underlying3 intCells hf with ⟨hcs, hx⟩ | ⟨a, len', cap', zs, hcs, _, hl, hm, hz, hx, hcell, hwz⟩
  · simp [Value.cells] at hcs
    obtain ⟨rfl, rfl, rfl⟩ := hcs
    exact ⟨_, _, _, [], rfl, rfl, by simp [maxLen], .inl rfl⟩
  · simp [Value.cells] at hcs
    obtain ⟨rfl, rfl, rfl⟩ := hcs
    simp only [if_true] at hz
    have hlen : (zs.take len).length = len := by rw [List.length_take]; omega
    refine ⟨_, _, _, zs.take len, rfl, hlen, by omega, ?_⟩
    rcases Nat.eq_zero_or_pos len with h0 | h0
    · exact .inl h0
    · right
      obtain ⟨b, off, spot⟩ := a
      have hspot : spot = none := by simpa [Addr.add] using World.cell?_spot (hcell 0 (by omega))
      subst hspot
      have hadd : ∀ j, (⟨b, off, none⟩ : Addr).add j = ⟨b, off + j, none⟩ := fun j => by unfold Addr.add; split <;> simp_all
      refine ⟨b, off, rfl, fun i hi => ?_, fun x hx => hwz x (List.mem_of_mem_take hx), fun _ => World.block_lt_of_cell? W _ (hcell 0 (by omega))⟩
      have := hcell i (by omega)
      rw [hadd] at this
      rw [this, List.getElem_take]
      simp [List.getD_eq_getElem?_getD, List.getElem?_eq_getElem (show i < zs.length by omega)]
end Go.Proofs.YtciaallekkdnhaaGreat
namespace Go.Proofs.YtciaallekkdnhaaGreat
open Go.RowKit

section
variable {P : Program} {ops : Array Oper} {md : Region.Mode} {Q : Exit → Act → World → Prop} {S : World → Prop}
/-- Some operations of the head are still to come; behind each S holds. -/
def HeadS (P : Program) (md : Region.Mode) (ops : Array Oper) (Q : Exit → Act → World → Prop) (S : World → Prop) (n : Nat) (L : Array Bool → Act → World → Prop) : Nat → Array Bool → Act → World → Prop
  | 0, done, a, w => L done a w
  | f + 1, done, a, w => Region.ready md ops done ≠ [] ∧ ∀ i ∈ Region.ready md ops done, i < n ∧ wpOp P ops Q i (fun a' w' => S w' ∧ HeadS P md ops Q S n L f (done.setIfInBounds i true) a' w') a w

theorem HeadS.any {n g : Nat} {L : Array Bool → Act → World → Prop} (hL : ∀ done a w, L done a w → wpAny P md ops Q g done a w) :
    ∀ (f : Nat) (done : Array Bool) (a : Act) (w : World), HeadS P md ops Q S n L f done a w → wpAny P md ops Q (f + g) done a w := by
  intro f
  induction f with
  | zero => intro done a w h; rw [Nat.zero_add]; exact hL _ _ _ h
  | succ f ih =>
    intro done a w h
    rw [Nat.add_right_comm]
    exact ⟨fun h0 => absurd h0 h.1, fun i hi => wpOp_mono (fun a' w' h' => ih _ a' w' h'.2) (h.2 i hi).2⟩

theorem HeadS.first {n i : Nat} {oi : Oper} {v : Value} {L : Array Bool → Act → World → Prop} (hi : ops[i]? = some oi) (hsel : ∀ (j : Nat) (o : Oper) cs b, ops[j]? = some o → o.op ≠ .select cs b)
    (hQ : ∀ c a w, Q (.panic c) (a.put oi.dst v) w → Q (.panic c) a w)
    (hs : Region.sinkB md ops n = true) (hc : Region.chainB md ops n = true) (hn : n < ops.size) (hin : i < n) (hend : ∀ done a w, L done a w → ∀ j ∈ Region.ready md ops done, n ≤ j) :
    ∀ (f : Nat) (done : Array Bool) (a : Act) (w : World), HeadInv md ops n done →
      (∀ j oj, ops[j]? = some oj → j ≠ i → done.getD j true = false → (∀ e ∈ oj.after, Region.binds md e = true → e.on ≠ i) → oi.apart ops oj = true) →
      i ∈ Region.ready md ops done → YieldsIf P ops S oi v a → S w → HeadS P md ops Q S n L f (done.setIfInBounds i true) (a.put oi.dst v) w → HeadS P md ops Q S n L (f + 1) done a w := by
  intro f
  induction f with
  | zero =>
    intro done a w inv _ hr hy hS H
    have hun := (mem_ready.1 hr).1
    refine ⟨List.ne_nil_of_mem hr, fun j hj => ?_⟩
    have hjn : j < n := Nat.lt_of_not_le fun h => tail_waits hs hc hn inv _ i rfl hin hun j h hj
    refine ⟨hjn, ?_⟩
    by_cases e : j = i
    · subst e
      exact hy.wpOp hi hS ⟨hS, H⟩
    · exact absurd (hend _ _ _ H j (ready_mono hj e)) (by omega)
  | succ f ih =>
    intro done a w inv hfree hr hy hS H
    have hun := (mem_ready.1 hr).1
    refine ⟨List.ne_nil_of_mem hr, fun j hj => ?_⟩
    have hjn : j < n := Nat.lt_of_not_le fun h => tail_waits hs hc hn inv _ i rfl hin hun j h hj
    refine ⟨hjn, ?_⟩
    by_cases e : j = i
    · subst e
      exact hy.wpOp hi hS ⟨hS, H⟩
    · obtain ⟨hjun, oj, hoj, hall⟩ := mem_ready.1 hj
      have hnot : ∀ e ∈ oj.after, Region.binds md e = true → e.on ≠ i := by
        intro x hx hb hxi
        have h1 := hall x hx hb
        rw [hxi, getD_both hun] at h1
        cases h1
      have h2 := wpOp_putIf hoj (hfree j oj hoj e hjun hnot) (fun cs b => hsel i oi cs b hi) (fun cs b => hsel j oj cs b hoj) hQ hy (H.2 j (ready_mono hj e)).2
      have hfree' : ∀ k ok, ops[k]? = some ok → k ≠ i → (done.setIfInBounds j true).getD k true = false →
          (∀ e ∈ ok.after, Region.binds md e = true → e.on ≠ i) → oi.apart ops ok = true := fun k ok hk hki hkun hkn => by
        refine hfree k ok hk hki ?_ hkn
        by_cases hjk : j = k
        · subst hjk
          exact hjun
        · rwa [getD_set_ne true hjk] at hkun
      refine wpOp_mono (fun a' w' h3 => ⟨h3.2.1, ih (done.setIfInBounds j true) a' w' (inv.set hj hjn) hfree' (ready_mono hr (Ne.symm e)) h3.1 h3.2.1 ?_⟩) h2
      rw [Array.setIfInBounds_comm _ _ e]
      exact h3.2.2

/-- The walk's goal within the head. -/
def wpHead (P : Program) (md : Region.Mode) (ops : Array Oper) (Q : Exit → Act → World → Prop) (S : World → Prop) (n f : Nat) (done : Array Bool) (a : Act) (w : World) : Prop :=
  HeadInv md ops n done → HeadS P md ops Q S n (fun d a' w' => Region.seqB md ops (ops.size - n) n d = true ∧ wpList P ops Q (ops.toList.drop n) a' w') f done a w

theorem wpHead_take {n i : Nat} {oi : Oper} {v : Value} {f : Nat} {done : Array Bool} {a : Act} {w : World} (hi : ops[i]? = some oi)
    (hB : (Region.noSelect ops && (Region.sinkB md ops n && (Region.chainB md ops n && (decide (n < ops.size) && (decide (i < n) && (Region.free md ops done i && (Region.ready md ops done).contains i)))))) = true)
    (hQ : ∀ c a w, Q (.panic c) (a.put oi.dst v) w → Q (.panic c) a w) (hy : YieldsIf P ops S oi v a) (hS : S w)
    (h : wpHead P md ops Q S n f (done.setIfInBounds i true) (a.put oi.dst v) w) : wpHead P md ops Q S n (f + 1) done a w := fun inv => by
  simp only [Bool.and_eq_true, decide_eq_true_eq] at hB
  obtain ⟨b1, b2, b3, b4, b5, b6, b7⟩ := hB
  have hr : i ∈ Region.ready md ops done := by simpa using b7
  exact HeadS.first hi (Region.noSelect_spec b1) hQ b2 b3 b4 b5 (fun d a' w' hL => seqB_ready hL.1) f done a w inv (Region.free_spec hi b6) hr hy hS (h (inv.set hr b5))

/-- One operation alone may come up: it is carried out, S shown anew. -/
theorem wpHead_one {n i : Nat} {o : Oper} {f : Nat} {done : Array Bool} {a : Act} {w : World} (ho : ops[i]? = some o) (hr : Region.ready md ops done = [i]) (hin : i < n)
    (h : ∀ K' : Act → World → Prop, Shut (∀ a w, S w → (S w → wpHead P md ops Q S n f (done.setIfInBounds i true) a w) → K' a w) → if Region.wanted o (yielded ops a.tmps) = true then Oper.wp P o a w K' Q else K' (a.put o.dst undef) w) :
    wpHead P md ops Q S n (f + 1) done a w := fun inv => by
  refine ⟨by rw [hr]; simp, fun j hj => ?_⟩
  have hj' : j = i := by rw [hr] at hj; simpa using hj
  subst hj'
  exact ⟨hin, wpOp_step ho (fun K' hK => h K' (fun a w hS hW => hK a w ⟨hS, hW hS (inv.set hj hin)⟩))⟩

/-- The head is done. -/
theorem wpHead_done {n : Nat} {done : Array Bool} {a : Act} {w : World} (hB : Region.seqB md ops (ops.size - n) n done = true) (h : wpList P ops Q (ops.toList.drop n) a w) : wpHead P md ops Q S n 0 done a w :=
  fun _ => ⟨hB, h⟩

theorem wp_region_head {id : Nat} {a : Act} {w : World} {l : List Oper} (S : World → Prop) (n : Nat) (hm : P.follows .mixedOrders = true) (hn : decide (n ≤ l.length) = true) (hS : S w.drew)
    (h : S w.drew → wpHead P .any l.toArray Q S n n (Array.replicate l.length false) a w.drew) : (Code.region id l.toArray true).wp P Q a w := by
  simp only [decide_eq_true_eq] at hn
  refine wp_region_any hm ?_
  have inv0 : HeadInv .any l.toArray n (Array.replicate l.length false) :=
    ⟨by simp, fun j oj _ hl => (by rw [getD_replicate_false] at hl; cases hl), fun t _ ht => getD_in (by simpa using ht) (getD_replicate_false _ _)⟩
  have H2 := HeadS.any (Q := Q) (g := l.toArray.size - n) (fun d a' w' hL => by
    have h1 := wpAny_of_seq (P := P) (ops := l.toArray) (md := .any) (Q' := Q) (l.drop n) n d a' w' (fun j => by simp [List.getElem?_drop]) (by
      have e : (l.drop n).length = l.toArray.size - n := by simp
      rw [e]; exact hL.1) (by simpa using hL.2)
    have e : (l.drop n).length = l.toArray.size - n := by simp
    rwa [e] at h1) _ _ _ _ (h hS inv0)
  have e : n + (l.toArray.size - n) = l.toArray.size := by simp; omega
  rw [e] at H2
  simpa using H2
/-- A load of a whole struct from the head of a block that S names. -/
theorem yieldsIf_load_blk {o : Oper} {a : Act} (hw : Region.wanted o (yielded ops a.tmps) = true) (ty : TypeId) (x : Operand) (ho : o.op = .load ty x) (g : Nat) (hx : a.eval x = .pointer (some ⟨g, 0, none⟩)) (t : TypeId) (cs : Array Value) (d : TypeDesc)
    (hS : ∀ w, S w → Blk w g t cs) (hu : P.underlying ty = some d) (hd : (match d with | .struct _ | .array _ _ => true | _ => false) = true) (hi : (P.info? ty).map (·.size) = some cs.size) : YieldsIf P ops S o (.agg cs) a := by
  refine .inl ⟨hw, fun w h => ?_⟩
  have hr := run_loadVar_row (P := P) w g t ty cs (0, 0) d (hS w h) hu hd hi
  unfold execOp
  simp only [ho, hx, Instr.loadAt, Instr.sureAddr, Sem.run_bind, Sem.run_pure, Result.andThen_ok, hr]
end
end Go.Proofs.YtciaallekkdnhaaGreat
