/-
  row.Before, row.After: the rows of a change.
-/
import Derived.Test.YthiaaminkfkjpaaGreatGag
namespace Go.Proofs.YthiaaminkfkjpaaGreat

namespace Pm
/-- The rows before and after a change. -/
def bef (c : Chg) : Option RowV := if c.had = true then some ⟨c.t, c.k, c.o0, c.o1, c.o2⟩ else none
def aft (c : Chg) : Option RowV := if c.has = true then some ⟨c.t, c.k, c.n0, c.n1, c.n2⟩ else none
/-- A row is in the scan of a query. -/
def inq (q : Qry) (r : RowV) : Bool := decide (r.t = q.table) && (decide (q.low ≤ r.value q.column) && decide (r.value q.column ≤ q.high))
def sc (q : Qry) (o : Option RowV) : Option RowV := o.filter (inq q)
def me (q : Qry) : Option RowV → Int
  | some r => r.value q.by_
  | none => 0
def B (q : Qry) (c : Chg) : Option RowV := sc q (bef c)
def A (q : Qry) (c : Chg) : Option RowV := sc q (aft c)
def old (q : Qry) (c : Chg) : Int := me q (B q c)
def now (q : Qry) (c : Chg) : Int := me q (A q c)
def anyE (q : Qry) (c : Chg) : Bool := (B q c).isSome || (A q c).isSome
def oneE (q : Qry) (c : Chg) : Bool := (B q c).isSome != (A q c).isSome
/-- Whether a valid change touches a valid query. -/
def tk (q : Qry) (c : Chg) : Bool :=
  if q.kind = 3 then oneE q c
  else if q.kind = 4 then !decide (old q c = now q c)
  else if q.kind = 5 ∨ q.kind = 6 then oneE q c || !decide (old q c = now q c)
  else if q.kind = 7 then anyE q c || decide (c.t = q.other)
  else anyE q c
def touches (q : Qry) (c : Chg) : Bool := Em.valid q && (Rw.chg c && tk q c)
def behind (q : Qry) (a x : RowV) : Bool := decide (a.value q.column < x.value q.column) || (decide (x.value q.column = a.value q.column) && decide (a.k < x.k))
/-- An element ahead of the first one of which p holds. -/
def ins {X : Type} (p : X → Bool) (x : X) : List X → List X
  | [] => [x]
  | y :: l => if p y = true then x :: y :: l else y :: ins p x l
def own (c : Chg) (x : RowV) : Bool := decide (x.t = c.t) && decide (x.k = c.k)
def rows (q : Qry) (l : List RowV) (c : Chg) : List RowV := match A q c with
  | some a => ins (behind q a) a (l.filter fun x => !own c x)
  | none => l.filter fun x => !own c x
def better (k a b : Int) : Bool := if k = 5 then decide (a < b) else decide (b < a)
def ext (q : Qry) (r : Res) (c : Chg) : Option Res :=
  if ((B q c).isSome && (!r.found || !better q.kind r.value (old q c))) = true then
    (if ((A q c).isSome && (r.found && !better q.kind r.value (now q c))) = true then some ⟨r.rows, now q c, r.found⟩ else none)
  else if (A q c).isSome = true then some ⟨r.rows, if (!r.found || better q.kind (now q c) r.value) = true then now q c else r.value, true⟩
  else some r
def pairs : List RowV → List (RowV × RowV)
  | x :: y :: l => (x, y) :: pairs l
  | _ => []
def flat (l : List (RowV × RowV)) : List RowV := l.flatMap fun p => [p.1, p.2]
/-- The pairs after a change of the other table. -/
def other (l : List (RowV × RowV)) (c : Chg) : List (RowV × RowV) := match aft c with
  | none => l.filter fun p => !decide (p.2.k = c.k)
  | some y => l.map fun p => if p.2.k = c.k then (p.1, y) else p
def rest (l : List (RowV × RowV)) (c : Chg) : List (RowV × RowV) := l.filter fun p => !decide (p.1.k = c.k)
def left (q : Qry) (l : List (RowV × RowV)) (c : Chg) : Option (List (RowV × RowV)) := match A q c with
  | none => some (rest l c)
  | some a => match l.find? (fun p => decide (p.2.k = now q c)) with
    | none => if ((B q c).isSome && decide (old q c = now q c)) = true then some (rest l c) else none
    | some p => some (ins (fun x => behind q a x.1) (a, p.2) (rest l c))
def join (q : Qry) (l : List (RowV × RowV)) (c : Chg) : Option (List (RowV × RowV)) :=
  if c.t = q.other then (if c.had = true then some (other l c) else none) else left q l c
/-- A result that is touched. -/
def pk (q : Qry) (r : Res) (c : Chg) : Option Res :=
  if q.kind = 3 then some ⟨r.rows, if (A q c).isSome = true then r.value + 1 else r.value - 1, r.found⟩
  else if q.kind = 4 then some ⟨r.rows, r.value + (now q c - old q c), r.found⟩
  else if q.kind = 5 ∨ q.kind = 6 then ext q r c
  else if q.kind = 7 then (if q.table = q.other then none else (join q (pairs r.rows) c).map fun l => ⟨flat l, r.value, r.found⟩)
  else some ⟨rows q r.rows c, r.value, r.found⟩
def patch (q : Qry) (r : Res) (c : Chg) : Option Res := if touches q c = true then pk q r c else some r
/-- A record's changes, one after the other; whether one of them touched the query. -/
def go (q : Qry) : List Chg → Res → Bool → Option (Res × Bool)
  | [], r, t => some (r, t)
  | c :: cs, r, t => match patch q r c with
    | none => none
    | some r' => go q cs r' (t || touches q c)
def apply (q : Qry) (r : Res) (cs : List Chg) : Option (Res × Bool) := go q cs r false
end Pm
end Go.Proofs.YthiaaminkfkjpaaGreat
namespace Go.Proofs.YthiaaminkfkjpaaGreat
open Go.RowKit

theorem pafter_no (c : Chg) (h : c.has = false) (w : World) : Calls Tryz.prog 39 #[c.val] w fun e w' =>
    e = .returned (.tuple #[rowVal 0 0 0 0 0, .bool false]) ∧ Fr [] w w' := by
  obtain ⟨t, k, had, o0, o1, o2, has, n0, n1, n2⟩ := c
  dsimp only at h
  subst h
  have F0 : Fr [] w ((w.alloc (.cells #[.int .i64 t, .int .i64 k, .bool had, .int .i64 o0, .int .i64 o1, .int .i64 o2, .bool false, .int .i64 n0, .int .i64 n1, .int .i64 n2] 65)).alloc (.cells #[.int .i64 0, .int .i64 0, .int .i64 0, .int .i64 0, .int .i64 0] 67)) := ((Fr.refl _ _).alloc _).alloc _
  have hB := Blk.new (w.alloc (.cells #[.int .i64 t, .int .i64 k, .bool had, .int .i64 o0, .int .i64 o1, .int .i64 o2, .bool false, .int .i64 n0, .int .i64 n1, .int .i64 n2] 65)) 67 #[.int .i64 0, .int .i64 0, .int .i64 0, .int .i64 0, .int .i64 0]
  rw [World.size_alloc] at hB
  have hh := half_no ⟨t, k, had, o0, o1, o2, false, n0, n1, n2⟩ n0 n1 n2
  unfold Chg.val rowVal at *
  go_enter Tryz.func39, Tryz.ntmps39
  go_wp2_with fail
  refine (hh _).mono ?_
  rintro e w1 ⟨rfl, f1⟩
  have F1 := F0.trans f1
  have hB1 := hB.fr f1 (by simp)
  have h0 := hB1.cell 0
  have h1 := hB1.cell 1
  have h2 := hB1.cell 2
  have h3 := hB1.cell 3
  have h4 := hB1.cell 4
  have z0 := hB1.frozen 0
  have z1 := hB1.frozen 1
  have z2 := hB1.frozen 2
  have z3 := hB1.frozen 3
  have z4 := hB1.frozen 4
  go_wp2_with fail
  refine bodyPost_ret (v := .tuple #[.agg #[.int .i64 0, .int .i64 0, .int .i64 0, .int .i64 0, .int .i64 0], .bool false]) (by simp [results, Tryz.results39, go_sem, h0, h1, h2, h3, h4]) rfl ⟨rfl, ?_⟩
  repeat first | exact F1 | refine Fr.setCell ?_ (.inr (by simp)) _
theorem pafter_yes (c : Chg) (h : c.has = true) (w : World) : Calls Tryz.prog 39 #[c.val] w fun e w' =>
    e = .returned (.tuple #[rowVal c.t c.k c.n0 c.n1 c.n2, .bool true]) ∧ Fr [] w w' := by
  obtain ⟨t, k, had, o0, o1, o2, has, n0, n1, n2⟩ := c
  dsimp only at h
  subst h
  have F0 : Fr [] w ((w.alloc (.cells #[.int .i64 t, .int .i64 k, .bool had, .int .i64 o0, .int .i64 o1, .int .i64 o2, .bool true, .int .i64 n0, .int .i64 n1, .int .i64 n2] 65)).alloc (.cells #[.int .i64 0, .int .i64 0, .int .i64 0, .int .i64 0, .int .i64 0] 67)) := ((Fr.refl _ _).alloc _).alloc _
  have hB := Blk.new (w.alloc (.cells #[.int .i64 t, .int .i64 k, .bool had, .int .i64 o0, .int .i64 o1, .int .i64 o2, .bool true, .int .i64 n0, .int .i64 n1, .int .i64 n2] 65)) 67 #[.int .i64 0, .int .i64 0, .int .i64 0, .int .i64 0, .int .i64 0]
  rw [World.size_alloc] at hB
  have hh := half_yes ⟨t, k, had, o0, o1, o2, true, n0, n1, n2⟩ n0 n1 n2
  unfold Chg.val rowVal at *
  go_enter Tryz.func39, Tryz.ntmps39
  go_wp2_with fail
  refine (hh _).mono ?_
  rintro e w1 ⟨rfl, f1⟩
  have F1 := F0.trans f1
  have hB1 := hB.fr f1 (by simp)
  have h0 := hB1.cell 0
  have h1 := hB1.cell 1
  have h2 := hB1.cell 2
  have h3 := hB1.cell 3
  have h4 := hB1.cell 4
  have z0 := hB1.frozen 0
  have z1 := hB1.frozen 1
  have z2 := hB1.frozen 2
  have z3 := hB1.frozen 3
  have z4 := hB1.frozen 4
  go_wp2_with fail
  refine bodyPost_ret (v := .tuple #[.agg #[.int .i64 t, .int .i64 k, .int .i64 n0, .int .i64 n1, .int .i64 n2], .bool true]) (by simp [results, Tryz.results39, go_sem, h0, h1, h2, h3, h4]) rfl ⟨rfl, ?_⟩
  repeat first | exact F1 | refine Fr.setCell ?_ (.inr (by simp)) _
theorem pbefore_no (c : Chg) (h : c.had = false) (w : World) : Calls Tryz.prog 89 #[c.val] w fun e w' =>
    e = .returned (.tuple #[rowVal 0 0 0 0 0, .bool false]) ∧ Fr [] w w' := by
  obtain ⟨t, k, had, o0, o1, o2, has, n0, n1, n2⟩ := c
  dsimp only at h
  subst h
  have F0 : Fr [] w ((w.alloc (.cells #[.int .i64 t, .int .i64 k, .bool false, .int .i64 o0, .int .i64 o1, .int .i64 o2, .bool has, .int .i64 n0, .int .i64 n1, .int .i64 n2] 65)).alloc (.cells #[.int .i64 0, .int .i64 0, .int .i64 0, .int .i64 0, .int .i64 0] 67)) := ((Fr.refl _ _).alloc _).alloc _
  have hB := Blk.new (w.alloc (.cells #[.int .i64 t, .int .i64 k, .bool false, .int .i64 o0, .int .i64 o1, .int .i64 o2, .bool has, .int .i64 n0, .int .i64 n1, .int .i64 n2] 65)) 67 #[.int .i64 0, .int .i64 0, .int .i64 0, .int .i64 0, .int .i64 0]
  rw [World.size_alloc] at hB
  have hh := half_no ⟨t, k, false, o0, o1, o2, has, n0, n1, n2⟩ o0 o1 o2
  unfold Chg.val rowVal at *
  go_enter Tryz.func89, Tryz.ntmps89
  go_wp2_with fail
  refine (hh _).mono ?_
  rintro e w1 ⟨rfl, f1⟩
  have F1 := F0.trans f1
  have hB1 := hB.fr f1 (by simp)
  have h0 := hB1.cell 0
  have h1 := hB1.cell 1
  have h2 := hB1.cell 2
  have h3 := hB1.cell 3
  have h4 := hB1.cell 4
  have z0 := hB1.frozen 0
  have z1 := hB1.frozen 1
  have z2 := hB1.frozen 2
  have z3 := hB1.frozen 3
  have z4 := hB1.frozen 4
  go_wp2_with fail
  refine bodyPost_ret (v := .tuple #[.agg #[.int .i64 0, .int .i64 0, .int .i64 0, .int .i64 0, .int .i64 0], .bool false]) (by simp [results, Tryz.results89, go_sem, h0, h1, h2, h3, h4]) rfl ⟨rfl, ?_⟩
  repeat first | exact F1 | refine Fr.setCell ?_ (.inr (by simp)) _
set_option maxRecDepth 100000 in
theorem pbefore_yes (c : Chg) (h : c.had = true) (w : World) : Calls Tryz.prog 89 #[c.val] w fun e w' =>
    e = .returned (.tuple #[rowVal c.t c.k c.o0 c.o1 c.o2, .bool true]) ∧ Fr [] w w' := by
  obtain ⟨t, k, had, o0, o1, o2, has, n0, n1, n2⟩ := c
  dsimp only at h
  subst h
  have F0 : Fr [] w ((w.alloc (.cells #[.int .i64 t, .int .i64 k, .bool true, .int .i64 o0, .int .i64 o1, .int .i64 o2, .bool has, .int .i64 n0, .int .i64 n1, .int .i64 n2] 65)).alloc (.cells #[.int .i64 0, .int .i64 0, .int .i64 0, .int .i64 0, .int .i64 0] 67)) := ((Fr.refl _ _).alloc _).alloc _
  have hB := Blk.new (w.alloc (.cells #[.int .i64 t, .int .i64 k, .bool true, .int .i64 o0, .int .i64 o1, .int .i64 o2, .bool has, .int .i64 n0, .int .i64 n1, .int .i64 n2] 65)) 67 #[.int .i64 0, .int .i64 0, .int .i64 0, .int .i64 0, .int .i64 0]
  rw [World.size_alloc] at hB
  have hh := half_yes ⟨t, k, true, o0, o1, o2, has, n0, n1, n2⟩ o0 o1 o2
  unfold Chg.val rowVal at *
  go_enter Tryz.func89, Tryz.ntmps89
  go_wp2_with fail
  refine (hh _).mono ?_
  rintro e w1 ⟨rfl, f1⟩
  have F1 := F0.trans f1
  have hB1 := hB.fr f1 (by simp)
  have h0 := hB1.cell 0
  have h1 := hB1.cell 1
  have h2 := hB1.cell 2
  have h3 := hB1.cell 3
  have h4 := hB1.cell 4
  have z0 := hB1.frozen 0
  have z1 := hB1.frozen 1
  have z2 := hB1.frozen 2
  have z3 := hB1.frozen 3
  have z4 := hB1.frozen 4
  go_wp2_with fail
  refine bodyPost_ret (v := .tuple #[.agg #[.int .i64 t, .int .i64 k, .int .i64 o0, .int .i64 o1, .int .i64 o2], .bool true]) (by simp [results, Tryz.results89, go_sem, h0, h1, h2, h3, h4]) rfl ⟨rfl, ?_⟩
  repeat first | exact F1 | refine Fr.setCell ?_ (.inr (by simp)) _
/-- The row before a change, and whether there is one. -/
theorem pbefore_any (c : Chg) (w : World) : Calls Tryz.prog 89 #[c.val] w fun e w' => ∃ r : RowV, e = .returned (.tuple #[r.val, .bool c.had]) ∧ Pm.bef c = (if c.had = true then some r else none) ∧ Fr [] w w' := by
  cases h : c.had with
  | true => exact (pbefore_yes c h w).mono fun _ _ hh => ⟨⟨c.t, c.k, c.o0, c.o1, c.o2⟩, hh.1, by simp [Pm.bef, h], hh.2⟩
  | false => exact (pbefore_no c h w).mono fun _ _ hh => ⟨⟨0, 0, 0, 0, 0⟩, hh.1, by simp [Pm.bef, h], hh.2⟩
/-- The row after a change, and whether there is one. -/
theorem pafter_any (c : Chg) (w : World) : Calls Tryz.prog 39 #[c.val] w fun e w' => ∃ r : RowV, e = .returned (.tuple #[r.val, .bool c.has]) ∧ Pm.aft c = (if c.has = true then some r else none) ∧ Fr [] w w' := by
  cases h : c.has with
  | true => exact (pafter_yes c h w).mono fun _ _ hh => ⟨⟨c.t, c.k, c.n0, c.n1, c.n2⟩, hh.1, by simp [Pm.aft, h], hh.2⟩
  | false => exact (pafter_no c h w).mono fun _ _ hh => ⟨⟨0, 0, 0, 0, 0⟩, hh.1, by simp [Pm.aft, h], hh.2⟩
end Go.Proofs.YthiaaminkfkjpaaGreat
