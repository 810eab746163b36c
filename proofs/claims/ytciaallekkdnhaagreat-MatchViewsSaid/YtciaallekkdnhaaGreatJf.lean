/-
  What effectOf computes.
-/
import Derived.Test.YtciaallekkdnhaaGreatJc
import Derived.Deep.DeepCutAuto
import Derived.Test.YtciaallekkdnhaaGreatJd
namespace Go.Proofs.YtciaallekkdnhaaGreat

namespace Pm
/-- The rows before and after a change. -/
def bef (c : Chg) : Option RowV := if c.had = true then some ⟨c.t, c.k, c.o0, c.o1, c.o2⟩ else none
def aft (c : Chg) : Option RowV := if c.has = true then some ⟨c.t, c.k, c.n0, c.n1, c.n2⟩ else none
/-- A row is in the scan of a query. -/
def inq (q : Qry) (r : RowV) : Bool := decide (r.t = q.table) && (decide (q.low ≤ r.value q.column) && decide (r.value q.column ≤ q.high))
def sc (q : Qry) (o : Option RowV) : Option RowV := o.filter (inq q)
def me (q : Qry) : Option RowV → Int
  | some r => r.value q.by_
  | none => 0
def B (q : Qry) (c : Chg) : Option RowV := sc q (bef c)
def A (q : Qry) (c : Chg) : Option RowV := sc q (aft c)
def old (q : Qry) (c : Chg) : Int := me q (B q c)
def now (q : Qry) (c : Chg) : Int := me q (A q c)
def anyE (q : Qry) (c : Chg) : Bool := (B q c).isSome || (A q c).isSome
def oneE (q : Qry) (c : Chg) : Bool := (B q c).isSome != (A q c).isSome
/-- Whether a valid change touches a valid query. -/
def tk (q : Qry) (c : Chg) : Bool :=
  if q.kind = 3 then oneE q c
  else if q.kind = 4 then !decide (old q c = now q c)
  else if q.kind = 5 ∨ q.kind = 6 then oneE q c || !decide (old q c = now q c)
  else if q.kind = 7 then anyE q c || decide (c.t = q.other)
  else anyE q c
def touches (q : Qry) (c : Chg) : Bool := Em.valid q && (Rw.chg c && tk q c)
def behind (q : Qry) (a x : RowV) : Bool := decide (a.value q.column < x.value q.column) || (decide (x.value q.column = a.value q.column) && decide (a.k < x.k))
/-- An element ahead of the first one of which p holds. -/
def ins {X : Type} (p : X → Bool) (x : X) : List X → List X
  | [] => [x]
  | y :: l => if p y = true then x :: y :: l else y :: ins p x l
def own (c : Chg) (x : RowV) : Bool := decide (x.t = c.t) && decide (x.k = c.k)
def rows (q : Qry) (l : List RowV) (c : Chg) : List RowV := match A q c with
  | some a => ins (behind q a) a (l.filter fun x => !own c x)
  | none => l.filter fun x => !own c x
def better (k a b : Int) : Bool := if k = 5 then decide (a < b) else decide (b < a)
def ext (q : Qry) (r : Res) (c : Chg) : Option Res :=
  if ((B q c).isSome && (!r.found || !better q.kind r.value (old q c))) = true then
    (if ((A q c).isSome && (r.found && !better q.kind r.value (now q c))) = true then some ⟨r.rows, now q c, r.found⟩ else none)
  else if (A q c).isSome = true then some ⟨r.rows, if (!r.found || better q.kind (now q c) r.value) = true then now q c else r.value, true⟩
  else some r
def pairs : List RowV → List (RowV × RowV)
  | x :: y :: l => (x, y) :: pairs l
  | _ => []
def flat (l : List (RowV × RowV)) : List RowV := l.flatMap fun p => [p.1, p.2]
/-- The pairs after a change of the other table. -/
def other (l : List (RowV × RowV)) (c : Chg) : List (RowV × RowV) := match aft c with
  | none => l.filter fun p => !decide (p.2.k = c.k)
  | some y => l.map fun p => if p.2.k = c.k then (p.1, y) else p
def rest (l : List (RowV × RowV)) (c : Chg) : List (RowV × RowV) := l.filter fun p => !decide (p.1.k = c.k)
def left (q : Qry) (l : List (RowV × RowV)) (c : Chg) : Option (List (RowV × RowV)) := match A q c with
  | none => some (rest l c)
  | some a => match l.find? (fun p => decide (p.2.k = now q c)) with
    | none => if ((B q c).isSome && decide (old q c = now q c)) = true then some (rest l c) else none
    | some p => some (ins (fun x => behind q a x.1) (a, p.2) (rest l c))
def join (q : Qry) (l : List (RowV × RowV)) (c : Chg) : Option (List (RowV × RowV)) :=
  if c.t = q.other then (if c.had = true then some (other l c) else none) else left q l c
/-- A result that is touched. -/
def pk (q : Qry) (r : Res) (c : Chg) : Option Res :=
  if q.kind = 3 then some ⟨r.rows, if (A q c).isSome = true then r.value + 1 else r.value - 1, r.found⟩
  else if q.kind = 4 then some ⟨r.rows, r.value + (now q c - old q c), r.found⟩
  else if q.kind = 5 ∨ q.kind = 6 then ext q r c
  else if q.kind = 7 then (if q.table = q.other then none else (join q (pairs r.rows) c).map fun l => ⟨flat l, r.value, r.found⟩)
  else some ⟨rows q r.rows c, r.value, r.found⟩
def patch (q : Qry) (r : Res) (c : Chg) : Option Res := if touches q c = true then pk q r c else some r
/-- A record's changes, one after the other; whether one of them touched the query. -/
def go (q : Qry) : List Chg → Res → Bool → Option (Res × Bool)
  | [], r, t => some (r, t)
  | c :: cs, r, t => match patch q r c with
    | none => none
    | some r' => go q cs r' (t || touches q c)
def apply (q : Qry) (r : Res) (cs : List Chg) : Option (Res × Bool) := go q cs r false
end Pm
end Go.Proofs.YtciaallekkdnhaaGreat
namespace Go.Proofs.YtciaallekkdnhaaGreat
open Go.RowKit

theorem qwithin_any (n a b : Int) (w : World) : Calls Tryz.prog 47 #[.int .i64 n, .int .i64 a, .int .i64 b] w fun e w' => e = .returned (.bool (Em.within n a b)) ∧ w = w' := by
  go_enter Tryz.func47, Tryz.ntmps47
  by_cases h1 : a ≤ n
  · by_cases h2 : n ≤ b
    · go_wp2
      go_ret
      simp [Em.within, h1, h2]
    · go_wp2
      go_ret
      simp [Em.within, h1, h2]
  · have e : Em.within n a b = false := by simp [Em.within, h1]
    have E := Lib.hid e
    clear e
    go_wp2
    go_ret
    rw [E.out]
    exact ⟨rfl, rfl⟩
/-- A query in memory. -/
def QAt (w : World) (g : Nat) (q : Qry) : Prop := Blk w g 35 #[.int .i64 q.kind, .int .i64 q.table, .int .i64 q.column, .int .i64 q.low, .int .i64 q.high, .int .i64 q.by_, .int .i64 q.other]
theorem QAt.c0 {w : World} {g : Nat} {q : Qry} (h : QAt w g q) : w.cell? ⟨g, 0, none⟩ = some (.int .i64 q.kind) := Blk.cell h 0
theorem QAt.c1 {w : World} {g : Nat} {q : Qry} (h : QAt w g q) : w.cell? ⟨g, 1, none⟩ = some (.int .i64 q.table) := Blk.cell h 1
theorem QAt.c2 {w : World} {g : Nat} {q : Qry} (h : QAt w g q) : w.cell? ⟨g, 2, none⟩ = some (.int .i64 q.column) := Blk.cell h 2
theorem QAt.c3 {w : World} {g : Nat} {q : Qry} (h : QAt w g q) : w.cell? ⟨g, 3, none⟩ = some (.int .i64 q.low) := Blk.cell h 3
theorem QAt.c4 {w : World} {g : Nat} {q : Qry} (h : QAt w g q) : w.cell? ⟨g, 4, none⟩ = some (.int .i64 q.high) := Blk.cell h 4
theorem QAt.c5 {w : World} {g : Nat} {q : Qry} (h : QAt w g q) : w.cell? ⟨g, 5, none⟩ = some (.int .i64 q.by_) := Blk.cell h 5
theorem QAt.c6 {w : World} {g : Nat} {q : Qry} (h : QAt w g q) : w.cell? ⟨g, 6, none⟩ = some (.int .i64 q.other) := Blk.cell h 6
theorem QAt.new (w : World) (q : Qry) : QAt (w.alloc (.cells #[.int .i64 q.kind, .int .i64 q.table, .int .i64 q.column, .int .i64 q.low, .int .i64 q.high, .int .i64 q.by_, .int .i64 q.other] 35)) w.heap.size q := Blk.new _ _ _
theorem QAt.fr {w w' : World} {g : Nat} {q : Qry} {S : List Nat} (h : QAt w g q) (hf : Fr S w w') (hg : g ∉ S) : QAt w' g q := Blk.fr h hf hg
set_option maxRecDepth 100000 in
set_option maxHeartbeats 4000000 in
theorem qvalid_any (q : Qry) (w : World) : Calls Tryz.prog 27 #[q.val] w fun e w' => e = .returned (.bool (Em.valid q)) ∧ Fr [] w w' := by
  have F0 : Hid (Fr [] w (w.alloc (.cells #[.int .i64 q.kind, .int .i64 q.table, .int .i64 q.column, .int .i64 q.low, .int .i64 q.high, .int .i64 q.by_, .int .i64 q.other] 35))) := Lib.hid ((Fr.refl _ _).alloc _)
  have HB := Lib.hid (QAt.new w q)
  have HW := Lib.hid qwithin_any
  obtain ⟨k, t, c, lo, hi, b, o⟩ := q
  unfold Qry.val
  dsimp only at *
  have c0 := HB.out.c0
  have c1 := HB.out.c1
  have c2 := HB.out.c2
  have c3 := HB.out.c3
  have c4 := HB.out.c4
  have c5 := HB.out.c5
  have c6 := HB.out.c6
  dsimp only at c0 c1 c2 c3 c4 c5 c6
  go_enter Tryz.func27, Tryz.ntmps27
  go_upto_region 1 with (fail)
  generalize w.alloc (.cells #[.int .i64 k, .int .i64 t, .int .i64 c, .int .i64 lo, .int .i64 hi, .int .i64 b, .int .i64 o] 35) = w1 at *
  go_cut [3] (fun v wc => w1 = wc ∧ v = .bool (Em.base ⟨k, t, c, lo, hi, b, o⟩))
  case first =>
    cases h1 : Em.within t 0 3
    · have E : Hid (Em.base ⟨k, t, c, lo, hi, b, o⟩ = false) := Lib.hid (by simp [Em.base, h1])
      go_wp2_with (go_at_call 47; refine (HW.out _ _ _ _).mono ?_; rintro e w' ⟨rfl, rfl⟩)
      go_meet
      case rel => exact ⟨rfl, by rw [E.out]⟩
    · cases h2 : Em.within c 0 3
      · have E : Hid (Em.base ⟨k, t, c, lo, hi, b, o⟩ = false) := Lib.hid (by simp [Em.base, h2])
        go_wp2_with (go_at_call 47; refine (HW.out _ _ _ _).mono ?_; rintro e w' ⟨rfl, rfl⟩)
        go_meet
        case rel => exact ⟨rfl, by rw [E.out]⟩
      · cases h3 : Em.within lo (-1000000000) hi
        · have E : Hid (Em.base ⟨k, t, c, lo, hi, b, o⟩ = false) := Lib.hid (by simp [Em.base, h3])
          go_wp2_with (go_at_call 47; refine (HW.out _ _ _ _).mono ?_; rintro e w' ⟨rfl, rfl⟩)
          go_meet
          case rel => exact ⟨rfl, by rw [E.out]⟩
        · have E : Hid (Em.base ⟨k, t, c, lo, hi, b, o⟩ = decide (hi ≤ 1000000000)) := Lib.hid (by simp [Em.base, h1, h2, h3])
          go_wp2_with (go_at_call 47; refine (HW.out _ _ _ _).mono ?_; rintro e w' ⟨rfl, rfl⟩)
          go_meet
          case rel => exact ⟨rfl, by rw [E.out]⟩
  case rest =>
    obtain ⟨rfl, rfl⟩ := hcut
    have z5 := Blk.frozen HB.out 5
    have z6 := Blk.frozen HB.out 6
    by_cases k1 : k = 1
    · subst k1
      cases hbs : Em.base ⟨1, t, c, lo, hi, b, o⟩
      · go_wp2_with (go_at_call 47; refine (HW.out _ _ _ _).mono ?_; rintro e w' ⟨rfl, rfl⟩)
        all_goals
          go_ret
          exact ⟨by simp_all [Em.valid] <;> rfl, F0.out⟩
      · skip
        cases h1 : Em.within lo 1 1000000
        · go_wp2_with (go_at_call 47; refine (HW.out _ _ _ _).mono ?_; rintro e w' ⟨rfl, rfl⟩)
          all_goals
            go_ret
            exact ⟨by simp_all [Em.valid] <;> rfl, F0.out⟩
        · skip
          go_wp2_with (go_at_call 47; refine (HW.out _ _ _ _).mono ?_; rintro e w' ⟨rfl, rfl⟩)
          all_goals
            go_ret
            exact ⟨by simp_all [Em.valid] <;> rfl, F0.out⟩
    · skip
      by_cases k7 : k = 7
      · subst k7
        cases hbs : Em.base ⟨7, t, c, lo, hi, b, o⟩
        · go_wp2_with (go_at_call 47; refine (HW.out _ _ _ _).mono ?_; rintro e w' ⟨rfl, rfl⟩)
          all_goals
            go_ret
            exact ⟨by simp_all [Em.valid] <;> rfl, (F0.out.setCell (.inr (Nat.le_refl _)) _).setCell (.inr (Nat.le_refl _)) _⟩
        · skip
          cases h2 : Em.within o 0 3
          · go_wp2_with (go_at_call 47; refine (HW.out _ _ _ _).mono ?_; rintro e w' ⟨rfl, rfl⟩)
            all_goals
              go_ret
              exact ⟨by simp_all [Em.valid] <;> rfl, (F0.out.setCell (.inr (Nat.le_refl _)) _).setCell (.inr (Nat.le_refl _)) _⟩
          · skip
            cases h3 : Em.within b 1 3
            · go_wp2_with (go_at_call 47; refine (HW.out _ _ _ _).mono ?_; rintro e w' ⟨rfl, rfl⟩)
              all_goals
                go_ret
                exact ⟨by simp_all [Em.valid] <;> rfl, (F0.out.setCell (.inr (Nat.le_refl _)) _).setCell (.inr (Nat.le_refl _)) _⟩
            · skip
              go_wp2_with (go_at_call 47; refine (HW.out _ _ _ _).mono ?_; rintro e w' ⟨rfl, rfl⟩)
              all_goals
                go_ret
                exact ⟨by simp_all [Em.valid] <;> rfl, (F0.out.setCell (.inr (Nat.le_refl _)) _).setCell (.inr (Nat.le_refl _)) _⟩
      · skip
        by_cases k4 : k = 4
        · subst k4
          cases hbs : Em.base ⟨4, t, c, lo, hi, b, o⟩
          · go_wp2_with (go_at_call 47; refine (HW.out _ _ _ _).mono ?_; rintro e w' ⟨rfl, rfl⟩)
            all_goals
              go_ret
              exact ⟨by simp_all [Em.valid] <;> rfl, F0.out.setCell (.inr (Nat.le_refl _)) _⟩
          · skip
            cases h3 : Em.within b 1 3
            · go_wp2_with (go_at_call 47; refine (HW.out _ _ _ _).mono ?_; rintro e w' ⟨rfl, rfl⟩)
              all_goals
                go_ret
                exact ⟨by simp_all [Em.valid] <;> rfl, F0.out.setCell (.inr (Nat.le_refl _)) _⟩
            · skip
              go_wp2_with (go_at_call 47; refine (HW.out _ _ _ _).mono ?_; rintro e w' ⟨rfl, rfl⟩)
              all_goals
                go_ret
                exact ⟨by simp_all [Em.valid] <;> rfl, F0.out.setCell (.inr (Nat.le_refl _)) _⟩
        · skip
          by_cases k5 : k = 5
          · subst k5
            cases hbs : Em.base ⟨5, t, c, lo, hi, b, o⟩
            · go_wp2_with (go_at_call 47; refine (HW.out _ _ _ _).mono ?_; rintro e w' ⟨rfl, rfl⟩)
              all_goals
                go_ret
                exact ⟨by simp_all [Em.valid] <;> rfl, F0.out.setCell (.inr (Nat.le_refl _)) _⟩
            · skip
              cases h3 : Em.within b 1 3
              · go_wp2_with (go_at_call 47; refine (HW.out _ _ _ _).mono ?_; rintro e w' ⟨rfl, rfl⟩)
                all_goals
                  go_ret
                  exact ⟨by simp_all [Em.valid] <;> rfl, F0.out.setCell (.inr (Nat.le_refl _)) _⟩
              · skip
                go_wp2_with (go_at_call 47; refine (HW.out _ _ _ _).mono ?_; rintro e w' ⟨rfl, rfl⟩)
                all_goals
                  go_ret
                  exact ⟨by simp_all [Em.valid] <;> rfl, F0.out.setCell (.inr (Nat.le_refl _)) _⟩
          · skip
            by_cases k6 : k = 6
            · subst k6
              cases hbs : Em.base ⟨6, t, c, lo, hi, b, o⟩
              · go_wp2_with (go_at_call 47; refine (HW.out _ _ _ _).mono ?_; rintro e w' ⟨rfl, rfl⟩)
                all_goals
                  go_ret
                  exact ⟨by simp_all [Em.valid] <;> rfl, F0.out.setCell (.inr (Nat.le_refl _)) _⟩
              · skip
                cases h3 : Em.within b 1 3
                · go_wp2_with (go_at_call 47; refine (HW.out _ _ _ _).mono ?_; rintro e w' ⟨rfl, rfl⟩)
                  all_goals
                    go_ret
                    exact ⟨by simp_all [Em.valid] <;> rfl, F0.out.setCell (.inr (Nat.le_refl _)) _⟩
                · skip
                  go_wp2_with (go_at_call 47; refine (HW.out _ _ _ _).mono ?_; rintro e w' ⟨rfl, rfl⟩)
                  all_goals
                    go_ret
                    exact ⟨by simp_all [Em.valid] <;> rfl, F0.out.setCell (.inr (Nat.le_refl _)) _⟩
            · skip
              by_cases k2 : k = 2
              · subst k2
                cases hbs : Em.base ⟨2, t, c, lo, hi, b, o⟩
                · go_wp2_with (go_at_call 47; refine (HW.out _ _ _ _).mono ?_; rintro e w' ⟨rfl, rfl⟩)
                  all_goals
                    go_ret
                    exact ⟨by simp_all [Em.valid] <;> rfl, F0.out⟩
                · skip
                  go_wp2_with (go_at_call 47; refine (HW.out _ _ _ _).mono ?_; rintro e w' ⟨rfl, rfl⟩)
                  all_goals
                    go_ret
                    exact ⟨by simp_all [Em.valid] <;> rfl, F0.out⟩
              · skip
                by_cases k3 : k = 3
                · subst k3
                  cases hbs : Em.base ⟨3, t, c, lo, hi, b, o⟩
                  · go_wp2_with (go_at_call 47; refine (HW.out _ _ _ _).mono ?_; rintro e w' ⟨rfl, rfl⟩)
                    all_goals
                      go_ret
                      exact ⟨by simp_all [Em.valid] <;> rfl, F0.out⟩
                  · skip
                    go_wp2_with (go_at_call 47; refine (HW.out _ _ _ _).mono ?_; rintro e w' ⟨rfl, rfl⟩)
                    all_goals
                      go_ret
                      exact ⟨by simp_all [Em.valid] <;> rfl, F0.out⟩
                · skip
                  have e1 : (k == 1) = false := by simp [k1]
                  have e2 : (k == 2) = false := by simp [k2]
                  have e3 : (k == 3) = false := by simp [k3]
                  have e4 : (k == 4) = false := by simp [k4]
                  have e5 : (k == 5) = false := by simp [k5]
                  have e6 : (k == 6) = false := by simp [k6]
                  have e7 : (k == 7) = false := by simp [k7]
                  go_wp2_with (go_at_call 47; refine (HW.out _ _ _ _).mono ?_; rintro e w' ⟨rfl, rfl⟩)
                  all_goals
                    go_ret
                    exact ⟨by simp_all [Em.valid] <;> rfl, F0.out⟩
end Go.Proofs.YtciaallekkdnhaaGreat
namespace Go.Proofs.YtciaallekkdnhaaGreat
open Go.RowKit

theorem pafter_no (c : Chg) (h : c.has = false) (w : World) : Calls Tryz.prog 50 #[c.val] w fun e w' =>
    e = .returned (.tuple #[rowVal 0 0 0 0 0, .bool false]) ∧ Fr [] w w' := by
  obtain ⟨t, k, had, o0, o1, o2, has, n0, n1, n2⟩ := c
  dsimp only at h
  subst h
  have F0 : Fr [] w ((w.alloc (.cells #[.int .i64 t, .int .i64 k, .bool had, .int .i64 o0, .int .i64 o1, .int .i64 o2, .bool false, .int .i64 n0, .int .i64 n1, .int .i64 n2] 59)).alloc (.cells #[.int .i64 0, .int .i64 0, .int .i64 0, .int .i64 0, .int .i64 0] 116)) := ((Fr.refl _ _).alloc _).alloc _
  have hB := Blk.new (w.alloc (.cells #[.int .i64 t, .int .i64 k, .bool had, .int .i64 o0, .int .i64 o1, .int .i64 o2, .bool false, .int .i64 n0, .int .i64 n1, .int .i64 n2] 59)) 116 #[.int .i64 0, .int .i64 0, .int .i64 0, .int .i64 0, .int .i64 0]
  rw [World.size_alloc] at hB
  have hh := half_no ⟨t, k, had, o0, o1, o2, false, n0, n1, n2⟩ n0 n1 n2
  unfold Chg.val rowVal at *
  go_enter Tryz.func50, Tryz.ntmps50
  go_wp2_with fail
  refine (hh _).mono ?_
  rintro e w1 ⟨rfl, f1⟩
  have F1 := F0.trans f1
  have hB1 := hB.fr f1 (by simp)
  have h0 := hB1.cell 0
  have h1 := hB1.cell 1
  have h2 := hB1.cell 2
  have h3 := hB1.cell 3
  have h4 := hB1.cell 4
  have z0 := hB1.frozen 0
  have z1 := hB1.frozen 1
  have z2 := hB1.frozen 2
  have z3 := hB1.frozen 3
  have z4 := hB1.frozen 4
  go_wp2_with fail
  refine bodyPost_ret (v := .tuple #[.agg #[.int .i64 0, .int .i64 0, .int .i64 0, .int .i64 0, .int .i64 0], .bool false]) (by simp [results, Tryz.results50, go_sem, h0, h1, h2, h3, h4]) rfl ⟨rfl, ?_⟩
  repeat first | exact F1 | refine Fr.setCell ?_ (.inr (by simp)) _
theorem pafter_yes (c : Chg) (h : c.has = true) (w : World) : Calls Tryz.prog 50 #[c.val] w fun e w' =>
    e = .returned (.tuple #[rowVal c.t c.k c.n0 c.n1 c.n2, .bool true]) ∧ Fr [] w w' := by
  obtain ⟨t, k, had, o0, o1, o2, has, n0, n1, n2⟩ := c
  dsimp only at h
  subst h
  have F0 : Fr [] w ((w.alloc (.cells #[.int .i64 t, .int .i64 k, .bool had, .int .i64 o0, .int .i64 o1, .int .i64 o2, .bool true, .int .i64 n0, .int .i64 n1, .int .i64 n2] 59)).alloc (.cells #[.int .i64 0, .int .i64 0, .int .i64 0, .int .i64 0, .int .i64 0] 116)) := ((Fr.refl _ _).alloc _).alloc _
  have hB := Blk.new (w.alloc (.cells #[.int .i64 t, .int .i64 k, .bool had, .int .i64 o0, .int .i64 o1, .int .i64 o2, .bool true, .int .i64 n0, .int .i64 n1, .int .i64 n2] 59)) 116 #[.int .i64 0, .int .i64 0, .int .i64 0, .int .i64 0, .int .i64 0]
  rw [World.size_alloc] at hB
  have hh := half_yes ⟨t, k, had, o0, o1, o2, true, n0, n1, n2⟩ n0 n1 n2
  unfold Chg.val rowVal at *
  go_enter Tryz.func50, Tryz.ntmps50
  go_wp2_with fail
  refine (hh _).mono ?_
  rintro e w1 ⟨rfl, f1⟩
  have F1 := F0.trans f1
  have hB1 := hB.fr f1 (by simp)
  have h0 := hB1.cell 0
  have h1 := hB1.cell 1
  have h2 := hB1.cell 2
  have h3 := hB1.cell 3
  have h4 := hB1.cell 4
  have z0 := hB1.frozen 0
  have z1 := hB1.frozen 1
  have z2 := hB1.frozen 2
  have z3 := hB1.frozen 3
  have z4 := hB1.frozen 4
  go_wp2_with fail
  refine bodyPost_ret (v := .tuple #[.agg #[.int .i64 t, .int .i64 k, .int .i64 n0, .int .i64 n1, .int .i64 n2], .bool true]) (by simp [results, Tryz.results50, go_sem, h0, h1, h2, h3, h4]) rfl ⟨rfl, ?_⟩
  repeat first | exact F1 | refine Fr.setCell ?_ (.inr (by simp)) _
theorem pbefore_no (c : Chg) (h : c.had = false) (w : World) : Calls Tryz.prog 89 #[c.val] w fun e w' =>
    e = .returned (.tuple #[rowVal 0 0 0 0 0, .bool false]) ∧ Fr [] w w' := by
  obtain ⟨t, k, had, o0, o1, o2, has, n0, n1, n2⟩ := c
  dsimp only at h
  subst h
  have F0 : Fr [] w ((w.alloc (.cells #[.int .i64 t, .int .i64 k, .bool false, .int .i64 o0, .int .i64 o1, .int .i64 o2, .bool has, .int .i64 n0, .int .i64 n1, .int .i64 n2] 59)).alloc (.cells #[.int .i64 0, .int .i64 0, .int .i64 0, .int .i64 0, .int .i64 0] 116)) := ((Fr.refl _ _).alloc _).alloc _
  have hB := Blk.new (w.alloc (.cells #[.int .i64 t, .int .i64 k, .bool false, .int .i64 o0, .int .i64 o1, .int .i64 o2, .bool has, .int .i64 n0, .int .i64 n1, .int .i64 n2] 59)) 116 #[.int .i64 0, .int .i64 0, .int .i64 0, .int .i64 0, .int .i64 0]
  rw [World.size_alloc] at hB
  have hh := half_no ⟨t, k, false, o0, o1, o2, has, n0, n1, n2⟩ o0 o1 o2
  unfold Chg.val rowVal at *
  go_enter Tryz.func89, Tryz.ntmps89
  go_wp2_with fail
  refine (hh _).mono ?_
  rintro e w1 ⟨rfl, f1⟩
  have F1 := F0.trans f1
  have hB1 := hB.fr f1 (by simp)
  have h0 := hB1.cell 0
  have h1 := hB1.cell 1
  have h2 := hB1.cell 2
  have h3 := hB1.cell 3
  have h4 := hB1.cell 4
  have z0 := hB1.frozen 0
  have z1 := hB1.frozen 1
  have z2 := hB1.frozen 2
  have z3 := hB1.frozen 3
  have z4 := hB1.frozen 4
  go_wp2_with fail
  refine bodyPost_ret (v := .tuple #[.agg #[.int .i64 0, .int .i64 0, .int .i64 0, .int .i64 0, .int .i64 0], .bool false]) (by simp [results, Tryz.results89, go_sem, h0, h1, h2, h3, h4]) rfl ⟨rfl, ?_⟩
  repeat first | exact F1 | refine Fr.setCell ?_ (.inr (by simp)) _
set_option maxRecDepth 100000 in
theorem pbefore_yes (c : Chg) (h : c.had = true) (w : World) : Calls Tryz.prog 89 #[c.val] w fun e w' =>
    e = .returned (.tuple #[rowVal c.t c.k c.o0 c.o1 c.o2, .bool true]) ∧ Fr [] w w' := by
  obtain ⟨t, k, had, o0, o1, o2, has, n0, n1, n2⟩ := c
  dsimp only at h
  subst h
  have F0 : Fr [] w ((w.alloc (.cells #[.int .i64 t, .int .i64 k, .bool true, .int .i64 o0, .int .i64 o1, .int .i64 o2, .bool has, .int .i64 n0, .int .i64 n1, .int .i64 n2] 59)).alloc (.cells #[.int .i64 0, .int .i64 0, .int .i64 0, .int .i64 0, .int .i64 0] 116)) := ((Fr.refl _ _).alloc _).alloc _
  have hB := Blk.new (w.alloc (.cells #[.int .i64 t, .int .i64 k, .bool true, .int .i64 o0, .int .i64 o1, .int .i64 o2, .bool has, .int .i64 n0, .int .i64 n1, .int .i64 n2] 59)) 116 #[.int .i64 0, .int .i64 0, .int .i64 0, .int .i64 0, .int .i64 0]
  rw [World.size_alloc] at hB
  have hh := half_yes ⟨t, k, true, o0, o1, o2, has, n0, n1, n2⟩ o0 o1 o2
  unfold Chg.val rowVal at *
  go_enter Tryz.func89, Tryz.ntmps89
  go_wp2_with fail
  refine (hh _).mono ?_
  rintro e w1 ⟨rfl, f1⟩
  have F1 := F0.trans f1
  have hB1 := hB.fr f1 (by simp)
  have h0 := hB1.cell 0
  have h1 := hB1.cell 1
  have h2 := hB1.cell 2
  have h3 := hB1.cell 3
  have h4 := hB1.cell 4
  have z0 := hB1.frozen 0
  have z1 := hB1.frozen 1
  have z2 := hB1.frozen 2
  have z3 := hB1.frozen 3
  have z4 := hB1.frozen 4
  go_wp2_with fail
  refine bodyPost_ret (v := .tuple #[.agg #[.int .i64 t, .int .i64 k, .int .i64 o0, .int .i64 o1, .int .i64 o2], .bool true]) (by simp [results, Tryz.results89, go_sem, h0, h1, h2, h3, h4]) rfl ⟨rfl, ?_⟩
  repeat first | exact F1 | refine Fr.setCell ?_ (.inr (by simp)) _
/-- The row before a change, and whether there is one. -/
theorem pbefore_any (c : Chg) (w : World) : Calls Tryz.prog 89 #[c.val] w fun e w' => ∃ r : RowV, e = .returned (.tuple #[r.val, .bool c.had]) ∧ Pm.bef c = (if c.had = true then some r else none) ∧ Fr [] w w' := by
  cases h : c.had with
  | true => exact (pbefore_yes c h w).mono fun _ _ hh => ⟨⟨c.t, c.k, c.o0, c.o1, c.o2⟩, hh.1, by simp [Pm.bef, h], hh.2⟩
  | false => exact (pbefore_no c h w).mono fun _ _ hh => ⟨⟨0, 0, 0, 0, 0⟩, hh.1, by simp [Pm.bef, h], hh.2⟩
/-- The row after a change, and whether there is one. -/
theorem pafter_any (c : Chg) (w : World) : Calls Tryz.prog 50 #[c.val] w fun e w' => ∃ r : RowV, e = .returned (.tuple #[r.val, .bool c.has]) ∧ Pm.aft c = (if c.has = true then some r else none) ∧ Fr [] w w' := by
  cases h : c.has with
  | true => exact (pafter_yes c h w).mono fun _ _ hh => ⟨⟨c.t, c.k, c.n0, c.n1, c.n2⟩, hh.1, by simp [Pm.aft, h], hh.2⟩
  | false => exact (pafter_no c h w).mono fun _ _ hh => ⟨⟨0, 0, 0, 0, 0⟩, hh.1, by simp [Pm.aft, h], hh.2⟩
end Go.Proofs.YtciaallekkdnhaaGreat
namespace Go.Proofs.YtciaallekkdnhaaGreat
open Go.RowKit

/-- The value of a column: the row is boxed. -/
theorem pval_any (r : RowV) (c : Int) (w : World) : Calls Tryz.prog 66 #[r.val, .int .i64 c] w fun e w' => e = .returned (.int .i64 (r.value c)) ∧ w' = w.alloc (.cells r.cells.toArray 116) := by
  obtain ⟨t, k, x, y, z⟩ := r
  unfold RowV.val
  dsimp only
  by_cases h0 : c = 0
  · subst h0
    go_enter Tryz.func66, Tryz.ntmps66
    go_wp2
    go_ret
    exact ⟨rfl, rfl⟩
  by_cases h1 : c = 1
  · subst h1
    go_enter Tryz.func66, Tryz.ntmps66
    go_wp2
    go_ret
    exact ⟨rfl, rfl⟩
  by_cases h2 : c = 2
  · subst h2
    go_enter Tryz.func66, Tryz.ntmps66
    go_wp2
    go_ret
    exact ⟨rfl, rfl⟩
  by_cases h3 : c = 3
  · subst h3
    go_enter Tryz.func66, Tryz.ntmps66
    go_wp2
    go_ret
    exact ⟨rfl, rfl⟩
  have HV : Hid (RowV.value ⟨t, k, x, y, z⟩ c = 0) := Lib.hid (by simp [RowV.value, h0, h1, h2, h3])
  have g0 : (c == 0) = false := by simpa using h0
  have g1 : (c == 1) = false := by simpa using h1
  have g2 : (c == 2) = false := by simpa using h2
  have g3 : (c == 3) = false := by simpa using h3
  clear h0 h1 h2 h3
  go_enter Tryz.func66, Tryz.ntmps66
  go_wp2
  go_ret
  exact ⟨by rw [HV.out]; rfl, rfl⟩
theorem pval5 (t k x y z c : Int) (w : World) : Calls Tryz.prog 66 #[.agg #[.int .i64 t, .int .i64 k, .int .i64 x, .int .i64 y, .int .i64 z], .int .i64 c] w fun e w' => e = .returned (.int .i64 (RowV.value ⟨t, k, x, y, z⟩ c)) ∧ w' = w.alloc (.cells #[.int .i64 t, .int .i64 k, .int .i64 x, .int .i64 y, .int .i64 z] 116) := pval_any ⟨t, k, x, y, z⟩ c w
end Go.Proofs.YtciaallekkdnhaaGreat
namespace Go.Proofs.YtciaallekkdnhaaGreat
open Go.RowKit

/-- A pointer to a row of one's own, or nil. -/
def PtrR (w : World) (p : Option Addr) : Option RowV → Prop
  | some r => ∃ g, p = some ⟨g, 0, none⟩ ∧ Blk w g 116 r.cells.toArray
  | none => p = none
theorem PtrR.fr0 {w w' : World} {p : Option Addr} {o : Option RowV} (h : PtrR w p o) (hf : Fr [] w w') : PtrR w' p o := by
  cases o with
  | none => exact h
  | some r =>
    obtain ⟨g, e, hb⟩ := h
    exact ⟨g, e, hb.fr hf (by simp)⟩
set_option maxRecDepth 100000 in
set_option maxHeartbeats 4000000 in
theorem scanned_any (q : Qry) (r : RowV) (ok : Bool) (gq : Nat) (w : World) (hq : QAt w gq q) :
    Calls Tryz.prog 88 #[r.val, .bool ok, .pointer (some ⟨gq, 0, none⟩)] w fun e w' => ∃ p, e = .returned (.tuple #[.pointer p, .int .i64 (Pm.me q (Pm.sc q (if ok = true then some r else none)))]) ∧ PtrR w' p (Pm.sc q (if ok = true then some r else none)) ∧ Fr [] w w' := by
  obtain ⟨k, t, c, lo, hi, b, o⟩ := q
  obtain ⟨rt, rk, rx, ry, rz⟩ := r
  have HV := Lib.hid pval5
  have F0 : Hid (Fr [] w (w.alloc (.cells #[.int .i64 rt, .int .i64 rk, .int .i64 rx, .int .i64 ry, .int .i64 rz] 116))) := Lib.hid ((Fr.refl _ _).alloc _)
  have HQ := Lib.hid (hq.fr F0.out (by simp))
  have HB : Hid (Blk (w.alloc (.cells #[.int .i64 rt, .int .i64 rk, .int .i64 rx, .int .i64 ry, .int .i64 rz] 116)) w.heap.size 116 #[.int .i64 rt, .int .i64 rk, .int .i64 rx, .int .i64 ry, .int .i64 rz]) := Lib.hid (Blk.new _ _ _)
  obtain ⟨v, HVV⟩ : ∃ v, Hid (RowV.value ⟨rt, rk, rx, ry, rz⟩ c = v) := ⟨_, Lib.hid rfl⟩
  obtain ⟨m, HM⟩ : ∃ m, Hid (RowV.value ⟨rt, rk, rx, ry, rz⟩ b = m) := ⟨_, Lib.hid rfl⟩
  obtain ⟨so, hso⟩ : ∃ so, Pm.sc ⟨k, t, c, lo, hi, b, o⟩ (if ok = true then some ⟨rt, rk, rx, ry, rz⟩ else none) = so := ⟨_, rfl⟩
  rw [hso]
  have HSC : Hid (so = if (ok && (decide (rt = t) && (decide (lo ≤ v) && decide (v ≤ hi)))) = true then some ⟨rt, rk, rx, ry, rz⟩ else none) := Lib.hid (by
    rw [← HVV.out, ← hso]
    cases ok <;> simp [Pm.sc, Pm.inq, Option.filter])
  clear hso
  go_enter Tryz.func88, Tryz.ntmps88
  go_upto_region 1 with (fail)
  generalize w.alloc (.cells #[.int .i64 rt, .int .i64 rk, .int .i64 rx, .int .i64 ry, .int .i64 rz] 116) = w1 at *
  have b0 := HB.out.cell 0
  have b1 := HB.out.cell 1
  have b2 := HB.out.cell 2
  have b3 := HB.out.cell 3
  have b4 := HB.out.cell 4
  have c2 := HQ.out.c2
  dsimp only at c2
  go_upto_region 2 with (go_at_call 66; refine (HV.out _ _ _ _ _ _ _).mono ?_; rintro e w' ⟨rfl, rfl⟩; rw [HVV.out])
  have F1 : Hid (Fr [] w1 (w1.alloc (.cells #[.int .i64 rt, .int .i64 rk, .int .i64 rx, .int .i64 ry, .int .i64 rz] 116))) := Lib.hid ((Fr.refl _ _).alloc _)
  have HB1 := Lib.hid (HB.out.fr F1.out (by simp))
  have HQ1 := Lib.hid (HQ.out.fr F1.out (by simp))
  have F01 := Lib.hid (F0.out.trans F1.out)
  clear b0 b1 b2 b3 b4 c2 HB HQ F0 F1
  generalize w1.alloc (.cells #[.int .i64 rt, .int .i64 rk, .int .i64 rx, .int .i64 ry, .int .i64 rz] 116) = w2 at *
  have b0 := HB1.out.cell 0
  have b1 := HB1.out.cell 1
  have b2 := HB1.out.cell 2
  have b3 := HB1.out.cell 3
  have b4 := HB1.out.cell 4
  have c1 := HQ1.out.c1
  have c3 := HQ1.out.c3
  have c4 := HQ1.out.c4
  have c5 := HQ1.out.c5
  dsimp only at c1 c3 c4 c5
  by_cases hn : (ok && (decide (rt = t) && (decide (lo ≤ v) && decide (v ≤ hi)))) = true
  · have E : Hid (so = some ⟨rt, rk, rx, ry, rz⟩) := Lib.hid (by rw [HSC.out, if_pos hn])
    simp only [Bool.and_eq_true, decide_eq_true_eq] at hn
    obtain ⟨rfl, rfl, h3, h4⟩ := hn
    have h3' : ¬ v < lo := by omega
    have h4' : ¬ hi < v := by omega
    go_wp2_with (go_at_call 66; refine (HV.out _ _ _ _ _ _ _).mono ?_; rintro e w' ⟨rfl, rfl⟩; rw [HM.out])
    refine bodyPost_ret (v := .tuple #[.pointer (some ⟨w.heap.size, 0, none⟩), .int .i64 m]) (by simp [results, Tryz.results88, go_sem]) rfl ⟨some ⟨w.heap.size, 0, none⟩, ?_, ?_, F01.out.alloc _⟩
    · rw [E.out]
      simp only [Pm.me, HM.out]
    · rw [E.out]
      exact ⟨_, rfl, HB1.out.alloc _⟩
  · have E : Hid (so = none) := Lib.hid (by rw [HSC.out, if_neg hn])
    cases ok with
    | false =>
      go_wp2_with fail
      exact bodyPost_ret (v := .tuple #[.pointer none, .int .i64 0]) (by simp [results, Tryz.results88, go_sem]) rfl ⟨none, by rw [E.out]; rfl, by rw [E.out]; rfl, F01.out⟩
    | true =>
      by_cases h1 : rt = t
      · by_cases h3 : v < lo
        · go_wp2_with fail
          exact bodyPost_ret (v := .tuple #[.pointer none, .int .i64 0]) (by simp [results, Tryz.results88, go_sem]) rfl ⟨none, by rw [E.out]; rfl, by rw [E.out]; rfl, F01.out⟩
        · have h4 : hi < v := by
            simp [h1] at hn
            omega
          go_wp2_with fail
          exact bodyPost_ret (v := .tuple #[.pointer none, .int .i64 0]) (by simp [results, Tryz.results88, go_sem]) rfl ⟨none, by rw [E.out]; rfl, by rw [E.out]; rfl, F01.out⟩
      · go_wp2_with fail
        exact bodyPost_ret (v := .tuple #[.pointer none, .int .i64 0]) (by simp [results, Tryz.results88, go_sem]) rfl ⟨none, by rw [E.out]; rfl, by rw [E.out]; rfl, F01.out⟩
end Go.Proofs.YtciaallekkdnhaaGreat
