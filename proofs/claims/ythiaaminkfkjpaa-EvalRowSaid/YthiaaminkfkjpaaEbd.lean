/-
  eval.From.
-/
import Derived.Test.YthiaaminkfkjpaaEao
import Derived.Deep.DeepCutAuto
import Derived.Test.YthiaaminkfkjpaaEbc
import Derived.Test.YthiaaminkfkjpaaEaz
import Derived.OwnWalk
import Derived.WalkSpells
import Derived.Deep.RegionLaw
import Derived.Deep.RegionHeld3
import Derived.IntWalk
namespace Go.Proofs.Ythiaaminkfkjpaa

/-- A query. -/
structure Qry where
  kind : Int
  table : Int
  column : Int
  low : Int
  high : Int
  by_ : Int
  other : Int
  deriving DecidableEq
@[reducible] def Qry.val (q : Qry) : Value := .agg #[.int .i64 q.kind, .int .i64 q.table, .int .i64 q.column, .int .i64 q.low, .int .i64 q.high, .int .i64 q.by_, .int .i64 q.other]
/-- A result. -/
structure Res where
  rows : List RowV
  value : Int
  found : Bool
  deriving DecidableEq
namespace Em

def within (n a b : Int) : Bool := decide (a ≤ n) && decide (n ≤ b)
def base (q : Qry) : Bool := within q.table 0 3 && (within q.column 0 3 && (within q.low (-1000000000) q.high && decide (q.high ≤ 1000000000)))
def valid (q : Qry) : Bool :=
  if q.kind = 1 then base q && (decide (q.column = 0) && (decide (q.low = q.high) && (within q.low 1 1000000 && (decide (q.by_ = 0) && decide (q.other = 0)))))
  else if q.kind = 7 then base q && (within q.other 0 3 && within q.by_ 1 3)
  else if q.kind = 4 ∨ q.kind = 5 ∨ q.kind = 6 then base q && (within q.by_ 1 3 && decide (q.other = 0))
  else if q.kind = 2 ∨ q.kind = 3 then base q && (decide (q.by_ = 0) && decide (q.other = 0))
  else false
def zero : Res := ⟨[], 0, false⟩
def meas (q : Qry) (l : List RowV) : List Int := l.map (·.value q.by_)
def count (r : Res) (_ : RowV) : Res := ⟨r.rows, r.value + 1, r.found⟩
def plus (r : Res) (n : Int) : Res := ⟨r.rows, r.value + n, r.found⟩
def least (r : Res) (n : Int) : Res := ⟨r.rows, if r.found = false ∨ n < r.value then n else r.value, true⟩
def most (r : Res) (n : Int) : Res := ⟨r.rows, if r.found = false ∨ r.value < n then n else r.value, true⟩
def partner (others : List RowV) (t k : Int) : Option RowV := others.find? (fun x => decide (x.t = t) && decide (x.k = k))
def pair (q : Qry) (others : List RowV) (r : RowV) : List RowV := match partner others q.other (r.value q.by_) with
  | some x => [r, x]
  | none => []
def joined (q : Qry) (rows others : List RowV) : List RowV := rows.flatMap (pair q others)
def res (q : Qry) (rows others : List RowV) : Res :=
  if valid q = true then
    if q.kind = 3 then rows.foldl count zero
    else if q.kind = 4 then (meas q rows).foldl plus zero
    else if q.kind = 5 then (meas q rows).foldl least zero
    else if q.kind = 6 then (meas q rows).foldl most zero
    else if q.kind = 7 then ⟨joined q rows others, 0, false⟩
    else ⟨rows, 0, false⟩
  else zero
end Em
end Go.Proofs.Ythiaaminkfkjpaa
namespace Go.Proofs.Ythiaaminkfkjpaa
open Go.RowKit

theorem qwithin_any (n a b : Int) (w : World) : Calls Try.prog 30 #[.int .i64 n, .int .i64 a, .int .i64 b] w fun e w' => e = .returned (.bool (Em.within n a b)) ∧ w = w' := by
  go_enter Try.func30, Try.ntmps30
  by_cases h1 : a ≤ n
  · by_cases h2 : n ≤ b
    · go_wp2
      go_ret
      simp [Em.within, h1, h2]
    · go_wp2
      go_ret
      simp [Em.within, h1, h2]
  · have e : Em.within n a b = false := by simp [Em.within, h1]
    have E := Lib.hid e
    clear e
    go_wp2
    go_ret
    rw [E.out]
    exact ⟨rfl, rfl⟩
/-- A query in memory. -/
def QAt (w : World) (g : Nat) (q : Qry) : Prop := Blk w g 29 #[.int .i64 q.kind, .int .i64 q.table, .int .i64 q.column, .int .i64 q.low, .int .i64 q.high, .int .i64 q.by_, .int .i64 q.other]
theorem QAt.c0 {w : World} {g : Nat} {q : Qry} (h : QAt w g q) : w.cell? ⟨g, 0, none⟩ = some (.int .i64 q.kind) := Blk.cell h 0
theorem QAt.c1 {w : World} {g : Nat} {q : Qry} (h : QAt w g q) : w.cell? ⟨g, 1, none⟩ = some (.int .i64 q.table) := Blk.cell h 1
theorem QAt.c2 {w : World} {g : Nat} {q : Qry} (h : QAt w g q) : w.cell? ⟨g, 2, none⟩ = some (.int .i64 q.column) := Blk.cell h 2
theorem QAt.c3 {w : World} {g : Nat} {q : Qry} (h : QAt w g q) : w.cell? ⟨g, 3, none⟩ = some (.int .i64 q.low) := Blk.cell h 3
theorem QAt.c4 {w : World} {g : Nat} {q : Qry} (h : QAt w g q) : w.cell? ⟨g, 4, none⟩ = some (.int .i64 q.high) := Blk.cell h 4
theorem QAt.c5 {w : World} {g : Nat} {q : Qry} (h : QAt w g q) : w.cell? ⟨g, 5, none⟩ = some (.int .i64 q.by_) := Blk.cell h 5
theorem QAt.c6 {w : World} {g : Nat} {q : Qry} (h : QAt w g q) : w.cell? ⟨g, 6, none⟩ = some (.int .i64 q.other) := Blk.cell h 6
theorem QAt.new (w : World) (q : Qry) : QAt (w.alloc (.cells #[.int .i64 q.kind, .int .i64 q.table, .int .i64 q.column, .int .i64 q.low, .int .i64 q.high, .int .i64 q.by_, .int .i64 q.other] 29)) w.heap.size q := Blk.new _ _ _
theorem QAt.fr {w w' : World} {g : Nat} {q : Qry} {S : List Nat} (h : QAt w g q) (hf : Fr S w w') (hg : g ∉ S) : QAt w' g q := Blk.fr h hf hg
set_option maxRecDepth 100000 in
set_option maxHeartbeats 4000000 in
theorem qvalid_any (q : Qry) (w : World) : Calls Try.prog 20 #[q.val] w fun e w' => e = .returned (.bool (Em.valid q)) ∧ Fr [] w w' := by
  have F0 : Hid (Fr [] w (w.alloc (.cells #[.int .i64 q.kind, .int .i64 q.table, .int .i64 q.column, .int .i64 q.low, .int .i64 q.high, .int .i64 q.by_, .int .i64 q.other] 29))) := Lib.hid ((Fr.refl _ _).alloc _)
  have HB := Lib.hid (QAt.new w q)
  have HW := Lib.hid qwithin_any
  obtain ⟨k, t, c, lo, hi, b, o⟩ := q
  unfold Qry.val
  dsimp only at *
  have c0 := HB.out.c0
  have c1 := HB.out.c1
  have c2 := HB.out.c2
  have c3 := HB.out.c3
  have c4 := HB.out.c4
  have c5 := HB.out.c5
  have c6 := HB.out.c6
  dsimp only at c0 c1 c2 c3 c4 c5 c6
  go_enter Try.func20, Try.ntmps20
  go_upto_region 1 with (fail)
  generalize w.alloc (.cells #[.int .i64 k, .int .i64 t, .int .i64 c, .int .i64 lo, .int .i64 hi, .int .i64 b, .int .i64 o] 29) = w1 at *
  go_cut [3] (fun v wc => w1 = wc ∧ v = .bool (Em.base ⟨k, t, c, lo, hi, b, o⟩))
  case first =>
    cases h1 : Em.within t 0 3
    · have E : Hid (Em.base ⟨k, t, c, lo, hi, b, o⟩ = false) := Lib.hid (by simp [Em.base, h1])
      go_wp2_with (go_at_call 30; refine (HW.out _ _ _ _).mono ?_; rintro e w' ⟨rfl, rfl⟩)
      go_meet
      case rel => exact ⟨rfl, by rw [E.out]⟩
    · cases h2 : Em.within c 0 3
      · have E : Hid (Em.base ⟨k, t, c, lo, hi, b, o⟩ = false) := Lib.hid (by simp [Em.base, h2])
        go_wp2_with (go_at_call 30; refine (HW.out _ _ _ _).mono ?_; rintro e w' ⟨rfl, rfl⟩)
        go_meet
        case rel => exact ⟨rfl, by rw [E.out]⟩
      · cases h3 : Em.within lo (-1000000000) hi
        · have E : Hid (Em.base ⟨k, t, c, lo, hi, b, o⟩ = false) := Lib.hid (by simp [Em.base, h3])
          go_wp2_with (go_at_call 30; refine (HW.out _ _ _ _).mono ?_; rintro e w' ⟨rfl, rfl⟩)
          go_meet
          case rel => exact ⟨rfl, by rw [E.out]⟩
        · have E : Hid (Em.base ⟨k, t, c, lo, hi, b, o⟩ = decide (hi ≤ 1000000000)) := Lib.hid (by simp [Em.base, h1, h2, h3])
          go_wp2_with (go_at_call 30; refine (HW.out _ _ _ _).mono ?_; rintro e w' ⟨rfl, rfl⟩)
          go_meet
          case rel => exact ⟨rfl, by rw [E.out]⟩
  case rest =>
    obtain ⟨rfl, rfl⟩ := hcut
    have z5 := Blk.frozen HB.out 5
    have z6 := Blk.frozen HB.out 6
    by_cases k1 : k = 1
    · subst k1
      cases hbs : Em.base ⟨1, t, c, lo, hi, b, o⟩
      · go_wp2_with (go_at_call 30; refine (HW.out _ _ _ _).mono ?_; rintro e w' ⟨rfl, rfl⟩)
        all_goals
          go_ret
          exact ⟨by simp_all [Em.valid] <;> rfl, F0.out⟩
      · skip
        cases h1 : Em.within lo 1 1000000
        · go_wp2_with (go_at_call 30; refine (HW.out _ _ _ _).mono ?_; rintro e w' ⟨rfl, rfl⟩)
          all_goals
            go_ret
            exact ⟨by simp_all [Em.valid] <;> rfl, F0.out⟩
        · skip
          go_wp2_with (go_at_call 30; refine (HW.out _ _ _ _).mono ?_; rintro e w' ⟨rfl, rfl⟩)
          all_goals
            go_ret
            exact ⟨by simp_all [Em.valid] <;> rfl, F0.out⟩
    · skip
      by_cases k7 : k = 7
      · subst k7
        cases hbs : Em.base ⟨7, t, c, lo, hi, b, o⟩
        · go_wp2_with (go_at_call 30; refine (HW.out _ _ _ _).mono ?_; rintro e w' ⟨rfl, rfl⟩)
          all_goals
            go_ret
            exact ⟨by simp_all [Em.valid] <;> rfl, (F0.out.setCell (.inr (Nat.le_refl _)) _).setCell (.inr (Nat.le_refl _)) _⟩
        · skip
          cases h2 : Em.within o 0 3
          · go_wp2_with (go_at_call 30; refine (HW.out _ _ _ _).mono ?_; rintro e w' ⟨rfl, rfl⟩)
            all_goals
              go_ret
              exact ⟨by simp_all [Em.valid] <;> rfl, (F0.out.setCell (.inr (Nat.le_refl _)) _).setCell (.inr (Nat.le_refl _)) _⟩
          · skip
            cases h3 : Em.within b 1 3
            · go_wp2_with (go_at_call 30; refine (HW.out _ _ _ _).mono ?_; rintro e w' ⟨rfl, rfl⟩)
              all_goals
                go_ret
                exact ⟨by simp_all [Em.valid] <;> rfl, (F0.out.setCell (.inr (Nat.le_refl _)) _).setCell (.inr (Nat.le_refl _)) _⟩
            · skip
              go_wp2_with (go_at_call 30; refine (HW.out _ _ _ _).mono ?_; rintro e w' ⟨rfl, rfl⟩)
              all_goals
                go_ret
                exact ⟨by simp_all [Em.valid] <;> rfl, (F0.out.setCell (.inr (Nat.le_refl _)) _).setCell (.inr (Nat.le_refl _)) _⟩
      · skip
        by_cases k4 : k = 4
        · subst k4
          cases hbs : Em.base ⟨4, t, c, lo, hi, b, o⟩
          · go_wp2_with (go_at_call 30; refine (HW.out _ _ _ _).mono ?_; rintro e w' ⟨rfl, rfl⟩)
            all_goals
              go_ret
              exact ⟨by simp_all [Em.valid] <;> rfl, F0.out.setCell (.inr (Nat.le_refl _)) _⟩
          · skip
            cases h3 : Em.within b 1 3
            · go_wp2_with (go_at_call 30; refine (HW.out _ _ _ _).mono ?_; rintro e w' ⟨rfl, rfl⟩)
              all_goals
                go_ret
                exact ⟨by simp_all [Em.valid] <;> rfl, F0.out.setCell (.inr (Nat.le_refl _)) _⟩
            · skip
              go_wp2_with (go_at_call 30; refine (HW.out _ _ _ _).mono ?_; rintro e w' ⟨rfl, rfl⟩)
              all_goals
                go_ret
                exact ⟨by simp_all [Em.valid] <;> rfl, F0.out.setCell (.inr (Nat.le_refl _)) _⟩
        · skip
          by_cases k5 : k = 5
          · subst k5
            cases hbs : Em.base ⟨5, t, c, lo, hi, b, o⟩
            · go_wp2_with (go_at_call 30; refine (HW.out _ _ _ _).mono ?_; rintro e w' ⟨rfl, rfl⟩)
              all_goals
                go_ret
                exact ⟨by simp_all [Em.valid] <;> rfl, F0.out.setCell (.inr (Nat.le_refl _)) _⟩
            · skip
              cases h3 : Em.within b 1 3
              · go_wp2_with (go_at_call 30; refine (HW.out _ _ _ _).mono ?_; rintro e w' ⟨rfl, rfl⟩)
                all_goals
                  go_ret
                  exact ⟨by simp_all [Em.valid] <;> rfl, F0.out.setCell (.inr (Nat.le_refl _)) _⟩
              · skip
                go_wp2_with (go_at_call 30; refine (HW.out _ _ _ _).mono ?_; rintro e w' ⟨rfl, rfl⟩)
                all_goals
                  go_ret
                  exact ⟨by simp_all [Em.valid] <;> rfl, F0.out.setCell (.inr (Nat.le_refl _)) _⟩
          · skip
            by_cases k6 : k = 6
            · subst k6
              cases hbs : Em.base ⟨6, t, c, lo, hi, b, o⟩
              · go_wp2_with (go_at_call 30; refine (HW.out _ _ _ _).mono ?_; rintro e w' ⟨rfl, rfl⟩)
                all_goals
                  go_ret
                  exact ⟨by simp_all [Em.valid] <;> rfl, F0.out.setCell (.inr (Nat.le_refl _)) _⟩
              · skip
                cases h3 : Em.within b 1 3
                · go_wp2_with (go_at_call 30; refine (HW.out _ _ _ _).mono ?_; rintro e w' ⟨rfl, rfl⟩)
                  all_goals
                    go_ret
                    exact ⟨by simp_all [Em.valid] <;> rfl, F0.out.setCell (.inr (Nat.le_refl _)) _⟩
                · skip
                  go_wp2_with (go_at_call 30; refine (HW.out _ _ _ _).mono ?_; rintro e w' ⟨rfl, rfl⟩)
                  all_goals
                    go_ret
                    exact ⟨by simp_all [Em.valid] <;> rfl, F0.out.setCell (.inr (Nat.le_refl _)) _⟩
            · skip
              by_cases k2 : k = 2
              · subst k2
                cases hbs : Em.base ⟨2, t, c, lo, hi, b, o⟩
                · go_wp2_with (go_at_call 30; refine (HW.out _ _ _ _).mono ?_; rintro e w' ⟨rfl, rfl⟩)
                  all_goals
                    go_ret
                    exact ⟨by simp_all [Em.valid] <;> rfl, F0.out⟩
                · skip
                  go_wp2_with (go_at_call 30; refine (HW.out _ _ _ _).mono ?_; rintro e w' ⟨rfl, rfl⟩)
                  all_goals
                    go_ret
                    exact ⟨by simp_all [Em.valid] <;> rfl, F0.out⟩
              · skip
                by_cases k3 : k = 3
                · subst k3
                  cases hbs : Em.base ⟨3, t, c, lo, hi, b, o⟩
                  · go_wp2_with (go_at_call 30; refine (HW.out _ _ _ _).mono ?_; rintro e w' ⟨rfl, rfl⟩)
                    all_goals
                      go_ret
                      exact ⟨by simp_all [Em.valid] <;> rfl, F0.out⟩
                  · skip
                    go_wp2_with (go_at_call 30; refine (HW.out _ _ _ _).mono ?_; rintro e w' ⟨rfl, rfl⟩)
                    all_goals
                      go_ret
                      exact ⟨by simp_all [Em.valid] <;> rfl, F0.out⟩
                · skip
                  have e1 : (k == 1) = false := by simp [k1]
                  have e2 : (k == 2) = false := by simp [k2]
                  have e3 : (k == 3) = false := by simp [k3]
                  have e4 : (k == 4) = false := by simp [k4]
                  have e5 : (k == 5) = false := by simp [k5]
                  have e6 : (k == 6) = false := by simp [k6]
                  have e7 : (k == 7) = false := by simp [k7]
                  go_wp2_with (go_at_call 30; refine (HW.out _ _ _ _).mono ?_; rintro e w' ⟨rfl, rfl⟩)
                  all_goals
                    go_ret
                    exact ⟨by simp_all [Em.valid] <;> rfl, F0.out⟩
end Go.Proofs.Ythiaaminkfkjpaa
namespace Go.Proofs.Ythiaaminkfkjpaa
open Go.RowKit

theorem Em.valid_base {q : Qry} (h : Em.base q = false) : Em.valid q = false := by
  unfold Em.valid
  rw [h]
  simp
end Go.Proofs.Ythiaaminkfkjpaa
namespace Go.Proofs.Ythiaaminkfkjpaa
open Go.RowKit

def encI (x : Int) : List Value := [.int .i64 x]
theorem encI_len (x : Int) : (encI x).length = 1 := rfl
theorem encI_one (x : Int) : ∀ u ∈ encI x, u.oneCell' = true := by
  intro u hu
  simp only [encI, List.mem_singleton] at hu
  subst hu
  rfl
theorem etI : ∃ i z, ET Try.prog 79 3 1 8 i z := by
  have h : (Try.prog.info? 3).map (fun i => (i.zero, i.size, i.bytes)) = some (some (.int .i64 0), 1, 8) := by kernel_rfl
  obtain ⟨i0, hi, hz0, hz1, hz2⟩ := info_parts h
  exact ⟨i0, _, Try.underlying79, hi, hz0, hz1, hz2, rfl, by decide⟩
/-- Integers at an address. -/
def IntRow (w : World) (A : Option Addr) (xs : List Int) : Prop := 0 < xs.length → ∃ b off, A = some ⟨b, off, none⟩ ∧ b < w.heap.size ∧ ∀ k (h : k < xs.length), w.cell? ⟨b, off + k, none⟩ = some (.int .i64 xs[k])
theorem IntRow.fr0 {w w' : World} {A : Option Addr} {xs : List Int} (h : IntRow w A xs) (hf : Fr [] w w') : IntRow w' A xs := by
  intro h0
  obtain ⟨b, off, e, hb, hc⟩ := h h0
  exact ⟨b, off, e, Nat.lt_of_lt_of_le hb hf.size, fun k hk => by rw [hf.cell (p := ⟨b, off + k, none⟩) hb (by simp)]; exact hc k hk⟩
theorem IntRow.of_own {w : World} {A : Option Addr} {n cap : Nat} {xs : List Int} (h : OwnL 3 1 encI w (.slice A n cap) xs) : IntRow w A xs ∧ n = xs.length := by
  obtain ⟨h1, h2⟩ := h.at1 encI_len
  refine ⟨fun h0 => ?_, h2⟩
  obtain ⟨b, off, e, hb, hc⟩ := h1 h0
  refine ⟨b, off, e, hb, fun k hk => ?_⟩
  have h3 := hc k hk 0 (by decide)
  rw [Nat.mul_one, Nat.add_zero] at h3
  exact h3
/-- What a fold does to a number and a flag. -/
def foldS {X : Type} (g : Int → Bool → X → Int × Bool) (l : List X) (s : Int × Bool) : Int × Bool := l.foldl (fun s x => g s.1 s.2 x) s
theorem foldS_take {X : Type} (g : Int → Bool → X → Int × Bool) (l : List X) (s : Int × Bool) {k : Nat} (hk : k < l.length) {n : Int} {f : Bool} (h : foldS g (l.take k) s = (n, f)) : foldS g (l.take (k + 1)) s = g n f l[k] := by
  unfold foldS at *
  rw [List.take_succ_eq_append_getElem hk, List.foldl_append, h]
  rfl
/-- Between two rounds. -/
structure FoRel (w wr : World) (v : Value) (n : Int) (f : Bool) : Prop where
  box : Blk wr w.heap.size 46 #[v, .int .i64 n, .bool f]
  res : Blk wr (w.heap.size + 1) 46 #[.slice none 0 0, .int .i64 0, .bool false]
  fr : Fr [] w wr
theorem FoRel.new (w : World) (v : Value) (n : Int) (f : Bool) : FoRel w ((w.alloc (.cells #[v, .int .i64 n, .bool f] 46)).alloc (.cells #[.slice none 0 0, .int .i64 0, .bool false] 46)) v n f := by
  refine ⟨(Blk.new w _ _).alloc _, ?_, ((Fr.refl _ _).alloc _).alloc _⟩
  have h := Blk.new (w.alloc (.cells #[v, .int .i64 n, .bool f] 46)) 46 #[.slice none 0 0, .int .i64 0, .bool false]
  rw [World.size_alloc] at h
  exact h
theorem FoRel.fr0 {w wr w' : World} {v : Value} {n : Int} {f : Bool} (h : FoRel w wr v n f) (hf : Fr [] wr w') : FoRel w w' v n f := ⟨h.box.fr hf (by simp), h.res.fr hf (by simp), h.fr.trans hf⟩
theorem FoRel.put {w w2 : World} {v : Value} {n : Int} {f : Bool} (h : FoRel w w2 v n f) (n2 : Int) (f2 : Bool) :
    FoRel w (((w2.setCell ⟨w.heap.size, 0, none⟩ v).setCell ⟨w.heap.size, 1, none⟩ (.int .i64 n2)).setCell ⟨w.heap.size, 2, none⟩ (.bool f2)) v n2 f2 := by
  have hf : Fr [w.heap.size] w2 (((w2.setCell ⟨w.heap.size, 0, none⟩ v).setCell ⟨w.heap.size, 1, none⟩ (.int .i64 n2)).setCell ⟨w.heap.size, 2, none⟩ (.bool f2)) := (((Fr.refl _ _).setCell (.inl (by simp)) _).setCell (.inl (by simp)) _).setCell (.inl (by simp)) _
  exact ⟨((h.box.set_ 0 _).set_ 1 _).set_ 2 _, h.res.fr hf (by simp), h.fr.trans' hf (fun x hx => .inr (by simp only [List.mem_singleton] at hx; omega))⟩
theorem FoRel.fin {w w2 : World} {v : Value} {n : Int} {f : Bool} (h : FoRel w w2 v n f) (v2 : Value) (n2 : Int) (f2 : Bool) :
    ∃ w3, ((w2.setCell ⟨w.heap.size + 1, 0, none⟩ v2).setCell ⟨w.heap.size + 1, 1, none⟩ (.int .i64 n2)).setCell ⟨w.heap.size + 1, 2, none⟩ (.bool f2) = w3 ∧
      w3.cell? ⟨w.heap.size + 1, 0, none⟩ = some v2 ∧ w3.cell? ⟨w.heap.size + 1, 1, none⟩ = some (.int .i64 n2) ∧ w3.cell? ⟨w.heap.size + 1, 2, none⟩ = some (.bool f2) ∧ Fr [] w w3 := by
  have hq := ((h.res.set_ 0 v2).set_ 1 (.int .i64 n2)).set_ 2 (.bool f2)
  exact ⟨_, rfl, hq.cell 0, hq.cell 1, hq.cell 2, ((h.fr.setCell (.inr (Nat.le_succ _)) _).setCell (.inr (Nat.le_succ _)) _).setCell (.inr (Nat.le_succ _)) _⟩
set_option maxRecDepth 100000 in
set_option maxHeartbeats 4000000 in
theorem foldI_any (fn : Nat) (cb : Array Value) (g : Int → Bool → Int → Int × Bool) (A : Option Addr) (n cap : Nat) (xs : List Int) (B : Option Addr) (nb cb' : Nat) (m : Int) (f : Bool) (w : World) (hx : IntRow w A xs) (hn : n = xs.length) (hn63 : n ≤ 4000)
    (eg : ∀ args w, (callFunc fn args).run Try.prog w = .ok (.enter fn args) w)
    (hg : ∀ (W : World) (x m : Int) (f : Bool), Fr [] w W → Calls Try.prog fn (#[.agg #[.slice B nb cb', .int .i64 m, .bool f], .int .i64 x] ++ cb) W fun e w' => e = .returned (.agg #[.slice B nb cb', .int .i64 (g m f x).1, .bool (g m f x).2]) ∧ Fr [] W w') :
    Calls Try.prog 33 #[.slice A n cap, .agg #[.slice B nb cb', .int .i64 m, .bool f], .func (.func fn) #[] cb] w fun e w' => e = .returned (.agg #[.slice B nb cb', .int .i64 (foldS g xs (m, f)).1, .bool (foldS g xs (m, f)).2]) ∧ Fr [] w w' := by
  have HG := Lib.hid hg
  have HX := Lib.hid hx
  have HN := Lib.hid hn
  have R0 := Lib.hid (FoRel.new w (.slice B nb cb') m f)
  clear hg hx hn
  go_enter Try.func33, Try.ntmps33
  go_wp2_with fail
  go_loopw [11] (fun i wr => ∃ (k : Nat) (n1 : Int) (f1 : Bool), k ≤ n ∧ i = .int .i64 k ∧ Hid (FoRel w wr (.slice B nb cb') n1 f1) ∧ Hid (foldS g (xs.take k) (m, f) = (n1, f1))) (fun i _ => n - (intOf i).toNat)
  case atStart => exact ⟨0, m, f, Nat.zero_le _, rfl, R0, Lib.hid rfl⟩
  case round =>
    clear R0
    obtain ⟨k, n1, f1, hk, rfl, R, HS⟩ := hrel
    have b0 : wr.cell? ⟨w.heap.size, 0, none⟩ = some (.slice B nb cb') := R.out.box.cell 0
    have b1 : wr.cell? ⟨w.heap.size, 1, none⟩ = some (.int .i64 n1) := R.out.box.cell 1
    have b2 : wr.cell? ⟨w.heap.size, 2, none⟩ = some (.bool f1) := R.out.box.cell 2
    by_cases hlt : k < n
    · obtain ⟨b, off, rfl, hb, hc⟩ := (HX.out.fr0 R.out.fr) (by rw [← HN.out]; omega)
      have hkx : k < xs.length := by rw [← HN.out]; exact hlt
      have c0 := hc k hkx
      have HS' := Lib.hid (foldS_take g xs (m, f) hkx HS.out)
      generalize xs[k] = x at c0 HS'
      clear hb hc
      have HC := Lib.hid (HG.out wr x n1 f1 R.out.fr)
      obtain ⟨n2, f2, hnf⟩ : ∃ n2 f2, g n1 f1 x = (n2, f2) := ⟨_, _, rfl⟩
      rw [hnf] at HC HS'
      dsimp only at HC
      clear hnf
      go_wp2_with (go_at_fn fn; refine HC.out.mono ?_; rintro e w2 ⟨rfl, hf2⟩; have R2 := Lib.hid (R.out.fr0 hf2); have z0 := R2.out.box.frozen 0; have z1 := R2.out.box.frozen 1; have z2 := R2.out.box.frozen 2; have y0 : w2.cell? ⟨w.heap.size, 0, none⟩ = some (.slice B nb cb') := R2.out.box.cell 0; have y1 : w2.cell? ⟨w.heap.size, 1, none⟩ = some (.int .i64 n1) := R2.out.box.cell 1; have y2 : w2.cell? ⟨w.heap.size, 2, none⟩ = some (.bool f1) := R2.out.box.cell 2; clear hf2)
      go_roundw
      case rel => exact ⟨k + 1, n2, f2, by omega, by go_num, Lib.hid (R2.out.put n2 f2), HS'⟩
      case measure => simp [intOf]; omega
    · obtain rfl : k = n := by omega
      have hres : foldS g xs (m, f) = (n1, f1) := by
        have h := HS.out
        rwa [HN.out, List.take_length] at h
      have HRS := Lib.hid hres
      have z0 := R.out.res.frozen 0
      have z1 := R.out.res.frozen 1
      have z2 := R.out.res.frozen 2
      have r0 : wr.cell? ⟨w.heap.size + 1, 0, none⟩ = some (.slice none 0 0) := R.out.res.cell 0
      have r1 : wr.cell? ⟨w.heap.size + 1, 1, none⟩ = some (.int .i64 0) := R.out.res.cell 1
      have r2 : wr.cell? ⟨w.heap.size + 1, 2, none⟩ = some (.bool false) := R.out.res.cell 2
      have FIN := Lib.hid (R.out.fin (.slice B nb cb') n1 f1)
      clear hres
      go_wp2_with fail
      obtain ⟨w3, e3, q0, q1, q2, f3⟩ := FIN.out
      rw [e3]
      refine bodyPost_ret (v := .agg #[.slice B nb cb', .int .i64 n1, .bool f1]) (by simp [results, Try.results33, go_sem, q0, q1, q2]) rfl ⟨by rw [HRS.out], f3⟩
set_option maxRecDepth 100000 in
set_option maxHeartbeats 4000000 in
theorem foldR_any (fn : Nat) (cb : Array Value) (g : Int → Bool → RowV → Int × Bool) (A : Option Addr) (n cap : Nat) (xs : List RowV) (B : Option Addr) (nb cb' : Nat) (m : Int) (f : Bool) (w : World) (hx : RowsAt w A xs) (hn : n = xs.length) (hn63 : n ≤ 4000)
    (eg : ∀ args w, (callFunc fn args).run Try.prog w = .ok (.enter fn args) w)
    (hg : ∀ (W : World) (x : RowV) (m : Int) (f : Bool), Fr [] w W → Calls Try.prog fn (#[.agg #[.slice B nb cb', .int .i64 m, .bool f], x.val] ++ cb) W fun e w' => e = .returned (.agg #[.slice B nb cb', .int .i64 (g m f x).1, .bool (g m f x).2]) ∧ Fr [] W w') :
    Calls Try.prog 31 #[.slice A n cap, .agg #[.slice B nb cb', .int .i64 m, .bool f], .func (.func fn) #[] cb] w fun e w' => e = .returned (.agg #[.slice B nb cb', .int .i64 (foldS g xs (m, f)).1, .bool (foldS g xs (m, f)).2]) ∧ Fr [] w w' := by
  have HG := Lib.hid hg
  have HX := Lib.hid hx
  have HN := Lib.hid hn
  have R0 := Lib.hid (FoRel.new w (.slice B nb cb') m f)
  clear hg hx hn
  go_enter Try.func31, Try.ntmps31
  go_wp2_with fail
  go_loopw [11] (fun i wr => ∃ (k : Nat) (n1 : Int) (f1 : Bool), k ≤ n ∧ i = .int .i64 k ∧ Hid (FoRel w wr (.slice B nb cb') n1 f1) ∧ Hid (foldS g (xs.take k) (m, f) = (n1, f1))) (fun i _ => n - (intOf i).toNat)
  case atStart => exact ⟨0, m, f, Nat.zero_le _, rfl, R0, Lib.hid rfl⟩
  case round =>
    clear R0
    obtain ⟨k, n1, f1, hk, rfl, R, HS⟩ := hrel
    have b0 : wr.cell? ⟨w.heap.size, 0, none⟩ = some (.slice B nb cb') := R.out.box.cell 0
    have b1 : wr.cell? ⟨w.heap.size, 1, none⟩ = some (.int .i64 n1) := R.out.box.cell 1
    have b2 : wr.cell? ⟨w.heap.size, 2, none⟩ = some (.bool f1) := R.out.box.cell 2
    by_cases hlt : k < n
    · obtain ⟨b, off, rfl, hb, hc⟩ := (HX.out.fr R.out.fr (by simp)) (by rw [← HN.out]; omega)
      have hkx : k < xs.length := by rw [← HN.out]; exact hlt
      have c0 := hc k hkx 0 (by decide)
      have c1 := hc k hkx 1 (by decide)
      have c2 := hc k hkx 2 (by decide)
      have c3 := hc k hkx 3 (by decide)
      have c4 := hc k hkx 4 (by decide)
      have HS' := Lib.hid (foldS_take g xs (m, f) hkx HS.out)
      generalize xs[k] = x at c0 c1 c2 c3 c4 HS'
      obtain ⟨rt, rk, rx, ry, rz⟩ := x
      have d0 : wr.cell? ⟨b, off + k * 5, none⟩ = some (.int .i64 rt) := c0
      have d1 : wr.cell? ⟨b, off + k * 5 + 1, none⟩ = some (.int .i64 rk) := c1
      have d2 : wr.cell? ⟨b, off + k * 5 + 2, none⟩ = some (.int .i64 rx) := c2
      have d3 : wr.cell? ⟨b, off + k * 5 + 3, none⟩ = some (.int .i64 ry) := c3
      have d4 : wr.cell? ⟨b, off + k * 5 + 4, none⟩ = some (.int .i64 rz) := c4
      clear c0 c1 c2 c3 c4
      clear hb hc
      have RA := Lib.hid (R.out.fr0 ((Fr.refl [] wr).alloc (.cells #[.int .i64 rt, .int .i64 rk, .int .i64 rx, .int .i64 ry, .int .i64 rz] 33)))
      have p0 : (wr.alloc (.cells #[.int .i64 rt, .int .i64 rk, .int .i64 rx, .int .i64 ry, .int .i64 rz] 33)).cell? ⟨w.heap.size, 0, none⟩ = some (.slice B nb cb') := RA.out.box.cell 0
      have p1 : (wr.alloc (.cells #[.int .i64 rt, .int .i64 rk, .int .i64 rx, .int .i64 ry, .int .i64 rz] 33)).cell? ⟨w.heap.size, 1, none⟩ = some (.int .i64 n1) := RA.out.box.cell 1
      have p2 : (wr.alloc (.cells #[.int .i64 rt, .int .i64 rk, .int .i64 rx, .int .i64 ry, .int .i64 rz] 33)).cell? ⟨w.heap.size, 2, none⟩ = some (.bool f1) := RA.out.box.cell 2
      have HC := Lib.hid (HG.out _ ⟨rt, rk, rx, ry, rz⟩ n1 f1 RA.out.fr)
      obtain ⟨n2, f2, hnf⟩ : ∃ n2 f2, g n1 f1 ⟨rt, rk, rx, ry, rz⟩ = (n2, f2) := ⟨_, _, rfl⟩
      rw [hnf] at HC HS'
      dsimp only at HC
      clear hnf
      go_wp2_with (go_at_fn fn; refine HC.out.mono ?_; rintro e w2 ⟨rfl, hf2⟩; have R2 := Lib.hid (RA.out.fr0 hf2); have z0 := R2.out.box.frozen 0; have z1 := R2.out.box.frozen 1; have z2 := R2.out.box.frozen 2; have y0 : w2.cell? ⟨w.heap.size, 0, none⟩ = some (.slice B nb cb') := R2.out.box.cell 0; have y1 : w2.cell? ⟨w.heap.size, 1, none⟩ = some (.int .i64 n1) := R2.out.box.cell 1; have y2 : w2.cell? ⟨w.heap.size, 2, none⟩ = some (.bool f1) := R2.out.box.cell 2; clear hf2)
      go_roundw
      case rel => exact ⟨k + 1, n2, f2, by omega, by go_num, Lib.hid (R2.out.put n2 f2), HS'⟩
      case measure => simp [intOf]; omega
    · obtain rfl : k = n := by omega
      have hres : foldS g xs (m, f) = (n1, f1) := by
        have h := HS.out
        rwa [HN.out, List.take_length] at h
      have HRS := Lib.hid hres
      have z0 := R.out.res.frozen 0
      have z1 := R.out.res.frozen 1
      have z2 := R.out.res.frozen 2
      have r0 : wr.cell? ⟨w.heap.size + 1, 0, none⟩ = some (.slice none 0 0) := R.out.res.cell 0
      have r1 : wr.cell? ⟨w.heap.size + 1, 1, none⟩ = some (.int .i64 0) := R.out.res.cell 1
      have r2 : wr.cell? ⟨w.heap.size + 1, 2, none⟩ = some (.bool false) := R.out.res.cell 2
      have FIN := Lib.hid (R.out.fin (.slice B nb cb') n1 f1)
      clear hres
      go_wp2_with fail
      obtain ⟨w3, e3, q0, q1, q2, f3⟩ := FIN.out
      rw [e3]
      refine bodyPost_ret (v := .agg #[.slice B nb cb', .int .i64 n1, .bool f1]) (by simp [results, Try.results31, go_sem, q0, q1, q2]) rfl ⟨by rw [HRS.out], f3⟩
end Go.Proofs.Ythiaaminkfkjpaa
namespace Go.Proofs.Ythiaaminkfkjpaa
open Go.RowKit

/-- A result in memory. -/
def RsAt (w : World) (g : Nat) (v : Value) (n : Int) (f : Bool) : Prop := Blk w g 46 #[v, .int .i64 n, .bool f]
section
variable {w w' : World} {g : Nat} {v : Value} {n : Int} {f : Bool}
theorem RsAt.c0 (h : RsAt w g v n f) : w.cell? ⟨g, 0, none⟩ = some v := Blk.cell h 0
theorem RsAt.c1 (h : RsAt w g v n f) : w.cell? ⟨g, 1, none⟩ = some (.int .i64 n) := Blk.cell h 1
theorem RsAt.c2 (h : RsAt w g v n f) : w.cell? ⟨g, 2, none⟩ = some (.bool f) := Blk.cell h 2
theorem RsAt.z (h : RsAt w g v n f) (k : Nat) : w.frozen? ⟨g, k, none⟩ = false := Blk.frozen h k
theorem RsAt.new (w : World) (v : Value) (n : Int) (f : Bool) : RsAt (w.alloc (.cells #[v, .int .i64 n, .bool f] 46)) w.heap.size v n f := Blk.new _ _ _
theorem RsAt.fr {S : List Nat} (h : RsAt w g v n f) (hf : Fr S w w') (hs : g ∉ S) : RsAt w' g v n f := Blk.fr h hf hs
theorem RsAt.fill (h : RsAt w g v n f) (v2 : Value) (n2 : Int) (f2 : Bool) :
    ∃ w3, ((w.setCell ⟨g, 0, none⟩ v2).setCell ⟨g, 1, none⟩ (.int .i64 n2)).setCell ⟨g, 2, none⟩ (.bool f2) = w3 ∧ RsAt w3 g v2 n2 f2 ∧ Fr [g] w w3 :=
  ⟨_, rfl, ((Blk.set_ h 0 v2).set_ 1 (.int .i64 n2)).set_ 2 (.bool f2), (((Fr.refl [g] w).setCell (.inl (by simp)) _).setCell (.inl (by simp)) _).setCell (.inl (by simp)) _⟩
end
set_option maxRecDepth 100000 in
/-- A sum's closure. -/
theorem plus_any (B : Option Addr) (nb cb : Nat) (m x : Int) (f : Bool) (w : World) :
    Calls Try.prog 35 #[.agg #[.slice B nb cb, .int .i64 m, .bool f], .int .i64 x] w fun e w' => e = .returned (.agg #[.slice B nb cb, .int .i64 (wrap64 (m + x)), .bool f]) ∧ Fr [] w w' := by
  have hb := (RsAt.new w (.slice B nb cb) m f).fr ((Fr.refl [] _).alloc (.cells #[.slice none 0 0, .int .i64 0, .bool false] 46)) (by simp)
  have hr := RsAt.new (w.alloc (.cells #[.slice B nb cb, .int .i64 m, .bool f] 46)) (.slice none 0 0) 0 false
  rw [World.size_alloc] at hr
  have F0 := Lib.hid (((Fr.refl [] w).alloc (.cells #[.slice B nb cb, .int .i64 m, .bool f] 46)).alloc (.cells #[.slice none 0 0, .int .i64 0, .bool false] 46))
  go_enter Try.func35, Try.ntmps35
  go_upto_region 1 with (fail)
  generalize (w.alloc (.cells #[.slice B nb cb, .int .i64 m, .bool f] 46)).alloc (.cells #[.slice none 0 0, .int .i64 0, .bool false] 46) = w2 at *
  have b0 := hb.c0
  have b1 := hb.c1
  have b2 := hb.c2
  have zb := hb.z 1
  have r0 := hr.c0
  have r1 := hr.c1
  have r2 := hr.c2
  have z0 := hr.z 0
  have z1 := hr.z 1
  have z2 := hr.z 2
  have HR := Lib.hid hr
  clear hb hr
  go_wp2_with fail
  have hf1 : Fr [w.heap.size] w2 (w2.setCell ⟨w.heap.size, 1, none⟩ (.int .i64 (wrap64 (m + x)))) := (Fr.refl _ _).setCell (.inl (by simp)) _
  obtain ⟨w3, e3, h3, f3⟩ := (HR.out.fr hf1 (by simp)).fill (.slice B nb cb) (wrap64 (m + x)) f
  have q0 := h3.c0
  have q1 := h3.c1
  have q2 := h3.c2
  rw [e3]
  exact bodyPost_ret (v := .agg #[.slice B nb cb, .int .i64 (wrap64 (m + x)), .bool f]) (by simp [results, Try.results35, go_sem, q0, q1, q2]) rfl ⟨rfl, (F0.out.trans' hf1 (by simp)).trans' f3 (by simp)⟩
set_option maxRecDepth 100000 in
/-- A count's closure. -/
theorem count_any (B : Option Addr) (nb cb : Nat) (m : Int) (r : RowV) (f : Bool) (w : World) :
    Calls Try.prog 32 #[.agg #[.slice B nb cb, .int .i64 m, .bool f], r.val] w fun e w' => e = .returned (.agg #[.slice B nb cb, .int .i64 (wrap64 (m + 1)), .bool f]) ∧ Fr [] w w' := by
  have hb := (RsAt.new w (.slice B nb cb) m f).fr (((Fr.refl [] _).alloc (.cells #[.int .i64 r.t, .int .i64 r.k, .int .i64 r.x, .int .i64 r.y, .int .i64 r.z] 33)).alloc (.cells #[.slice none 0 0, .int .i64 0, .bool false] 46)) (by simp)
  have hr := RsAt.new ((w.alloc (.cells #[.slice B nb cb, .int .i64 m, .bool f] 46)).alloc (.cells #[.int .i64 r.t, .int .i64 r.k, .int .i64 r.x, .int .i64 r.y, .int .i64 r.z] 33)) (.slice none 0 0) 0 false
  rw [World.size_alloc, World.size_alloc] at hr
  have F0 := Lib.hid ((((Fr.refl [] w).alloc (.cells #[.slice B nb cb, .int .i64 m, .bool f] 46)).alloc (.cells #[.int .i64 r.t, .int .i64 r.k, .int .i64 r.x, .int .i64 r.y, .int .i64 r.z] 33)).alloc (.cells #[.slice none 0 0, .int .i64 0, .bool false] 46))
  go_enter Try.func32, Try.ntmps32
  go_upto_region 1 with (fail)
  generalize ((w.alloc (.cells #[.slice B nb cb, .int .i64 m, .bool f] 46)).alloc (.cells #[.int .i64 r.t, .int .i64 r.k, .int .i64 r.x, .int .i64 r.y, .int .i64 r.z] 33)).alloc (.cells #[.slice none 0 0, .int .i64 0, .bool false] 46) = w2 at *
  have b0 := hb.c0
  have b1 := hb.c1
  have b2 := hb.c2
  have zb := hb.z 1
  have r0 := hr.c0
  have r1 := hr.c1
  have r2 := hr.c2
  have z0 := hr.z 0
  have z1 := hr.z 1
  have z2 := hr.z 2
  have HR := Lib.hid hr
  clear hb hr
  go_wp2_with fail
  have hf1 : Fr [w.heap.size] w2 (w2.setCell ⟨w.heap.size, 1, none⟩ (.int .i64 (wrap64 (m + 1)))) := (Fr.refl _ _).setCell (.inl (by simp)) _
  obtain ⟨w3, e3, h3, f3⟩ := (HR.out.fr hf1 (by simp; omega)).fill (.slice B nb cb) (wrap64 (m + 1)) f
  have q0 := h3.c0
  have q1 := h3.c1
  have q2 := h3.c2
  rw [e3]
  exact bodyPost_ret (v := .agg #[.slice B nb cb, .int .i64 (wrap64 (m + 1)), .bool f]) (by simp [results, Try.results32, go_sem, q0, q1, q2]) rfl ⟨rfl, (F0.out.trans' hf1 (by simp)).trans' f3 (by simp; omega)⟩
theorem less_any (a b : Int) (w : World) : Calls Try.prog 37 #[.int .i64 a, .int .i64 b] w fun e w' => e = .returned (.bool (decide (a < b))) ∧ w = w' := by
  go_enter Try.func37, Try.ntmps37
  go_wp2
  go_ret
  exact ⟨rfl, rfl⟩
theorem more_any (a b : Int) (w : World) : Calls Try.prog 38 #[.int .i64 a, .int .i64 b] w fun e w' => e = .returned (.bool (decide (b < a))) ∧ w = w' := by
  go_enter Try.func38, Try.ntmps38
  go_wp2
  go_ret
  exact ⟨rfl, rfl⟩
set_option maxRecDepth 100000 in
theorem extreme_any (lf : Nat) (w : World) : Calls Try.prog 36 #[.func (.func lf) #[] #[]] w fun e w' => e = .returned (.func (.func 48) #[] #[.pointer (some ⟨w.heap.size, 0, none⟩)]) ∧ Blk w' w.heap.size 83 #[.func (.func lf) #[] #[]] ∧ Fr [] w w' := by
  go_enter Try.func36, Try.ntmps36
  go_wp2
  go_ret
  exact ⟨rfl, Blk.new _ _ _, (Fr.refl _ _).alloc _⟩
set_option maxRecDepth 100000 in
/-- The least (by L) of what has come. -/
theorem extreme1_any (lf g : Nat) (L : Int → Int → Bool) (B : Option Addr) (nb cb : Nat) (m x : Int) (f : Bool) (w : World) (hg : Blk w g 83 #[.func (.func lf) #[] #[]]) (eg : ∀ args w, (callFunc lf args).run Try.prog w = .ok (.enter lf args) w)
    (hl : ∀ (a b : Int) (w : World), Calls Try.prog lf #[.int .i64 a, .int .i64 b] w fun e w' => e = .returned (.bool (L a b)) ∧ w = w') :
    Calls Try.prog 48 #[.agg #[.slice B nb cb, .int .i64 m, .bool f], .int .i64 x, .pointer (some ⟨g, 0, none⟩)] w fun e w' => e = .returned (.agg #[.slice B nb cb, .int .i64 (if f = false ∨ L x m = true then x else m), .bool true]) ∧ Fr [] w w' := by
  have HL := Lib.hid hl
  clear hl
  obtain ⟨y, HY⟩ : ∃ y, Hid ((if f = false ∨ L x m = true then x else m) = y) := ⟨_, Lib.hid rfl⟩
  rw [HY.out]
  have hb := (RsAt.new w (.slice B nb cb) m f).fr ((Fr.refl [] _).alloc (.cells #[.slice none 0 0, .int .i64 0, .bool false] 46)) (by simp)
  have hr := RsAt.new (w.alloc (.cells #[.slice B nb cb, .int .i64 m, .bool f] 46)) (.slice none 0 0) 0 false
  rw [World.size_alloc] at hr
  have F0 := Lib.hid (((Fr.refl [] w).alloc (.cells #[.slice B nb cb, .int .i64 m, .bool f] 46)).alloc (.cells #[.slice none 0 0, .int .i64 0, .bool false] 46))
  have hg2 := hg.fr F0.out (by simp)
  go_enter Try.func48, Try.ntmps48
  go_upto_region 1 with (fail)
  generalize (w.alloc (.cells #[.slice B nb cb, .int .i64 m, .bool f] 46)).alloc (.cells #[.slice none 0 0, .int .i64 0, .bool false] 46) = w2 at *
  have b0 := hb.c0
  have b1 := hb.c1
  have b2 := hb.c2
  have zb1 := hb.z 1
  have zb2 := hb.z 2
  have r0 := hr.c0
  have r1 := hr.c1
  have r2 := hr.c2
  have z0 := hr.z 0
  have z1 := hr.z 1
  have z2 := hr.z 2
  have gc : w2.cell? ⟨g, 0, none⟩ = some (.func (.func lf) #[] #[]) := hg2.cell 0
  have HR := Lib.hid hr
  clear hb hr hg hg2
  have hkeep : Hid (∀ _ : Int, ∃ w3, ((((w2.setCell ⟨w.heap.size, 2, none⟩ (.bool true)).setCell ⟨w.heap.size + 1, 0, none⟩ (.slice B nb cb)).setCell ⟨w.heap.size + 1, 1, none⟩ (.int .i64 m)).setCell ⟨w.heap.size + 1, 2, none⟩ (.bool true)) = w3 ∧ RsAt w3 (w.heap.size + 1) (.slice B nb cb) m true ∧ Fr [] w w3) := Lib.hid (fun _ => by
    have hf1 : Fr [w.heap.size] w2 (w2.setCell ⟨w.heap.size, 2, none⟩ (.bool true)) := (Fr.refl _ _).setCell (.inl (by simp)) _
    obtain ⟨w3, e3, h3, f3⟩ := (HR.out.fr hf1 (by simp)).fill (.slice B nb cb) m true
    exact ⟨w3, e3, h3, (F0.out.trans' hf1 (by simp)).trans' f3 (by simp)⟩)
  have htake : Hid (∀ _ : Int, ∃ w3, (((((w2.setCell ⟨w.heap.size, 1, none⟩ (.int .i64 x)).setCell ⟨w.heap.size, 2, none⟩ (.bool true)).setCell ⟨w.heap.size + 1, 0, none⟩ (.slice B nb cb)).setCell ⟨w.heap.size + 1, 1, none⟩ (.int .i64 x)).setCell ⟨w.heap.size + 1, 2, none⟩ (.bool true)) = w3 ∧ RsAt w3 (w.heap.size + 1) (.slice B nb cb) x true ∧ Fr [] w w3) := Lib.hid (fun _ => by
    have hf1 : Fr [w.heap.size] w2 ((w2.setCell ⟨w.heap.size, 1, none⟩ (.int .i64 x)).setCell ⟨w.heap.size, 2, none⟩ (.bool true)) := ((Fr.refl _ _).setCell (.inl (by simp)) _).setCell (.inl (by simp)) _
    obtain ⟨w3, e3, h3, f3⟩ := (HR.out.fr hf1 (by simp)).fill (.slice B nb cb) x true
    exact ⟨w3, e3, h3, (F0.out.trans' hf1 (by simp)).trans' f3 (by simp)⟩)
  cases hff : f
  · subst hff
    go_wp2_with fail
    obtain ⟨w3, e3, h3, f3⟩ := htake.out 0
    have q0 := h3.c0
    have q1 := h3.c1
    have q2 := h3.c2
    rw [e3]
    exact bodyPost_ret (v := .agg #[.slice B nb cb, .int .i64 x, .bool true]) (by simp [results, Try.results48, go_sem, q0, q1, q2]) rfl ⟨by rw [← HY.out]; simp, f3⟩
  · subst hff
    cases hlx : L x m
    · have HLX := Lib.hid hlx
      go_wp2_with (go_at_fn lf; refine (HL.out _ _ _).mono ?_; rintro e w' ⟨rfl, rfl⟩)
      obtain ⟨w3, e3, h3, f3⟩ := hkeep.out 0
      have q0 := h3.c0
      have q1 := h3.c1
      have q2 := h3.c2
      rw [e3]
      exact bodyPost_ret (v := .agg #[.slice B nb cb, .int .i64 m, .bool true]) (by simp [results, Try.results48, go_sem, q0, q1, q2]) rfl ⟨by rw [← HY.out]; simp [HLX.out], f3⟩
    · have HLX := Lib.hid hlx
      go_wp2_with (go_at_fn lf; refine (HL.out _ _ _).mono ?_; rintro e w' ⟨rfl, rfl⟩)
      obtain ⟨w3, e3, h3, f3⟩ := htake.out 0
      have q0 := h3.c0
      have q1 := h3.c1
      have q2 := h3.c2
      rw [e3]
      exact bodyPost_ret (v := .agg #[.slice B nb cb, .int .i64 x, .bool true]) (by simp [results, Try.results48, go_sem, q0, q1, q2]) rfl ⟨by rw [← HY.out]; simp [HLX.out], f3⟩
end Go.Proofs.Ythiaaminkfkjpaa
namespace Go.Proofs.Ythiaaminkfkjpaa
open Go.RowKit

/-- Between two rounds of measures. -/
structure MeRel (w wr : World) (q : Qry) (v : Value) (l : List Int) : Prop where
  box : QAt wr w.heap.size q
  own : OwnL 3 1 encI wr v l
  fr : Fr [] w wr
  new : ∀ g, v.ownBlock = some g → w.heap.size < g
theorem MeRel.fr0 {w wr w' : World} {q : Qry} {v : Value} {l : List Int} (h : MeRel w wr q v l) (hf : Fr [] wr w') : MeRel w w' q v l := ⟨h.box.fr hf (by simp), h.own.fr hf (by simp), h.fr.trans hf, h.new⟩
theorem MeRel.grown {w wr w' : World} {q : Qry} {v v' : Value} {l : List Int} {x : Int} (h : MeRel w wr q v l) (ho : OwnL 3 1 encI w' v' (l ++ [x])) (hg : wr.grownBy w' v.ownBlock) (hat : v'.ownBlock = v.ownBlock ∨ v'.ownBlock = some wr.heap.size) : MeRel w w' q v' (l ++ [x]) := by
  have hf : Fr v.ownBlock.toList wr w' := (Fr.refl _ _).grown hg (fun g hg => .inl (Option.mem_toList.2 hg))
  have hlt := Blk.lt h.box
  refine ⟨h.box.fr hf (fun hm => ?_), ho, h.fr.trans' hf (fun g hm => .inr (Nat.le_of_lt (h.new g (Option.mem_toList.1 hm)))), fun g hgg => ?_⟩
  · have := h.new _ (Option.mem_toList.1 hm)
    omega
  · rcases hat with e | e
    · exact h.new g (e ▸ hgg)
    · rw [hgg] at e
      injection e with e
      omega
set_option maxRecDepth 100000 in
set_option maxHeartbeats 4000000 in
theorem measures_any (q : Qry) (A : Option Addr) (n cap : Nat) (rows : List RowV) (w : World) (hx : RowsAt w A rows) (hn : n = rows.length) (hl : n ≤ 4000) :
    Calls Try.prog 34 #[q.val, .slice A n cap] w fun e w' => ∃ A2 c2, e = .returned (.slice A2 n c2) ∧ OwnL 3 1 encI w' (.slice A2 n c2) (Em.meas q rows) ∧ Fr [] w w' ∧ ∀ g, (Value.slice A2 n c2).ownBlock = some g → w.heap.size < g := by
  have HX := Lib.hid hx
  have HN := Lib.hid hn
  clear hx hn
  have HB := Lib.hid (QAt.new w q)
  have F0 := Lib.hid ((Fr.refl [] w).alloc (.cells #[.int .i64 q.kind, .int .i64 q.table, .int .i64 q.column, .int .i64 q.low, .int .i64 q.high, .int .i64 q.by_, .int .i64 q.other] 29))
  have hs0 : (w.alloc (.cells #[.int .i64 q.kind, .int .i64 q.table, .int .i64 q.column, .int .i64 q.low, .int .i64 q.high, .int .i64 q.by_, .int .i64 q.other] 29)).heap.size = w.heap.size + 1 := World.size_alloc _ _
  obtain ⟨i0, z, TI⟩ := etI
  unfold Qry.val
  go_enter Try.func34, Try.ntmps34
  go_upto_region 1 with (fail)
  have HS0 := Lib.hid hs0
  clear hs0
  generalize w.alloc (.cells #[.int .i64 q.kind, .int .i64 q.table, .int .i64 q.column, .int .i64 q.low, .int .i64 q.high, .int .i64 q.by_, .int .i64 q.other] 29) = w1 at *
  go_wp2_with (at_make; refine wpList_make_own _ rfl _ _ _ rfl 0 _ i0 z 1 TI.ht TI.hi TI.hz TI.hs _ _ _ n rfl rfl rfl (by rw [TI.hb]; omega) (Nat.le_trans hl (by decide)) (Nat.zero_le _) ?_; intro w2 hown2 hg2; have R0 := Lib.hid (show MeRel w w2 q (.slice (some ⟨w1.heap.size, 0, none⟩) 0 n) [] from ⟨HB.out.fr ((Fr.refl [] _).grown hg2 (fun g h => by cases h)) (by simp), hown2, F0.out.trans ((Fr.refl [] _).grown hg2 (fun g h => by cases h)), fun g hg => by simp only [Value.ownBlock, Option.some.injEq] at hg; rw [HS0.out] at hg; omega⟩); clear hown2 hg2)
  go_loopw [5, 13] (fun v i wr => ∃ (k : Nat) (A2 : Option Addr) (n2 c2 : Nat), k ≤ n ∧ i = .int .i64 k ∧ v = .slice A2 n2 c2 ∧ Hid (MeRel w wr q (.slice A2 n2 c2) (Em.meas q (rows.take k)))) (fun _ i _ => n - (intOf i).toNat)
  case atStart => exact ⟨0, _, _, _, Nat.zero_le _, rfl, rfl, R0⟩
  case round =>
    clear R0
    obtain ⟨k, A2, n2, c2, hk, rfl, rfl, R⟩ := hrel
    by_cases hlt : k < n
    · obtain ⟨b, off, rfl, hb, hc⟩ := (HX.out.fr R.out.fr (by simp)) (by rw [← HN.out]; omega)
      have hkx : k < rows.length := by rw [← HN.out]; exact hlt
      have c0 := hc k hkx 0 (by decide)
      have c1 := hc k hkx 1 (by decide)
      have c2' := hc k hkx 2 (by decide)
      have c3 := hc k hkx 3 (by decide)
      have c4 := hc k hkx 4 (by decide)
      have HT : Hid (Em.meas q (rows.take (k + 1)) = Em.meas q (rows.take k) ++ [rows[k].value q.by_]) := Lib.hid (by unfold Em.meas; rw [List.take_succ_eq_append_getElem hkx, List.map_append, List.map_singleton])
      have hlen : Hid ((Em.meas q (rows.take k)).length = k) := Lib.hid (by unfold Em.meas; rw [List.length_map, List.length_take]; omega)
      generalize rows[k] = x at c0 c1 c2' c3 c4 HT
      obtain ⟨rt, rk, rx, ry, rz⟩ := x
      have d0 : wr.cell? ⟨b, off + k * 5, none⟩ = some (.int .i64 rt) := c0
      have d1 : wr.cell? ⟨b, off + k * 5 + 1, none⟩ = some (.int .i64 rk) := c1
      have d2 : wr.cell? ⟨b, off + k * 5 + 2, none⟩ = some (.int .i64 rx) := c2'
      have d3 : wr.cell? ⟨b, off + k * 5 + 3, none⟩ = some (.int .i64 ry) := c3
      have d4 : wr.cell? ⟨b, off + k * 5 + 4, none⟩ = some (.int .i64 rz) := c4
      clear c0 c1 c2' c3 c4 hb hc
      have RA := Lib.hid (R.out.fr0 ((Fr.refl [] wr).alloc (.cells #[.int .i64 rt, .int .i64 rk, .int .i64 rx, .int .i64 ry, .int .i64 rz] 33)))
      have q5 : (wr.alloc (.cells #[.int .i64 rt, .int .i64 rk, .int .i64 rx, .int .i64 ry, .int .i64 rz] 33)).cell? ⟨w.heap.size, 5, none⟩ = some (.int .i64 q.by_) := RA.out.box.c5
      obtain ⟨y, HY⟩ : ∃ y, Hid (y = RowV.value ⟨rt, rk, rx, ry, rz⟩ q.by_) := ⟨_, Lib.hid rfl⟩
      have HV := Lib.hid (value5 rt rk rx ry rz q.by_ (wr.alloc (.cells #[.int .i64 rt, .int .i64 rk, .int .i64 rx, .int .i64 ry, .int .i64 rz] 33)))
      rw [← HY.out] at HT HV
      go_wp2_with (first | (go_at_call 9; refine HV.out.mono ?_; rintro e w2 ⟨rfl, hw2⟩; have F2 : Fr [] (wr.alloc (.cells #[.int .i64 rt, .int .i64 rk, .int .i64 rx, .int .i64 ry, .int .i64 rz] 33)) w2 := (by rw [hw2]; exact (Fr.refl _ _).alloc _); have R2 := Lib.hid ((RA.out.fr0 F2).fr0 ((Fr.refl [] w2).alloc (.cells #[.int .i64 y] 3))); clear hw2 F2) | (at_builtin; refine wpList_appendL rfl _ _ rfl TI encI_len encI_one rfl R2.out.own (w2.heap.size + 1) _ _ _ [y] rfl rfl (reads_new (enc := encI) w2 3 y rfl) (by rw [hlen.out]; simp only [maxLen, List.length_singleton]; omega) (by rw [hlen.out]; simp only [List.length_singleton]; omega) ?_; intro v5 w5 hown5 hg5 hat5; have R5 := Lib.hid (R2.out.grown hown5 hg5 hat5); rw [← HT.out] at R5; obtain ⟨A5, n5, c5, hv5⟩ : ∃ A n c, v5 = .slice A n c := (match hown5.val with | ⟨_, _, hv⟩ => ⟨_, _, _, hv⟩); subst hv5; clear hown5 hg5 hat5))
      go_roundw
      case rel => exact ⟨k + 1, A5, n5, c5, by omega, by go_num, rfl, R5⟩
      case measure => simp [intOf]; omega
    · obtain rfl : k = n := by omega
      have hl2 : n2 = (Em.meas q (rows.take k)).length := (IntRow.of_own R.out.own).2
      have hn2 : n2 = k := by rw [hl2]; unfold Em.meas; rw [List.length_map, List.length_take, ← HN.out]; omega
      subst hn2
      have ho := R.out.own
      rw [HN.out, List.take_length] at ho
      rw [← HN.out] at ho
      have HO := Lib.hid ho
      clear ho hl2
      go_wp2_with fail
      go_ret
      exact ⟨A2, c2, rfl, HO.out, R.out.fr, R.out.new⟩
end Go.Proofs.Ythiaaminkfkjpaa
namespace Go.Proofs.Ythiaaminkfkjpaa
open Go.RowKit

theorem reads_of_rows {w : World} {A : Option Addr} {l : List RowV} (h : RowsAt w A l) : Reads w w.heap.size 5 A l.length (l.flatMap RowV.cells) := by
  refine ⟨flat_len RowV.cells_len l, fun hl => ?_⟩
  obtain ⟨b, off, e, hb, hc⟩ := h hl
  refine ⟨_, e, hb, fun q u hu => ?_⟩
  have hq : q < l.length * 5 := by
    rw [← flat_len RowV.cells_len l]
    exact (List.getElem?_eq_some_iff.1 hu).1
  have h1 := hc (q / 5) (by omega) (q % 5) (by omega)
  have h2 := flat_get RowV.cells_len l (q / 5) (by omega) (q % 5) (by omega)
  rw [show q / 5 * 5 + q % 5 = q by omega] at h2
  have hadd : (⟨b, off, none⟩ : Addr).add q = ⟨b, off + q, none⟩ := by unfold Addr.add; split <;> simp_all
  rw [hadd, show off + q = off + q / 5 * 5 + q % 5 by omega, h1, ← h2, hu]
set_option maxRecDepth 100000 in
theorem rclone_any (A : Option Addr) (n cap : Nat) (rows : List RowV) (w : World) (hx : RowsAt w A rows) (hn : n = rows.length) (hl : n ≤ 4000) :
    Calls Try.prog 40 #[.slice A n cap] w fun e w' => ∃ v, e = .returned v ∧ RowsOwn w' v rows ∧ Fr [] w w' ∧ ∀ g, v.ownBlock = some g → w.heap.size ≤ g := by
  obtain ⟨i0, TR⟩ := etRow
  have hu := TR.ht
  have hnil := Lib.run_eql_slice_nil (P := Try.prog)
  cases A with
  | none =>
    have h0 : rows = [] := by
      rcases Nat.eq_zero_or_pos rows.length with h | h
      · exact List.eq_nil_of_length_eq_zero h
      · obtain ⟨b, off, e, _⟩ := hx h
        cases e
    subst h0
    go_enter Try.func40, Try.ntmps40
    go_wp2
    go_ret
    exact ⟨_, rfl, OwnL.nil, Fr.refl _ _, by simp [Value.ownBlock]⟩
  | some ad =>
    have hE : OwnL 33 5 RowV.cells (w.alloc (.cells #[] 33)) (.slice (some ⟨w.heap.size, 0, none⟩) 0 0) ([] : List RowV) := ⟨rfl, .inr ⟨w.heap.size, 0, #[], rfl, Nat.zero_le _, Blk.new w 33 #[], Nat.le_refl _, by simp [maxLen], rfl, rfl⟩⟩
    have HE := Lib.hid hE
    have hR := reads_of_rows (hx.fr ((Fr.refl [] w).alloc (.cells #[] 33)) (by simp))
    rw [← hn] at hR
    have HR := Lib.hid hR
    have HL : Hid (rows.length ≤ 4000) := Lib.hid (by omega)
    have HN := Lib.hid hn
    clear hE hR hx hn
    go_enter Try.func40, Try.ntmps40
    go_wp2_with (at_builtin; refine wpList_appendL rfl _ _ rfl TR RowV.cells_len RowV.cells_one rfl HE.out _ _ _ _ rows rfl HN.out HR.out (by have := HL.out; simp only [maxLen, List.length_nil]; omega) (by have := HL.out; simp only [List.length_nil]; omega) ?_; intro v5 w1 hown5 hg5 hat5; have HG5 := Lib.hid hg5; have HO5 := Lib.hid hown5; have HA5 := Lib.hid hat5; clear hg5 hown5 hat5)
    go_ret
    have hg : (w.alloc (.cells #[] 33)).grownBy w1 (some w.heap.size) := HG5.out
    have ha : v5.ownBlock = some w.heap.size ∨ v5.ownBlock = some (w.alloc (.cells #[] 33)).heap.size := HA5.out
    refine ⟨v5, rfl, by simpa using HO5.out, ((Fr.refl [] w).alloc _).grown hg (fun g h => .inr (by injection h with h; omega)), fun g h => ?_⟩
    rcases ha with e | e
    · rw [h] at e
      injection e with e
      omega
    · rw [h] at e
      injection e with e
      rw [World.size_alloc] at e
      omega
end Go.Proofs.Ythiaaminkfkjpaa
namespace Go.Proofs.Ythiaaminkfkjpaa
open Go.RowKit

theorem tyIRw : MT Try.prog 90 3 33 (Value.int .i64) (Lit.int .i64) RowV.val okI (.agg #[.int .i64 0, .int .i64 0, .int .i64 0, .int .i64 0, .int .i64 0]) where
  keyed := Maps.int_keyed Try.underlying3
  ht := Try.underlying90
  key := fun x hx => Maps.keyOf_int_mk Try.underlying3 hx
  inj := fun x y h => by injection h
  zero := fun w => by kernel_rfl
namespace Em
def pstep (t : Int) (M : List (Int × RowV)) (x : RowV) : List (Int × RowV) := if x.t = t ∧ mget M x.k = none then mput M x.k x else M
def pmap (t : Int) (l : List RowV) : List (Int × RowV) := l.foldl (pstep t) []
theorem pstep_get (t : Int) (M : List (Int × RowV)) (x : RowV) (k : Int) : mget (pstep t M x) k = (mget M k).or (if (decide (x.t = t) && decide (x.k = k)) = true then some x else none) := by
  unfold pstep
  by_cases h1 : x.t = t
  · cases h2 : mget M x.k with
    | none =>
      rw [if_pos ⟨h1, rfl⟩]
      by_cases h3 : x.k = k
      · subst h3
        rw [mget_put_same, h2]
        simp [h1]
      · rw [mget_put_other (fun e => h3 e.symm)]
        simp [h3]
    | some r =>
      rw [if_neg (by simp)]
      by_cases h3 : x.k = k
      · subst h3
        rw [h2]
        rfl
      · simp [h3]
  · rw [if_neg (fun h => h1 h.1)]
    simp [h1]
theorem pmap_from (t k : Int) : ∀ (l : List RowV) (M : List (Int × RowV)), mget (l.foldl (pstep t) M) k = (mget M k).or (partner l t k)
  | [], M => by simp [partner]
  | x :: l, M => by
    rw [List.foldl_cons, pmap_from t k l, pstep_get]
    unfold partner
    rw [List.find?_cons]
    cases (decide (x.t = t) && decide (x.k = k)) <;> cases mget M k <;> simp
theorem pmap_get (t k : Int) (l : List RowV) : mget (pmap t l) k = partner l t k := by
  unfold pmap
  rw [pmap_from]
  simp [mget]
theorem pstep_len (t : Int) (M : List (Int × RowV)) (x : RowV) : (pstep t M x).length ≤ M.length + 1 := by
  unfold pstep
  split
  · show (mput M x.k x).length ≤ _
    unfold mput mdel
    rw [List.length_cons]
    exact Nat.succ_le_succ (List.length_filter_le _ _)
  · omega
theorem pmap_len (t : Int) (l : List RowV) : (pmap t l).length ≤ l.length := by
  have key : ∀ (l : List RowV) (M : List (Int × RowV)), (l.foldl (pstep t) M).length ≤ M.length + l.length := by
    intro l
    induction l with
    | nil => intro M; simp
    | cons x l ih =>
      intro M
      have h1 := ih (pstep t M x)
      have h2 := pstep_len t M x
      rw [List.foldl_cons, List.length_cons]
      omega
  have := key l []
  simpa [pmap] using this
theorem pmap_take (t : Int) (l : List RowV) {k : Nat} (hk : k < l.length) : pmap t (l.take (k + 1)) = pstep t (pmap t (l.take k)) l[k] := by
  unfold pmap
  rw [List.take_succ_eq_append_getElem hk, List.foldl_append]
  rfl
end Em
end Go.Proofs.Ythiaaminkfkjpaa
namespace Go.Proofs.Ythiaaminkfkjpaa
open Go.RowKit

/-- Between two rounds of the first loop. -/
structure JoA (w wr : World) (q : Qry) (M : List (Int × RowV)) : Prop where
  box : QAt wr w.heap.size q
  map : VMap Try.prog 3 (Lit.int .i64) RowV.val wr (w.heap.size + 1) M
  fr : Fr [] w wr
theorem JoA.fr0 {w wr w' : World} {q : Qry} {M : List (Int × RowV)} (h : JoA w wr q M) (hf : Fr [] wr w') : JoA w w' q M := ⟨h.box.fr hf (by simp), h.map.fr hf (by simp), h.fr.trans hf⟩
theorem JoA.turned {w wr w' : World} {q : Qry} {M M' : List (Int × RowV)} (h : JoA w wr q M) (hm : VMap Try.prog 3 (Lit.int .i64) RowV.val w' (w.heap.size + 1) M') (ht : wr.mapTurned w' (w.heap.size + 1)) : JoA w w' q M' := by
  have hf : Fr [w.heap.size + 1] wr w' := turned_fr ht (by simp)
  exact ⟨h.box.fr hf (by simp), hm, h.fr.trans' hf (fun x hx => .inr (by simp only [List.mem_singleton] at hx; omega))⟩
theorem Em.joined_len (q : Qry) (others : List RowV) : ∀ rows : List RowV, (Em.joined q rows others).length ≤ 2 * rows.length
  | [] => by simp [Em.joined]
  | r :: l => by
    have h := Em.joined_len q others l
    unfold Em.joined at *
    rw [List.flatMap_cons, List.length_append, List.length_cons]
    have : (Em.pair q others r).length ≤ 2 := by unfold Em.pair; split <;> simp
    omega
/-- Between two rounds of the second one. -/
structure JoB (w2 wr : World) (v : Value) (l : List RowV) : Prop where
  own : RowsOwn wr v l
  fr : Fr [] w2 wr
  new : ∀ g, v.ownBlock = some g → w2.heap.size ≤ g
theorem JoB.fr0 {w2 wr w' : World} {v : Value} {l : List RowV} (h : JoB w2 wr v l) (hf : Fr [] wr w') : JoB w2 w' v l := ⟨h.own.fr hf (by simp), h.fr.trans hf, h.new⟩
theorem JoB.grown {w2 wr w' : World} {v v' : Value} {l l' : List RowV} (h : JoB w2 wr v l) (ho : RowsOwn w' v' l') (hg : wr.grownBy w' v.ownBlock) (hat : v'.ownBlock = v.ownBlock ∨ v'.ownBlock = some wr.heap.size) : JoB w2 w' v' l' := by
  refine ⟨ho, h.fr.grown hg (fun g e => .inr (h.new g e)), fun g hgg => ?_⟩
  rcases hat with e | e
  · exact h.new g (e ▸ hgg)
  · rw [hgg] at e
    injection e with e
    have := h.fr.size
    omega
set_option maxRecDepth 100000 in
set_option maxHeartbeats 4000000 in
theorem joined_any (q : Qry) (A : Option Addr) (n cap : Nat) (rows : List RowV) (B : Option Addr) (m capB : Nat) (others : List RowV) (w : World) (hx : RowsAt w A rows) (hn : n = rows.length) (hl : n ≤ 4000) (hy : RowsAt w B others) (hm : m = others.length) (hlm : m ≤ 4000)
    (hk1 : ∀ r ∈ rows, okI (r.value q.by_)) (hk2 : ∀ r ∈ others, okI r.k) :
    Calls Try.prog 39 #[q.val, .slice A n cap, .slice B m capB] w fun e w' => ∃ v, e = .returned v ∧ RowsOwn w' v (Em.joined q rows others) ∧ Fr [] w w' ∧ ∀ g, v.ownBlock = some g → w.heap.size ≤ g := by
  have HX := Lib.hid hx
  have HN := Lib.hid hn
  have HY := Lib.hid hy
  have HM := Lib.hid hm
  have HK1 := Lib.hid hk1
  have HK2 := Lib.hid hk2
  clear hx hn hy hm hk1 hk2
  have hmm := @run_makeMap Try.prog
  have R0 : Hid (JoA w ((w.alloc (.cells #[.int .i64 q.kind, .int .i64 q.table, .int .i64 q.column, .int .i64 q.low, .int .i64 q.high, .int .i64 q.by_, .int .i64 q.other] 29)).alloc (.map #[] 0)) q []) := Lib.hid (by
    refine ⟨(QAt.new w q).fr ((Fr.refl [] _).alloc _) (by simp), ?_, ((Fr.refl _ _).alloc _).alloc _⟩
    have h := VMap.made (P := Try.prog) (k := 3) (Lit.int .i64) RowV.val (w.alloc (.cells #[.int .i64 q.kind, .int .i64 q.table, .int .i64 q.column, .int .i64 q.low, .int .i64 q.high, .int .i64 q.by_, .int .i64 q.other] 29))
    rw [World.size_alloc] at h
    exact h)
  obtain ⟨i0, TR⟩ := etRow
  unfold Qry.val
  go_enter Try.func39, Try.ntmps39
  go_wp2_with fail
  go_loopw [19] (fun i wr => ∃ k : Nat, k ≤ m ∧ i = .int .i64 k ∧ Hid (JoA w wr q (Em.pmap q.other (others.take k)))) (fun i _ => m - (intOf i).toNat)
  case atStart => exact ⟨0, Nat.zero_le _, rfl, R0⟩
  case round =>
    clear R0 hmm
    obtain ⟨k, hk, rfl, R⟩ := hrel
    by_cases hlt : k < m
    · obtain ⟨b, off, rfl, hb, hc⟩ := (HY.out.fr R.out.fr (by simp)) (by rw [← HM.out]; omega)
      have hkx : k < others.length := by rw [← HM.out]; exact hlt
      have c0 := hc k hkx 0 (by decide)
      have c1 := hc k hkx 1 (by decide)
      have c2 := hc k hkx 2 (by decide)
      have c3 := hc k hkx 3 (by decide)
      have c4 := hc k hkx 4 (by decide)
      have HT := Lib.hid (Em.pmap_take q.other others hkx)
      have hkey := HK2.out _ (List.getElem_mem hkx)
      have hlen := Em.pmap_len q.other (others.take k)
      have HLEN : Hid ((Em.pmap q.other (others.take k)).length < maxLen) := Lib.hid (by rw [List.length_take] at hlen; simp only [maxLen]; omega)
      clear hlen
      generalize others[k] = x at c0 c1 c2 c3 c4 HT hkey
      generalize Em.pmap q.other (others.take k) = M at R HT HLEN
      obtain ⟨rt, rk, rx, ry, rz⟩ := x
      have d0 : wr.cell? ⟨b, off + k * 5, none⟩ = some (.int .i64 rt) := c0
      have d1 : wr.cell? ⟨b, off + k * 5 + 1, none⟩ = some (.int .i64 rk) := c1
      have d2 : wr.cell? ⟨b, off + k * 5 + 2, none⟩ = some (.int .i64 rx) := c2
      have d3 : wr.cell? ⟨b, off + k * 5 + 3, none⟩ = some (.int .i64 ry) := c3
      have d4 : wr.cell? ⟨b, off + k * 5 + 4, none⟩ = some (.int .i64 rz) := c4
      clear c0 c1 c2 c3 c4 hb hc
      have RA := Lib.hid (R.out.fr0 ((Fr.refl [] wr).alloc (.cells #[.int .i64 rt, .int .i64 rk, .int .i64 rx, .int .i64 ry, .int .i64 rz] 33)))
      by_cases hto : rt = q.other
      · have HTO := Lib.hid hto
        have et : (rt == q.other) = true := by simp [hto]
        clear hto
        cases hmg : mget M rk with
        | none =>
          have HMG := Lib.hid hmg
          clear hmg
          have RB := Lib.hid (RA.out.fr0 ((Fr.refl [] (wr.alloc (.cells #[.int .i64 rt, .int .i64 rk, .int .i64 rx, .int .i64 ry, .int .i64 rz] 33))).alloc (.cells #[.int .i64 0, .int .i64 0, .int .i64 0, .int .i64 0, .int .i64 0] 33)))
          have q6 : ((wr.alloc (.cells #[.int .i64 rt, .int .i64 rk, .int .i64 rx, .int .i64 ry, .int .i64 rz] 33)).alloc (.cells #[.int .i64 0, .int .i64 0, .int .i64 0, .int .i64 0, .int .i64 0] 33)).cell? ⟨w.heap.size, 6, none⟩ = some (.int .i64 q.other) := RB.out.box.c6
          go_wp2_with (first | (at_lookup; refine wpList_vlook _ rfl _ _ true rfl tyIRw (w.heap.size + 1) M rfl RA.out.map rk rfl hkey ?_; rw [HMG.out]) | (at_mapUpdate; refine wpList_vstore _ rfl _ _ _ rfl tyIRw (w.heap.size + 1) M rfl RB.out.map rk ⟨rt, rk, rx, ry, rz⟩ rfl rfl hkey HLEN.out ?_; intro w6 hm6 ht6; have R6 := Lib.hid (RB.out.turned hm6 ht6); clear hm6 ht6))
          go_roundw
          case rel => exact ⟨k + 1, by omega, by go_num, by rw [HT.out]; unfold Em.pstep; rw [if_pos ⟨HTO.out, HMG.out⟩]; exact R6⟩
          case measure => simp [intOf]; omega
        | some r2 =>
          obtain ⟨t2, k2, x2, y2, z2⟩ := r2
          have HMG := Lib.hid hmg
          clear hmg
          have RB := Lib.hid (RA.out.fr0 ((Fr.refl [] (wr.alloc (.cells #[.int .i64 rt, .int .i64 rk, .int .i64 rx, .int .i64 ry, .int .i64 rz] 33))).alloc (.cells #[.int .i64 t2, .int .i64 k2, .int .i64 x2, .int .i64 y2, .int .i64 z2] 33)))
          have q6 : ((wr.alloc (.cells #[.int .i64 rt, .int .i64 rk, .int .i64 rx, .int .i64 ry, .int .i64 rz] 33)).alloc (.cells #[.int .i64 t2, .int .i64 k2, .int .i64 x2, .int .i64 y2, .int .i64 z2] 33)).cell? ⟨w.heap.size, 6, none⟩ = some (.int .i64 q.other) := RB.out.box.c6
          go_wp2_with (at_lookup; refine wpList_vlook _ rfl _ _ true rfl tyIRw (w.heap.size + 1) M rfl RA.out.map rk rfl hkey ?_; rw [HMG.out])
          go_roundw
          case rel => exact ⟨k + 1, by omega, by go_num, by rw [HT.out]; unfold Em.pstep; rw [if_neg (by simp [HMG.out])]; exact RB⟩
          case measure => simp [intOf]; omega
      · have HTO := Lib.hid hto
        have et : (rt == q.other) = false := by simp [hto]
        clear hto
        cases hmg : mget M rk with
        | none =>
          have HMG := Lib.hid hmg
          clear hmg
          have RB := Lib.hid (RA.out.fr0 ((Fr.refl [] (wr.alloc (.cells #[.int .i64 rt, .int .i64 rk, .int .i64 rx, .int .i64 ry, .int .i64 rz] 33))).alloc (.cells #[.int .i64 0, .int .i64 0, .int .i64 0, .int .i64 0, .int .i64 0] 33)))
          have q6 : ((wr.alloc (.cells #[.int .i64 rt, .int .i64 rk, .int .i64 rx, .int .i64 ry, .int .i64 rz] 33)).alloc (.cells #[.int .i64 0, .int .i64 0, .int .i64 0, .int .i64 0, .int .i64 0] 33)).cell? ⟨w.heap.size, 6, none⟩ = some (.int .i64 q.other) := RB.out.box.c6
          go_wp2_with (at_lookup; refine wpList_vlook _ rfl _ _ true rfl tyIRw (w.heap.size + 1) M rfl RA.out.map rk rfl hkey ?_; rw [HMG.out])
          go_roundw
          case rel => exact ⟨k + 1, by omega, by go_num, by rw [HT.out]; unfold Em.pstep; rw [if_neg (by simp [HTO.out])]; exact RB⟩
          case measure => simp [intOf]; omega
        | some r2 =>
          obtain ⟨t2, k2, x2, y2, z2⟩ := r2
          have HMG := Lib.hid hmg
          clear hmg
          have RB := Lib.hid (RA.out.fr0 ((Fr.refl [] (wr.alloc (.cells #[.int .i64 rt, .int .i64 rk, .int .i64 rx, .int .i64 ry, .int .i64 rz] 33))).alloc (.cells #[.int .i64 t2, .int .i64 k2, .int .i64 x2, .int .i64 y2, .int .i64 z2] 33)))
          have q6 : ((wr.alloc (.cells #[.int .i64 rt, .int .i64 rk, .int .i64 rx, .int .i64 ry, .int .i64 rz] 33)).alloc (.cells #[.int .i64 t2, .int .i64 k2, .int .i64 x2, .int .i64 y2, .int .i64 z2] 33)).cell? ⟨w.heap.size, 6, none⟩ = some (.int .i64 q.other) := RB.out.box.c6
          go_wp2_with (at_lookup; refine wpList_vlook _ rfl _ _ true rfl tyIRw (w.heap.size + 1) M rfl RA.out.map rk rfl hkey ?_; rw [HMG.out])
          go_roundw
          case rel => exact ⟨k + 1, by omega, by go_num, by rw [HT.out]; unfold Em.pstep; rw [if_neg (by simp [HTO.out])]; exact RB⟩
          case measure => simp [intOf]; omega
    · obtain rfl : k = m := by omega
      have RM : Hid (JoA w wr q (Em.pmap q.other others)) := Lib.hid (by
        have h := R.out
        rwa [HM.out, List.take_length] at h)
      clear R
      have HME := Lib.hid (measures_any q A n cap rows wr (HX.out.fr RM.out.fr (by simp)) HN.out hl)
      have q0 := RM.out.box.c0
      have q1 := RM.out.box.c1
      have q2 := RM.out.box.c2
      have q3 := RM.out.box.c3
      have q4 := RM.out.box.c4
      have q5 := RM.out.box.c5
      have q6 := RM.out.box.c6
      go_wp2_with (go_at_call 34; refine HME.out.mono ?_; rintro e w2 ⟨A2, c2, rfl, ho2, f2, -⟩; have HI := Lib.hid (IntRow.of_own ho2).1; have R2 := Lib.hid (RM.out.fr0 f2); clear ho2 f2)
      clear HME RM q0 q1 q2 q3 q4 q5 q6
      go_loopw [6, 48] (fun v i wr => ∃ (k : Nat) (A3 : Option Addr) (n3 c3 : Nat), k ≤ n ∧ i = .int .i64 k ∧ v = .slice A3 n3 c3 ∧ Hid (JoB w2 wr (.slice A3 n3 c3) (Em.joined q (rows.take k) others))) (fun _ i _ => n - (intOf i).toNat)
      case atStart => exact ⟨0, none, 0, 0, Nat.zero_le _, rfl, rfl, Lib.hid ⟨OwnL.nil, Fr.refl _ _, by simp [Value.ownBlock]⟩⟩
      case round =>
        obtain ⟨k2, A3, n3, c3, hk2, rfl, rfl, RB⟩ := hrel
        by_cases hlt2 : k2 < n
        · skip
          have hml : (Em.meas q rows).length = rows.length := by unfold Em.meas; rw [List.length_map]
          have hkx : k2 < rows.length := by rw [← HN.out]; exact hlt2
          have hki : k2 < (Em.meas q rows).length := by rw [hml]; exact hkx
          obtain ⟨b, off, rfl, hb, hc⟩ := (HX.out.fr (R2.out.fr.trans RB.out.fr) (by simp)) (by omega)
          obtain ⟨b2, off2, rfl, hb2, hi⟩ := (HI.out.fr0 RB.out.fr) (by omega)
          have ci := hi k2 hki
          have hmk : (Em.meas q rows)[k2] = rows[k2].value q.by_ := by simp [Em.meas]
          rw [hmk] at ci
          have c0 := hc k2 hkx 0 (by decide)
          have c1 := hc k2 hkx 1 (by decide)
          have c2 := hc k2 hkx 2 (by decide)
          have c3' := hc k2 hkx 3 (by decide)
          have c4 := hc k2 hkx 4 (by decide)
          have HT : Hid (Em.joined q (rows.take (k2 + 1)) others = Em.joined q (rows.take k2) others ++ Em.pair q others rows[k2]) := Lib.hid (by unfold Em.joined; rw [List.take_succ_eq_append_getElem hkx, List.flatMap_append]; simp)
          have hkey := HK1.out _ (List.getElem_mem hkx)
          have HJL : Hid ((Em.joined q (rows.take k2) others).length ≤ 2 * k2) := Lib.hid (by
            have h := Em.joined_len q others (rows.take k2)
            rw [List.length_take] at h
            omega)
          generalize rows[k2] = x at c0 c1 c2 c3' c4 HT hkey ci
          generalize Em.joined q (rows.take k2) others = J at RB HT HJL
          obtain ⟨rt, rk, rx, ry, rz⟩ := x
          have d0 : wr.cell? ⟨b, off + k2 * 5, none⟩ = some (.int .i64 rt) := c0
          have d1 : wr.cell? ⟨b, off + k2 * 5 + 1, none⟩ = some (.int .i64 rk) := c1
          have d2 : wr.cell? ⟨b, off + k2 * 5 + 2, none⟩ = some (.int .i64 rx) := c2
          have d3 : wr.cell? ⟨b, off + k2 * 5 + 3, none⟩ = some (.int .i64 ry) := c3'
          have d4 : wr.cell? ⟨b, off + k2 * 5 + 4, none⟩ = some (.int .i64 rz) := c4
          obtain ⟨y, HYY⟩ : ∃ y, Hid (RowV.value ⟨rt, rk, rx, ry, rz⟩ q.by_ = y) := ⟨_, Lib.hid rfl⟩
          rw [HYY.out] at hkey ci
          have RJ := Lib.hid (R2.out.fr0 RB.out.fr)
          have hpg := Em.pmap_get q.other y others
          have HBB := Lib.hid hb
          clear c0 c1 c2 c3' c4 hb hc hb2 hi hmk hki hml
          cases hmg : mget (Em.pmap q.other others) y with
          | none =>
            have HMG := Lib.hid hmg
            have HP : Hid (Em.pair q others ⟨rt, rk, rx, ry, rz⟩ = []) := Lib.hid (by unfold Em.pair; rw [HYY.out, ← hpg, hmg])
            clear hmg hpg
            have RN := Lib.hid (RB.out.fr0 ((Fr.refl [] wr).alloc (.cells #[.int .i64 0, .int .i64 0, .int .i64 0, .int .i64 0, .int .i64 0] 33)))
            go_wp2_with (at_lookup; refine wpList_vlook _ rfl _ _ true rfl tyIRw (w.heap.size + 1) _ rfl RJ.out.map y rfl hkey ?_; rw [HMG.out])
            go_roundw
            case rel => exact ⟨k2 + 1, A3, n3, c3, by omega, by go_num, rfl, by rw [HT.out, HP.out, List.append_nil]; exact RN⟩
            case measure => simp [intOf]; omega
          | some r2 =>
            obtain ⟨t2, k3, x2, y2, z2⟩ := r2
            have HMG := Lib.hid hmg
            have HP : Hid (Em.pair q others ⟨rt, rk, rx, ry, rz⟩ = [⟨rt, rk, rx, ry, rz⟩, ⟨t2, k3, x2, y2, z2⟩]) := Lib.hid (by unfold Em.pair; rw [HYY.out, ← hpg, hmg])
            clear hmg hpg
            have g0 : (wr.alloc (.cells #[.int .i64 t2, .int .i64 k3, .int .i64 x2, .int .i64 y2, .int .i64 z2] 33)).cell? ⟨b, off + k2 * 5, none⟩ = some (.int .i64 rt) := (World.cell?_alloc_lt _ _ _ HBB.out).trans d0
            have g1 : (wr.alloc (.cells #[.int .i64 t2, .int .i64 k3, .int .i64 x2, .int .i64 y2, .int .i64 z2] 33)).cell? ⟨b, off + k2 * 5 + 1, none⟩ = some (.int .i64 rk) := (World.cell?_alloc_lt _ _ _ HBB.out).trans d1
            have g2 : (wr.alloc (.cells #[.int .i64 t2, .int .i64 k3, .int .i64 x2, .int .i64 y2, .int .i64 z2] 33)).cell? ⟨b, off + k2 * 5 + 2, none⟩ = some (.int .i64 rx) := (World.cell?_alloc_lt _ _ _ HBB.out).trans d2
            have g3 : (wr.alloc (.cells #[.int .i64 t2, .int .i64 k3, .int .i64 x2, .int .i64 y2, .int .i64 z2] 33)).cell? ⟨b, off + k2 * 5 + 3, none⟩ = some (.int .i64 ry) := (World.cell?_alloc_lt _ _ _ HBB.out).trans d3
            have g4 : (wr.alloc (.cells #[.int .i64 t2, .int .i64 k3, .int .i64 x2, .int .i64 y2, .int .i64 z2] 33)).cell? ⟨b, off + k2 * 5 + 4, none⟩ = some (.int .i64 rz) := (World.cell?_alloc_lt _ _ _ HBB.out).trans d4
            have RN := Lib.hid ((RB.out.fr0 ((Fr.refl [] wr).alloc (.cells #[.int .i64 t2, .int .i64 k3, .int .i64 x2, .int .i64 y2, .int .i64 z2] 33))).fr0 ((Fr.refl [] (wr.alloc (.cells #[.int .i64 t2, .int .i64 k3, .int .i64 x2, .int .i64 y2, .int .i64 z2] 33))).alloc (.cells #[.int .i64 rt, .int .i64 rk, .int .i64 rx, .int .i64 ry, .int .i64 rz, .int .i64 t2, .int .i64 k3, .int .i64 x2, .int .i64 y2, .int .i64 z2] 33)).drew)
            have hbn := Blk.new (wr.alloc (.cells #[.int .i64 t2, .int .i64 k3, .int .i64 x2, .int .i64 y2, .int .i64 z2] 33)) 33 #[.int .i64 rt, .int .i64 rk, .int .i64 rx, .int .i64 ry, .int .i64 rz, .int .i64 t2, .int .i64 k3, .int .i64 x2, .int .i64 y2, .int .i64 z2]
            rw [World.size_alloc] at hbn
            have HRD := Lib.hid ((reads_of_rows (AtL.of_blk (L := [(⟨rt, rk, rx, ry, rz⟩ : RowV), ⟨t2, k3, x2, y2, z2⟩]) RowV.cells_len hbn rfl)).drew)
            clear hbn
            go_wp2_with (at_lookup; refine wpList_vlook _ rfl _ _ true rfl tyIRw (w.heap.size + 1) _ rfl RJ.out.map y rfl hkey ?_; rw [HMG.out])
            go_upto_region 14 with (fail)
            have hl1 : Hid (J.length + [(⟨rt, rk, rx, ry, rz⟩ : RowV), ⟨t2, k3, x2, y2, z2⟩].length ≤ 100000) := Lib.hid (by have := HJL.out; simp only [List.length_cons, List.length_nil]; omega)
            have hmx : Hid ((100000 : Nat) ≤ maxLen) := Lib.hid (by decide)
            go_region_law (refine step_appendL rfl _ _ rfl TR RowV.cells_len RowV.cells_one rfl RN.out.own _ _ _ _ [(⟨rt, rk, rx, ry, rz⟩ : RowV), ⟨t2, k3, x2, y2, z2⟩] rfl rfl HRD.out (Nat.le_trans hl1.out hmx.out) (Nat.le_trans (Nat.mul_le_mul_right 40 hl1.out) (by decide)) ?_; intro v5 w5 hown5 hg5 hat5; have R5 := Lib.hid (RN.out.grown hown5 hg5 hat5); obtain ⟨A5, n5, c5, hv5⟩ : ∃ A n c, v5 = .slice A n c := (match hown5.val with | ⟨_, _, hv⟩ => ⟨_, _, _, hv⟩); subst hv5; clear hown5 hg5 hat5)
            all_goals
              go_wp2_with fail
              go_roundw
              case rel => exact ⟨k2 + 1, A5, n5, c5, by omega, by go_num, rfl, by rw [HT.out, HP.out]; exact R5⟩
              case measure => simp [intOf]; omega
        · obtain rfl : k2 = n := by omega
          have ho : RowsOwn wr (.slice A3 n3 c3) (Em.joined q rows others) := by
            have h := RB.out.own
            rwa [HN.out, List.take_length] at h
          have HO := Lib.hid ho
          have hw2 := R2.out.fr.size
          clear ho
          go_wp2_with fail
          go_ret
          exact ⟨_, rfl, HO.out, R2.out.fr.trans RB.out.fr, fun g hg => Nat.le_trans hw2 (RB.out.new g hg)⟩
end Go.Proofs.Ythiaaminkfkjpaa
namespace Go.Proofs.Ythiaaminkfkjpaa
open Go.RowKit

def cntG (m : Int) (f : Bool) (_ : RowV) : Int × Bool := (wrap64 (m + 1), f)
def sumG (m : Int) (f : Bool) (x : Int) : Int × Bool := (wrap64 (m + x), f)
def exG (L : Int → Int → Bool) (m : Int) (f : Bool) (x : Int) : Int × Bool := (if f = false ∨ L x m = true then x else m, true)
def ltI (a b : Int) : Bool := decide (a < b)
def gtI (a b : Int) : Bool := decide (b < a)
namespace Em
theorem fold_count : ∀ (l : List RowV) (m : Int) (f : Bool) (r : List RowV), 0 ≤ m → m + l.length ≤ 1000000 → l.foldl count ⟨r, m, f⟩ = ⟨r, (foldS cntG l (m, f)).1, (foldS cntG l (m, f)).2⟩
  | [], m, f, r, _, _ => rfl
  | x :: l, m, f, r, h0, h1 => by
    rw [List.length_cons] at h1
    have hw : wrap64 (m + 1) = m + 1 := IntWalk.wrap64_in _ ⟨by omega, by omega⟩
    have ih := fold_count l (m + 1) f r (by omega) (by omega)
    unfold foldS at *
    rw [List.foldl_cons, List.foldl_cons]
    unfold cntG at *
    rw [hw]
    exact ih
theorem fold_plus : ∀ (l : List Int) (m : Int) (f : Bool) (r : List RowV) (B : Int), (∀ x ∈ l, -1000000000000 ≤ x ∧ x ≤ 1000000000000) → -B ≤ m → m ≤ B → B + 1000000000000 * l.length ≤ 9000000000000000000 →
    l.foldl plus ⟨r, m, f⟩ = ⟨r, (foldS sumG l (m, f)).1, (foldS sumG l (m, f)).2⟩
  | [], m, f, r, B, _, _, _, _ => rfl
  | x :: l, m, f, r, B, hx, h0, h1, hB => by
    rw [List.length_cons] at hB
    have hb := hx x (by simp)
    have hw : wrap64 (m + x) = m + x := IntWalk.wrap64_in _ ⟨by omega, by omega⟩
    have ih := fold_plus l (m + x) f r (B + 1000000000000) (fun y hy => hx y (by simp [hy])) (by omega) (by omega) (by omega)
    unfold foldS at *
    rw [List.foldl_cons, List.foldl_cons]
    unfold sumG at *
    rw [hw]
    exact ih
theorem fold_least : ∀ (l : List Int) (m : Int) (f : Bool) (r : List RowV), l.foldl least ⟨r, m, f⟩ = ⟨r, (foldS (exG ltI) l (m, f)).1, (foldS (exG ltI) l (m, f)).2⟩
  | [], m, f, r => rfl
  | x :: l, m, f, r => by
    have ih := fold_least l (if f = false ∨ x < m then x else m) true r
    unfold foldS at *
    rw [List.foldl_cons, List.foldl_cons]
    unfold exG ltI at *
    simp only [decide_eq_true_eq] at *
    exact ih
theorem fold_most : ∀ (l : List Int) (m : Int) (f : Bool) (r : List RowV), l.foldl most ⟨r, m, f⟩ = ⟨r, (foldS (exG gtI) l (m, f)).1, (foldS (exG gtI) l (m, f)).2⟩
  | [], m, f, r => rfl
  | x :: l, m, f, r => by
    have ih := fold_most l (if f = false ∨ m < x then x else m) true r
    unfold foldS at *
    rw [List.foldl_cons, List.foldl_cons]
    unfold exG gtI at *
    simp only [decide_eq_true_eq] at *
    exact ih
theorem res_bad {q : Qry} {rows others : List RowV} (hv : valid q = false) : res q rows others = ⟨[], 0, false⟩ := by
  unfold res
  rw [if_neg (by simp [hv])]
  rfl
theorem res_count {q : Qry} {rows others : List RowV} (hv : valid q = true) (hk : q.kind = 3) (hl : rows.length ≤ 4000) : res q rows others = ⟨[], (foldS cntG rows (0, false)).1, (foldS cntG rows (0, false)).2⟩ := by
  unfold res
  rw [if_pos hv, if_pos hk]
  exact fold_count rows 0 false [] (by omega) (by omega)
theorem res_sum {q : Qry} {rows others : List RowV} (hv : valid q = true) (hk : q.kind = 4) (hl : rows.length ≤ 4000) (hb : ∀ r ∈ rows, -1000000000000 ≤ r.value q.by_ ∧ r.value q.by_ ≤ 1000000000000) :
    res q rows others = ⟨[], (foldS sumG (meas q rows) (0, false)).1, (foldS sumG (meas q rows) (0, false)).2⟩ := by
  unfold res
  rw [if_pos hv, if_neg (by omega), if_pos hk]
  exact fold_plus (meas q rows) 0 false [] 0 (fun x hx => by
    unfold meas at hx
    obtain ⟨r, hr, rfl⟩ := List.mem_map.1 hx
    exact hb r hr) (by omega) (by omega) (by unfold meas; rw [List.length_map]; omega)
theorem res_min {q : Qry} {rows others : List RowV} (hv : valid q = true) (hk : q.kind = 5) : res q rows others = ⟨[], (foldS (exG ltI) (meas q rows) (0, false)).1, (foldS (exG ltI) (meas q rows) (0, false)).2⟩ := by
  unfold res
  rw [if_pos hv, if_neg (by omega), if_neg (by omega), if_pos hk]
  exact fold_least _ 0 false []
theorem res_max {q : Qry} {rows others : List RowV} (hv : valid q = true) (hk : q.kind = 6) : res q rows others = ⟨[], (foldS (exG gtI) (meas q rows) (0, false)).1, (foldS (exG gtI) (meas q rows) (0, false)).2⟩ := by
  unfold res
  rw [if_pos hv, if_neg (by omega), if_neg (by omega), if_neg (by omega), if_pos hk]
  exact fold_most _ 0 false []
theorem res_join {q : Qry} {rows others : List RowV} (hv : valid q = true) (hk : q.kind = 7) : res q rows others = ⟨joined q rows others, 0, false⟩ := by
  unfold res
  rw [if_pos hv, if_neg (by omega), if_neg (by omega), if_neg (by omega), if_neg (by omega), if_pos hk]
theorem res_rows {q : Qry} {rows others : List RowV} (hv : valid q = true) (h3 : q.kind ≠ 3) (h4 : q.kind ≠ 4) (h5 : q.kind ≠ 5) (h6 : q.kind ≠ 6) (h7 : q.kind ≠ 7) : res q rows others = ⟨rows, 0, false⟩ := by
  unfold res
  rw [if_pos hv, if_neg h3, if_neg h4, if_neg h5, if_neg h6, if_neg h7]
end Em
/-- A result handed out: its rows lie in memory of their own, made behind w. -/
structure ResO (w w' : World) (v : Value) (l : List RowV) : Prop where
  own : RowsOwn w' v l
  fr : Fr [] w w'
  new : ∀ g, v.ownBlock = some g → w.heap.size ≤ g
/-- What stands between the parts of From. -/
structure FrRel (w w3 : World) (q : Qry) : Prop where
  box : QAt w3 w.heap.size q
  res : RsAt w3 (w.heap.size + 1) (.slice none 0 0) 0 false
  fr : Fr [] w w3
theorem FrRel.fr0 {w w3 w' : World} {q : Qry} (h : FrRel w w3 q) (hf : Fr [] w3 w') : FrRel w w' q := ⟨h.box.fr hf (by simp), h.res.fr hf (by simp), h.fr.trans hf⟩
theorem FrRel.new (w : World) (q : Qry) : FrRel w ((w.alloc (.cells #[.int .i64 q.kind, .int .i64 q.table, .int .i64 q.column, .int .i64 q.low, .int .i64 q.high, .int .i64 q.by_, .int .i64 q.other] 29)).alloc (.cells #[.slice none 0 0, .int .i64 0, .bool false] 46)) q := by
  refine ⟨(QAt.new w q).fr ((Fr.refl [] _).alloc _) (by simp), ?_, ((Fr.refl _ _).alloc _).alloc _⟩
  have h := RsAt.new (w.alloc (.cells #[.int .i64 q.kind, .int .i64 q.table, .int .i64 q.column, .int .i64 q.low, .int .i64 q.high, .int .i64 q.by_, .int .i64 q.other] 29)) (.slice none 0 0) 0 false
  rw [World.size_alloc] at h
  exact h
theorem FrRel.fin {w w3 : World} {q : Qry} (h : FrRel w w3 q) (v : Value) (n : Int) (f : Bool) :
    ∃ w4, ((w3.setCell ⟨w.heap.size + 1, 0, none⟩ v).setCell ⟨w.heap.size + 1, 1, none⟩ (.int .i64 n)).setCell ⟨w.heap.size + 1, 2, none⟩ (.bool f) = w4 ∧ w4.cell? ⟨w.heap.size + 1, 0, none⟩ = some v ∧ w4.cell? ⟨w.heap.size + 1, 1, none⟩ = some (.int .i64 n) ∧ w4.cell? ⟨w.heap.size + 1, 2, none⟩ = some (.bool f) ∧ Fr [] w w4 ∧ Fr [w.heap.size + 1] w3 w4 := by
  obtain ⟨w4, e4, h4, f4⟩ := h.res.fill v n f
  exact ⟨w4, e4, h4.c0, h4.c1, h4.c2, h.fr.trans' f4 (by simp), f4⟩

set_option maxRecDepth 100000 in
set_option maxHeartbeats 4000000 in
theorem efrom_any (q : Qry) (A : Option Addr) (n cap : Nat) (rows : List RowV) (B : Option Addr) (m capB : Nat) (others : List RowV) (w : World) (hx : RowsAt w A rows) (hn : n = rows.length) (hl : n ≤ 4000) (hy : RowsAt w B others) (hm : m = others.length) (hlm : m ≤ 4000)
    (hk1 : Em.valid q = true → ∀ r ∈ rows, okI (r.value q.by_)) (hk2 : ∀ r ∈ others, okI r.k) (hsum : Em.valid q = true → q.kind = 4 → ∀ r ∈ rows, -1000000000000 ≤ r.value q.by_ ∧ r.value q.by_ ≤ 1000000000000) :
    Calls Try.prog 21 #[q.val, .slice A n cap, .slice B m capB] w fun e w' => ∃ v, e = .returned (.agg #[v, .int .i64 (Em.res q rows others).value, .bool (Em.res q rows others).found]) ∧ ResO w w' v (Em.res q rows others).rows := by
  have HX := Lib.hid hx
  have HN := Lib.hid hn
  have HY := Lib.hid hy
  have HM := Lib.hid hm
  have HK1 := Lib.hid hk1
  have HK2 := Lib.hid hk2
  have HSUM := Lib.hid hsum
  clear hx hn hy hm hk1 hk2 hsum
  have R0 := Lib.hid (FrRel.new w q)
  obtain ⟨k, t, c, lo, hi, b, o⟩ := q
  unfold Qry.val
  dsimp only at *
  go_enter Try.func21, Try.ntmps21
  go_upto_region 1 with (fail)
  generalize (w.alloc (.cells #[.int .i64 k, .int .i64 t, .int .i64 c, .int .i64 lo, .int .i64 hi, .int .i64 b, .int .i64 o] 29)).alloc (.cells #[.slice none 0 0, .int .i64 0, .bool false] 46) = w2 at *
  have c0 : w2.cell? ⟨w.heap.size, 0, none⟩ = some (.int .i64 k) := R0.out.box.c0
  have c1 : w2.cell? ⟨w.heap.size, 1, none⟩ = some (.int .i64 t) := R0.out.box.c1
  have c2 : w2.cell? ⟨w.heap.size, 2, none⟩ = some (.int .i64 c) := R0.out.box.c2
  have c3 : w2.cell? ⟨w.heap.size, 3, none⟩ = some (.int .i64 lo) := R0.out.box.c3
  have c4 : w2.cell? ⟨w.heap.size, 4, none⟩ = some (.int .i64 hi) := R0.out.box.c4
  have c5 : w2.cell? ⟨w.heap.size, 5, none⟩ = some (.int .i64 b) := R0.out.box.c5
  have c6 : w2.cell? ⟨w.heap.size, 6, none⟩ = some (.int .i64 o) := R0.out.box.c6
  have HQV := Lib.hid (qvalid_any ⟨k, t, c, lo, hi, b, o⟩ w2)
  cases hv : Em.valid ⟨k, t, c, lo, hi, b, o⟩
  · rw [hv] at HQV
    go_upto_region 2 with (go_at_call 20; refine HQV.out.mono ?_; rintro e w3 ⟨rfl, f3⟩; have R3 := Lib.hid (R0.out.fr0 f3); clear f3)
    have z0 := R3.out.res.z 0
    have z1 := R3.out.res.z 1
    have z2 := R3.out.res.z 2
    have y0 := R3.out.res.c0
    have y1 := R3.out.res.c1
    have y2 := R3.out.res.c2
    clear HQV R0 c0 c1 c2 c3 c4 c5 c6 HX HY
    go_wp2_with fail
    obtain ⟨w4, e4, q0, q1, q2, f4, -⟩ := R3.out.fin (.slice none 0 0) 0 false
    rw [e4]
    exact bodyPost_ret (v := .agg #[.slice none 0 0, .int .i64 0, .bool false]) (by simp [results, Try.results21, go_sem, q0, q1, q2]) rfl ⟨_, by rw [Em.res_bad hv], by rw [Em.res_bad hv]; exact ⟨OwnL.nil, f4, by simp [Value.ownBlock]⟩⟩
  rw [hv] at HQV
  have HVV := Lib.hid hv
  clear hv
  go_upto_region 3 with (go_at_call 20; refine HQV.out.mono ?_; rintro e w3 ⟨rfl, f3⟩; have R3 := Lib.hid (R0.out.fr0 f3); clear f3)
  clear HQV R0 c0 c1 c2 c3 c4 c5 c6
  have R4 := Lib.hid (R3.out.fr0 ((Fr.refl [] w3).alloc (.cells #[.slice none 0 0, .int .i64 0, .bool false] 46)))
  have hN := RsAt.new w3 (.slice none 0 0) 0 false
  have HX4 := Lib.hid (HX.out.fr R4.out.fr (by simp))
  have HY4 := Lib.hid (HY.out.fr R4.out.fr (by simp))
  clear HX HY
  have hs3 : w.heap.size + 1 < w3.heap.size := Blk.lt R3.out.res
  go_upto_region 4 with (fail)
  clear R3
  generalize hw4 : w3.alloc (.cells #[.slice none 0 0, .int .i64 0, .bool false] 46) = w4 at *
  clear hw4
  generalize w3.heap.size = gn at *
  have c0 : w4.cell? ⟨w.heap.size, 0, none⟩ = some (.int .i64 k) := R4.out.box.c0
  have c1 : w4.cell? ⟨w.heap.size, 1, none⟩ = some (.int .i64 t) := R4.out.box.c1
  have c2 : w4.cell? ⟨w.heap.size, 2, none⟩ = some (.int .i64 c) := R4.out.box.c2
  have c3 : w4.cell? ⟨w.heap.size, 3, none⟩ = some (.int .i64 lo) := R4.out.box.c3
  have c4 : w4.cell? ⟨w.heap.size, 4, none⟩ = some (.int .i64 hi) := R4.out.box.c4
  have c5 : w4.cell? ⟨w.heap.size, 5, none⟩ = some (.int .i64 b) := R4.out.box.c5
  have c6 : w4.cell? ⟨w.heap.size, 6, none⟩ = some (.int .i64 o) := R4.out.box.c6
  have n0 := hN.c0
  have n1 := hN.c1
  have n2 := hN.c2
  have HNN := Lib.hid hN
  have HS4 : Hid (w.heap.size + 1 < w4.heap.size) := Lib.hid (Blk.lt R4.out.res)
  clear hN
  by_cases k3 : k = 3
  · subst k3
    have HF := Lib.hid (foldR_any 32 #[] cntG A n cap rows none 0 0 0 false w4 HX4.out HN.out hl (enters_of Try.func32 (by kernel_rfl) rfl) (fun W x m f _ => count_any none 0 0 m x f W))
    obtain ⟨⟨v1, b1⟩, HV1⟩ : ∃ p, Hid (foldS cntG rows (0, false) = p) := ⟨_, Lib.hid rfl⟩
    rw [HV1.out] at HF
    go_wp2_with (go_at_call 31; refine HF.out.mono ?_; rintro e w5 ⟨rfl, f5⟩; have R5 := Lib.hid (R4.out.fr0 f5); clear f5; have z0 := R5.out.res.z 0; have y0 := R5.out.res.c0; have z1 := R5.out.res.z 1; have y1 := R5.out.res.c1; have z2 := R5.out.res.z 2; have y2 := R5.out.res.c2)
    obtain ⟨w6, e6, q0, q1, q2, f6, g6⟩ := R5.out.fin (.slice none 0 0) v1 b1
    rw [e6]
    exact bodyPost_ret (v := .agg #[(.slice none 0 0), .int .i64 v1, .bool b1]) (by simp [results, Try.results21, go_sem, q0, q1, q2]) rfl ⟨_, by rw [Em.res_count HVV.out rfl (by rw [← HN.out]; exact hl), HV1.out], by rw [Em.res_count HVV.out rfl (by rw [← HN.out]; exact hl)]; exact ⟨OwnL.nil, f6, by simp [Value.ownBlock]⟩⟩
  by_cases k4 : k = 4
  · subst k4
    obtain ⟨⟨v1, b1⟩, HV1⟩ : ∃ p, Hid (foldS sumG (Em.meas ⟨4, t, c, lo, hi, b, o⟩ rows) (0, false) = p) := ⟨_, Lib.hid rfl⟩
    have Rd := Lib.hid (R4.out.fr0 (Fr.refl [] w4).drew)
    have Nd := Lib.hid (HNN.out.fr (Fr.refl [] w4).drew (by simp))
    go_upto_region 8 with (fail)
    go_region_held3 (fun w' => w'.cell? ⟨w.heap.size, 0, none⟩ = some (.int .i64 4) ∧ w'.cell? ⟨w.heap.size, 1, none⟩ = some (.int .i64 t) ∧ w'.cell? ⟨w.heap.size, 2, none⟩ = some (.int .i64 c) ∧ w'.cell? ⟨w.heap.size, 3, none⟩ = some (.int .i64 lo) ∧ w'.cell? ⟨w.heap.size, 4, none⟩ = some (.int .i64 hi) ∧ w'.cell? ⟨w.heap.size, 5, none⟩ = some (.int .i64 b) ∧ w'.cell? ⟨w.heap.size, 6, none⟩ = some (.int .i64 o) ∧ w'.cell? ⟨gn, 0, none⟩ = some (.slice none 0 0) ∧ w'.cell? ⟨gn, 1, none⟩ = some (.int .i64 0) ∧ w'.cell? ⟨gn, 2, none⟩ = some (.bool false))
      (first | exact ⟨Rd.out.box.c0, Rd.out.box.c1, Rd.out.box.c2, Rd.out.box.c3, Rd.out.box.c4, Rd.out.box.c5, Rd.out.box.c6, Nd.out.c0, Nd.out.c1, Nd.out.c2⟩ | exact ⟨R5.out.box.c0, R5.out.box.c1, R5.out.box.c2, R5.out.box.c3, R5.out.box.c4, R5.out.box.c5, R5.out.box.c6, N5.out.c0, N5.out.c1, N5.out.c2⟩ | exact ⟨R7.out.box.c0, R7.out.box.c1, R7.out.box.c2, R7.out.box.c3, R7.out.box.c4, R7.out.box.c5, R7.out.box.c6, N7.out.c0, N7.out.c1, N7.out.c2⟩ | exact S8.out)
      (first
        | (go_at_call 34; refine (measures_any ⟨4, t, c, lo, hi, b, o⟩ A n cap rows _ (HX4.out.fr (Fr.refl [] w4).drew (by simp)) HN.out hl).mono ?_; rintro e w5 ⟨A2, c2, rfl, ho2, f2, -⟩; have HI := Lib.hid (IntRow.of_own ho2); have R5 := Lib.hid (Rd.out.fr0 f2); have N5 := Lib.hid (Nd.out.fr f2 (by simp)); clear ho2 f2)
        | (go_at_call 33; refine (foldI_any 35 #[] sumG A2 n c2 (Em.meas ⟨4, t, c, lo, hi, b, o⟩ rows) none 0 0 0 false w5 HI.out.1 HI.out.2 hl (enters_of Try.func35 (by kernel_rfl) rfl) (fun W x m f _ => plus_any none 0 0 m x f W)).mono ?_; rintro e w7 ⟨rfl, f7⟩; rw [HV1.out]; have R7 := Lib.hid (R5.out.fr0 f7); have N7 := Lib.hid (N5.out.fr f7 (by simp)); clear f7; have z0 := R7.out.res.z 0; have y0 := R7.out.res.c0; have z1 := R7.out.res.z 1; have y1 := R7.out.res.c1; have z2 := R7.out.res.z 2; have y2 := R7.out.res.c2; obtain ⟨w8, e8, q0, q1, q2, f8, g8⟩ := R7.out.fin (.slice none 0 0) v1 b1; have S8 := Lib.hid (show (((w7.setCell ⟨w.heap.size + 1, 0, none⟩ (.slice none 0 0)).setCell ⟨w.heap.size + 1, 1, none⟩ (.int .i64 v1)).setCell ⟨w.heap.size + 1, 2, none⟩ (.bool b1)).cell? ⟨w.heap.size, 0, none⟩ = some (.int .i64 4) ∧ (((w7.setCell ⟨w.heap.size + 1, 0, none⟩ (.slice none 0 0)).setCell ⟨w.heap.size + 1, 1, none⟩ (.int .i64 v1)).setCell ⟨w.heap.size + 1, 2, none⟩ (.bool b1)).cell? ⟨w.heap.size, 1, none⟩ = some (.int .i64 t) ∧ (((w7.setCell ⟨w.heap.size + 1, 0, none⟩ (.slice none 0 0)).setCell ⟨w.heap.size + 1, 1, none⟩ (.int .i64 v1)).setCell ⟨w.heap.size + 1, 2, none⟩ (.bool b1)).cell? ⟨w.heap.size, 2, none⟩ = some (.int .i64 c) ∧ (((w7.setCell ⟨w.heap.size + 1, 0, none⟩ (.slice none 0 0)).setCell ⟨w.heap.size + 1, 1, none⟩ (.int .i64 v1)).setCell ⟨w.heap.size + 1, 2, none⟩ (.bool b1)).cell? ⟨w.heap.size, 3, none⟩ = some (.int .i64 lo) ∧ (((w7.setCell ⟨w.heap.size + 1, 0, none⟩ (.slice none 0 0)).setCell ⟨w.heap.size + 1, 1, none⟩ (.int .i64 v1)).setCell ⟨w.heap.size + 1, 2, none⟩ (.bool b1)).cell? ⟨w.heap.size, 4, none⟩ = some (.int .i64 hi) ∧ (((w7.setCell ⟨w.heap.size + 1, 0, none⟩ (.slice none 0 0)).setCell ⟨w.heap.size + 1, 1, none⟩ (.int .i64 v1)).setCell ⟨w.heap.size + 1, 2, none⟩ (.bool b1)).cell? ⟨w.heap.size, 5, none⟩ = some (.int .i64 b) ∧ (((w7.setCell ⟨w.heap.size + 1, 0, none⟩ (.slice none 0 0)).setCell ⟨w.heap.size + 1, 1, none⟩ (.int .i64 v1)).setCell ⟨w.heap.size + 1, 2, none⟩ (.bool b1)).cell? ⟨w.heap.size, 6, none⟩ = some (.int .i64 o) ∧ (((w7.setCell ⟨w.heap.size + 1, 0, none⟩ (.slice none 0 0)).setCell ⟨w.heap.size + 1, 1, none⟩ (.int .i64 v1)).setCell ⟨w.heap.size + 1, 2, none⟩ (.bool b1)).cell? ⟨gn, 0, none⟩ = some (.slice none 0 0) ∧ (((w7.setCell ⟨w.heap.size + 1, 0, none⟩ (.slice none 0 0)).setCell ⟨w.heap.size + 1, 1, none⟩ (.int .i64 v1)).setCell ⟨w.heap.size + 1, 2, none⟩ (.bool b1)).cell? ⟨gn, 1, none⟩ = some (.int .i64 0) ∧ (((w7.setCell ⟨w.heap.size + 1, 0, none⟩ (.slice none 0 0)).setCell ⟨w.heap.size + 1, 1, none⟩ (.int .i64 v1)).setCell ⟨w.heap.size + 1, 2, none⟩ (.bool b1)).cell? ⟨gn, 2, none⟩ = some (.bool false) from by rw [e8]; have B8 := R7.out.box.fr g8 (by simp); have M8 := N7.out.fr g8 (by simp; omega); exact ⟨B8.c0, B8.c1, B8.c2, B8.c3, B8.c4, B8.c5, B8.c6, M8.c0, M8.c1, M8.c2⟩); have E8 := Lib.hid e8; have Q8 := Lib.hid (And.intro q0 (And.intro q1 q2)); have F8 := Lib.hid f8; clear e8 q0 q1 q2 f8 g8))
    go_wp2_with fail
    have q0 := Q8.out.1
    have q1 := Q8.out.2.1
    have q2 := Q8.out.2.2
    rw [E8.out]
    exact bodyPost_ret (v := .agg #[.slice none 0 0, .int .i64 v1, .bool b1]) (by simp [results, Try.results21, go_sem, q0, q1, q2]) rfl ⟨_, by rw [Em.res_sum HVV.out rfl (by rw [← HN.out]; exact hl) (HSUM.out HVV.out (by simp)), HV1.out], by rw [Em.res_sum HVV.out rfl (by rw [← HN.out]; exact hl) (HSUM.out HVV.out (by simp))]; exact ⟨OwnL.nil, F8.out, by simp [Value.ownBlock]⟩⟩
  by_cases k5 : k = 5
  · subst k5
    obtain ⟨⟨v1, b1⟩, HV1⟩ : ∃ p, Hid (foldS (exG ltI) (Em.meas ⟨5, t, c, lo, hi, b, o⟩ rows) (0, false) = p) := ⟨_, Lib.hid rfl⟩
    have Rd := Lib.hid (R4.out.fr0 (Fr.refl [] w4).drew)
    have Nd := Lib.hid (HNN.out.fr (Fr.refl [] w4).drew (by simp))
    go_upto_region 10 with (fail)
    go_region_held3 (fun w' => w'.cell? ⟨w.heap.size, 0, none⟩ = some (.int .i64 5) ∧ w'.cell? ⟨w.heap.size, 1, none⟩ = some (.int .i64 t) ∧ w'.cell? ⟨w.heap.size, 2, none⟩ = some (.int .i64 c) ∧ w'.cell? ⟨w.heap.size, 3, none⟩ = some (.int .i64 lo) ∧ w'.cell? ⟨w.heap.size, 4, none⟩ = some (.int .i64 hi) ∧ w'.cell? ⟨w.heap.size, 5, none⟩ = some (.int .i64 b) ∧ w'.cell? ⟨w.heap.size, 6, none⟩ = some (.int .i64 o) ∧ w'.cell? ⟨gn, 0, none⟩ = some (.slice none 0 0) ∧ w'.cell? ⟨gn, 1, none⟩ = some (.int .i64 0) ∧ w'.cell? ⟨gn, 2, none⟩ = some (.bool false))
      (first | exact ⟨Rd.out.box.c0, Rd.out.box.c1, Rd.out.box.c2, Rd.out.box.c3, Rd.out.box.c4, Rd.out.box.c5, Rd.out.box.c6, Nd.out.c0, Nd.out.c1, Nd.out.c2⟩ | exact ⟨R5.out.box.c0, R5.out.box.c1, R5.out.box.c2, R5.out.box.c3, R5.out.box.c4, R5.out.box.c5, R5.out.box.c6, N5.out.c0, N5.out.c1, N5.out.c2⟩ | exact ⟨R6.out.box.c0, R6.out.box.c1, R6.out.box.c2, R6.out.box.c3, R6.out.box.c4, R6.out.box.c5, R6.out.box.c6, N6.out.c0, N6.out.c1, N6.out.c2⟩ | exact ⟨R7.out.box.c0, R7.out.box.c1, R7.out.box.c2, R7.out.box.c3, R7.out.box.c4, R7.out.box.c5, R7.out.box.c6, N7.out.c0, N7.out.c1, N7.out.c2⟩ | exact S8.out)
      (first
        | (go_at_call 34; refine (measures_any ⟨5, t, c, lo, hi, b, o⟩ A n cap rows _ (HX4.out.fr (Fr.refl [] w4).drew (by simp)) HN.out hl).mono ?_; rintro e w5 ⟨A2, c2, rfl, ho2, f2, -⟩; have HI := Lib.hid (IntRow.of_own ho2); have R5 := Lib.hid (Rd.out.fr0 f2); have N5 := Lib.hid (Nd.out.fr f2 (by simp)); clear ho2 f2)
        | (go_at_call 36; refine (extreme_any 37 w5).mono ?_; rintro e w6 ⟨rfl, hb6, f6⟩; have H6 := Lib.hid hb6; have HI6 := Lib.hid (HI.out.1.fr0 f6); have R6 := Lib.hid (R5.out.fr0 f6); have N6 := Lib.hid (N5.out.fr f6 (by simp)); clear hb6 f6)
        | (go_at_call 33; refine (foldI_any 48 #[.pointer (some ⟨w5.heap.size, 0, none⟩)] ((exG ltI)) A2 n c2 (Em.meas ⟨5, t, c, lo, hi, b, o⟩ rows) none 0 0 0 false w6 HI6.out HI.out.2 hl (enters_of Try.func48 (by kernel_rfl) rfl) (fun W x m f hf => extreme1_any 37 w5.heap.size ltI none 0 0 m x f W (H6.out.fr hf (by simp)) (enters_of Try.func37 (by kernel_rfl) rfl) less_any)).mono ?_; rintro e w7 ⟨rfl, f7⟩; rw [HV1.out]; have R7 := Lib.hid (R6.out.fr0 f7); have N7 := Lib.hid (N6.out.fr f7 (by simp)); clear f7; have z0 := R7.out.res.z 0; have y0 := R7.out.res.c0; have z1 := R7.out.res.z 1; have y1 := R7.out.res.c1; have z2 := R7.out.res.z 2; have y2 := R7.out.res.c2; obtain ⟨w8, e8, q0, q1, q2, f8, g8⟩ := R7.out.fin (.slice none 0 0) v1 b1; have S8 := Lib.hid (show (((w7.setCell ⟨w.heap.size + 1, 0, none⟩ (.slice none 0 0)).setCell ⟨w.heap.size + 1, 1, none⟩ (.int .i64 v1)).setCell ⟨w.heap.size + 1, 2, none⟩ (.bool b1)).cell? ⟨w.heap.size, 0, none⟩ = some (.int .i64 5) ∧ (((w7.setCell ⟨w.heap.size + 1, 0, none⟩ (.slice none 0 0)).setCell ⟨w.heap.size + 1, 1, none⟩ (.int .i64 v1)).setCell ⟨w.heap.size + 1, 2, none⟩ (.bool b1)).cell? ⟨w.heap.size, 1, none⟩ = some (.int .i64 t) ∧ (((w7.setCell ⟨w.heap.size + 1, 0, none⟩ (.slice none 0 0)).setCell ⟨w.heap.size + 1, 1, none⟩ (.int .i64 v1)).setCell ⟨w.heap.size + 1, 2, none⟩ (.bool b1)).cell? ⟨w.heap.size, 2, none⟩ = some (.int .i64 c) ∧ (((w7.setCell ⟨w.heap.size + 1, 0, none⟩ (.slice none 0 0)).setCell ⟨w.heap.size + 1, 1, none⟩ (.int .i64 v1)).setCell ⟨w.heap.size + 1, 2, none⟩ (.bool b1)).cell? ⟨w.heap.size, 3, none⟩ = some (.int .i64 lo) ∧ (((w7.setCell ⟨w.heap.size + 1, 0, none⟩ (.slice none 0 0)).setCell ⟨w.heap.size + 1, 1, none⟩ (.int .i64 v1)).setCell ⟨w.heap.size + 1, 2, none⟩ (.bool b1)).cell? ⟨w.heap.size, 4, none⟩ = some (.int .i64 hi) ∧ (((w7.setCell ⟨w.heap.size + 1, 0, none⟩ (.slice none 0 0)).setCell ⟨w.heap.size + 1, 1, none⟩ (.int .i64 v1)).setCell ⟨w.heap.size + 1, 2, none⟩ (.bool b1)).cell? ⟨w.heap.size, 5, none⟩ = some (.int .i64 b) ∧ (((w7.setCell ⟨w.heap.size + 1, 0, none⟩ (.slice none 0 0)).setCell ⟨w.heap.size + 1, 1, none⟩ (.int .i64 v1)).setCell ⟨w.heap.size + 1, 2, none⟩ (.bool b1)).cell? ⟨w.heap.size, 6, none⟩ = some (.int .i64 o) ∧ (((w7.setCell ⟨w.heap.size + 1, 0, none⟩ (.slice none 0 0)).setCell ⟨w.heap.size + 1, 1, none⟩ (.int .i64 v1)).setCell ⟨w.heap.size + 1, 2, none⟩ (.bool b1)).cell? ⟨gn, 0, none⟩ = some (.slice none 0 0) ∧ (((w7.setCell ⟨w.heap.size + 1, 0, none⟩ (.slice none 0 0)).setCell ⟨w.heap.size + 1, 1, none⟩ (.int .i64 v1)).setCell ⟨w.heap.size + 1, 2, none⟩ (.bool b1)).cell? ⟨gn, 1, none⟩ = some (.int .i64 0) ∧ (((w7.setCell ⟨w.heap.size + 1, 0, none⟩ (.slice none 0 0)).setCell ⟨w.heap.size + 1, 1, none⟩ (.int .i64 v1)).setCell ⟨w.heap.size + 1, 2, none⟩ (.bool b1)).cell? ⟨gn, 2, none⟩ = some (.bool false) from by rw [e8]; have B8 := R7.out.box.fr g8 (by simp); have M8 := N7.out.fr g8 (by simp; omega); exact ⟨B8.c0, B8.c1, B8.c2, B8.c3, B8.c4, B8.c5, B8.c6, M8.c0, M8.c1, M8.c2⟩); have E8 := Lib.hid e8; have Q8 := Lib.hid (And.intro q0 (And.intro q1 q2)); have F8 := Lib.hid f8; clear e8 q0 q1 q2 f8 g8))
    go_wp2_with fail
    have q0 := Q8.out.1
    have q1 := Q8.out.2.1
    have q2 := Q8.out.2.2
    rw [E8.out]
    exact bodyPost_ret (v := .agg #[.slice none 0 0, .int .i64 v1, .bool b1]) (by simp [results, Try.results21, go_sem, q0, q1, q2]) rfl ⟨_, by rw [Em.res_min HVV.out rfl, HV1.out], by rw [Em.res_min HVV.out rfl]; exact ⟨OwnL.nil, F8.out, by simp [Value.ownBlock]⟩⟩
  by_cases k6 : k = 6
  · subst k6
    obtain ⟨⟨v1, b1⟩, HV1⟩ : ∃ p, Hid (foldS (exG gtI) (Em.meas ⟨6, t, c, lo, hi, b, o⟩ rows) (0, false) = p) := ⟨_, Lib.hid rfl⟩
    have Rd := Lib.hid (R4.out.fr0 (Fr.refl [] w4).drew)
    have Nd := Lib.hid (HNN.out.fr (Fr.refl [] w4).drew (by simp))
    go_upto_region 12 with (fail)
    go_region_held3 (fun w' => w'.cell? ⟨w.heap.size, 0, none⟩ = some (.int .i64 6) ∧ w'.cell? ⟨w.heap.size, 1, none⟩ = some (.int .i64 t) ∧ w'.cell? ⟨w.heap.size, 2, none⟩ = some (.int .i64 c) ∧ w'.cell? ⟨w.heap.size, 3, none⟩ = some (.int .i64 lo) ∧ w'.cell? ⟨w.heap.size, 4, none⟩ = some (.int .i64 hi) ∧ w'.cell? ⟨w.heap.size, 5, none⟩ = some (.int .i64 b) ∧ w'.cell? ⟨w.heap.size, 6, none⟩ = some (.int .i64 o) ∧ w'.cell? ⟨gn, 0, none⟩ = some (.slice none 0 0) ∧ w'.cell? ⟨gn, 1, none⟩ = some (.int .i64 0) ∧ w'.cell? ⟨gn, 2, none⟩ = some (.bool false))
      (first | exact ⟨Rd.out.box.c0, Rd.out.box.c1, Rd.out.box.c2, Rd.out.box.c3, Rd.out.box.c4, Rd.out.box.c5, Rd.out.box.c6, Nd.out.c0, Nd.out.c1, Nd.out.c2⟩ | exact ⟨R5.out.box.c0, R5.out.box.c1, R5.out.box.c2, R5.out.box.c3, R5.out.box.c4, R5.out.box.c5, R5.out.box.c6, N5.out.c0, N5.out.c1, N5.out.c2⟩ | exact ⟨R6.out.box.c0, R6.out.box.c1, R6.out.box.c2, R6.out.box.c3, R6.out.box.c4, R6.out.box.c5, R6.out.box.c6, N6.out.c0, N6.out.c1, N6.out.c2⟩ | exact ⟨R7.out.box.c0, R7.out.box.c1, R7.out.box.c2, R7.out.box.c3, R7.out.box.c4, R7.out.box.c5, R7.out.box.c6, N7.out.c0, N7.out.c1, N7.out.c2⟩ | exact S8.out)
      (first
        | (go_at_call 34; refine (measures_any ⟨6, t, c, lo, hi, b, o⟩ A n cap rows _ (HX4.out.fr (Fr.refl [] w4).drew (by simp)) HN.out hl).mono ?_; rintro e w5 ⟨A2, c2, rfl, ho2, f2, -⟩; have HI := Lib.hid (IntRow.of_own ho2); have R5 := Lib.hid (Rd.out.fr0 f2); have N5 := Lib.hid (Nd.out.fr f2 (by simp)); clear ho2 f2)
        | (go_at_call 36; refine (extreme_any 38 w5).mono ?_; rintro e w6 ⟨rfl, hb6, f6⟩; have H6 := Lib.hid hb6; have HI6 := Lib.hid (HI.out.1.fr0 f6); have R6 := Lib.hid (R5.out.fr0 f6); have N6 := Lib.hid (N5.out.fr f6 (by simp)); clear hb6 f6)
        | (go_at_call 33; refine (foldI_any 48 #[.pointer (some ⟨w5.heap.size, 0, none⟩)] ((exG gtI)) A2 n c2 (Em.meas ⟨6, t, c, lo, hi, b, o⟩ rows) none 0 0 0 false w6 HI6.out HI.out.2 hl (enters_of Try.func48 (by kernel_rfl) rfl) (fun W x m f hf => extreme1_any 38 w5.heap.size gtI none 0 0 m x f W (H6.out.fr hf (by simp)) (enters_of Try.func38 (by kernel_rfl) rfl) more_any)).mono ?_; rintro e w7 ⟨rfl, f7⟩; rw [HV1.out]; have R7 := Lib.hid (R6.out.fr0 f7); have N7 := Lib.hid (N6.out.fr f7 (by simp)); clear f7; have z0 := R7.out.res.z 0; have y0 := R7.out.res.c0; have z1 := R7.out.res.z 1; have y1 := R7.out.res.c1; have z2 := R7.out.res.z 2; have y2 := R7.out.res.c2; obtain ⟨w8, e8, q0, q1, q2, f8, g8⟩ := R7.out.fin (.slice none 0 0) v1 b1; have S8 := Lib.hid (show (((w7.setCell ⟨w.heap.size + 1, 0, none⟩ (.slice none 0 0)).setCell ⟨w.heap.size + 1, 1, none⟩ (.int .i64 v1)).setCell ⟨w.heap.size + 1, 2, none⟩ (.bool b1)).cell? ⟨w.heap.size, 0, none⟩ = some (.int .i64 6) ∧ (((w7.setCell ⟨w.heap.size + 1, 0, none⟩ (.slice none 0 0)).setCell ⟨w.heap.size + 1, 1, none⟩ (.int .i64 v1)).setCell ⟨w.heap.size + 1, 2, none⟩ (.bool b1)).cell? ⟨w.heap.size, 1, none⟩ = some (.int .i64 t) ∧ (((w7.setCell ⟨w.heap.size + 1, 0, none⟩ (.slice none 0 0)).setCell ⟨w.heap.size + 1, 1, none⟩ (.int .i64 v1)).setCell ⟨w.heap.size + 1, 2, none⟩ (.bool b1)).cell? ⟨w.heap.size, 2, none⟩ = some (.int .i64 c) ∧ (((w7.setCell ⟨w.heap.size + 1, 0, none⟩ (.slice none 0 0)).setCell ⟨w.heap.size + 1, 1, none⟩ (.int .i64 v1)).setCell ⟨w.heap.size + 1, 2, none⟩ (.bool b1)).cell? ⟨w.heap.size, 3, none⟩ = some (.int .i64 lo) ∧ (((w7.setCell ⟨w.heap.size + 1, 0, none⟩ (.slice none 0 0)).setCell ⟨w.heap.size + 1, 1, none⟩ (.int .i64 v1)).setCell ⟨w.heap.size + 1, 2, none⟩ (.bool b1)).cell? ⟨w.heap.size, 4, none⟩ = some (.int .i64 hi) ∧ (((w7.setCell ⟨w.heap.size + 1, 0, none⟩ (.slice none 0 0)).setCell ⟨w.heap.size + 1, 1, none⟩ (.int .i64 v1)).setCell ⟨w.heap.size + 1, 2, none⟩ (.bool b1)).cell? ⟨w.heap.size, 5, none⟩ = some (.int .i64 b) ∧ (((w7.setCell ⟨w.heap.size + 1, 0, none⟩ (.slice none 0 0)).setCell ⟨w.heap.size + 1, 1, none⟩ (.int .i64 v1)).setCell ⟨w.heap.size + 1, 2, none⟩ (.bool b1)).cell? ⟨w.heap.size, 6, none⟩ = some (.int .i64 o) ∧ (((w7.setCell ⟨w.heap.size + 1, 0, none⟩ (.slice none 0 0)).setCell ⟨w.heap.size + 1, 1, none⟩ (.int .i64 v1)).setCell ⟨w.heap.size + 1, 2, none⟩ (.bool b1)).cell? ⟨gn, 0, none⟩ = some (.slice none 0 0) ∧ (((w7.setCell ⟨w.heap.size + 1, 0, none⟩ (.slice none 0 0)).setCell ⟨w.heap.size + 1, 1, none⟩ (.int .i64 v1)).setCell ⟨w.heap.size + 1, 2, none⟩ (.bool b1)).cell? ⟨gn, 1, none⟩ = some (.int .i64 0) ∧ (((w7.setCell ⟨w.heap.size + 1, 0, none⟩ (.slice none 0 0)).setCell ⟨w.heap.size + 1, 1, none⟩ (.int .i64 v1)).setCell ⟨w.heap.size + 1, 2, none⟩ (.bool b1)).cell? ⟨gn, 2, none⟩ = some (.bool false) from by rw [e8]; have B8 := R7.out.box.fr g8 (by simp); have M8 := N7.out.fr g8 (by simp; omega); exact ⟨B8.c0, B8.c1, B8.c2, B8.c3, B8.c4, B8.c5, B8.c6, M8.c0, M8.c1, M8.c2⟩); have E8 := Lib.hid e8; have Q8 := Lib.hid (And.intro q0 (And.intro q1 q2)); have F8 := Lib.hid f8; clear e8 q0 q1 q2 f8 g8))
    go_wp2_with fail
    have q0 := Q8.out.1
    have q1 := Q8.out.2.1
    have q2 := Q8.out.2.2
    rw [E8.out]
    exact bodyPost_ret (v := .agg #[.slice none 0 0, .int .i64 v1, .bool b1]) (by simp [results, Try.results21, go_sem, q0, q1, q2]) rfl ⟨_, by rw [Em.res_max HVV.out rfl, HV1.out], by rw [Em.res_max HVV.out rfl]; exact ⟨OwnL.nil, F8.out, by simp [Value.ownBlock]⟩⟩
  by_cases k7 : k = 7
  · subst k7
    have HJ := Lib.hid (joined_any ⟨7, t, c, lo, hi, b, o⟩ A n cap rows B m capB others w4 HX4.out HN.out hl HY4.out HM.out hlm (HK1.out HVV.out) HK2.out)
    go_wp2_with (go_at_call 39; refine HJ.out.mono ?_; rintro e w5 ⟨v, rfl, ho, f5, hnew⟩; obtain ⟨A5, n5, c5, hv5⟩ : ∃ A n c, v = .slice A n c := (match ho.val with | ⟨_, _, hv⟩ => ⟨_, _, _, hv⟩); subst hv5; have R5 := Lib.hid (R4.out.fr0 f5); have HO5 := Lib.hid ho; have HW5 := Lib.hid hnew; clear f5 ho hnew; have z0 := R5.out.res.z 0; have y0 := R5.out.res.c0; have z1 := R5.out.res.z 1; have y1 := R5.out.res.c1; have z2 := R5.out.res.z 2; have y2 := R5.out.res.c2)
    obtain ⟨w6, e6, q0, q1, q2, f6, g6⟩ := R5.out.fin (.slice A5 n5 c5) 0 false
    rw [e6]
    exact bodyPost_ret (v := .agg #[(.slice A5 n5 c5), .int .i64 0, .bool false]) (by simp [results, Try.results21, go_sem, q0, q1, q2]) rfl ⟨_, by rw [Em.res_join HVV.out rfl], by rw [Em.res_join HVV.out rfl]; exact ⟨HO5.out.fr g6 (fun g hg => by have h1 := HW5.out g hg; have h2 := HS4.out; simp only [List.mem_singleton]; omega), f6, fun g hg => by have h1 := HW5.out g hg; have h2 := HS4.out; omega⟩⟩
  have HC := Lib.hid (rclone_any A n cap rows w4 HX4.out HN.out hl)
  have e3 : (k == 3) = false := by simp [k3]
  have e4 : (k == 4) = false := by simp [k4]
  have e5 : (k == 5) = false := by simp [k5]
  have e6 : (k == 6) = false := by simp [k6]
  have e7 : (k == 7) = false := by simp [k7]
  go_wp2_with (go_at_call 40; refine HC.out.mono ?_; rintro e w5 ⟨v, rfl, ho, f5, hnew⟩; obtain ⟨A5, n5, c5, hv5⟩ : ∃ A n c, v = .slice A n c := (match ho.val with | ⟨_, _, hv⟩ => ⟨_, _, _, hv⟩); subst hv5; have R5 := Lib.hid (R4.out.fr0 f5); have HO5 := Lib.hid ho; have HW5 := Lib.hid hnew; clear f5 ho hnew; have z0 := R5.out.res.z 0; have y0 := R5.out.res.c0; have z1 := R5.out.res.z 1; have y1 := R5.out.res.c1; have z2 := R5.out.res.z 2; have y2 := R5.out.res.c2)
  obtain ⟨w6, e6, q0, q1, q2, f6, g6⟩ := R5.out.fin (.slice A5 n5 c5) 0 false
  rw [e6]
  exact bodyPost_ret (v := .agg #[(.slice A5 n5 c5), .int .i64 0, .bool false]) (by simp [results, Try.results21, go_sem, q0, q1, q2]) rfl ⟨_, by rw [Em.res_rows HVV.out k3 k4 k5 k6 k7], by rw [Em.res_rows HVV.out k3 k4 k5 k6 k7]; exact ⟨HO5.out.fr g6 (fun g hg => by have h1 := HW5.out g hg; have h2 := HS4.out; simp only [List.mem_singleton]; omega), f6, fun g hg => by have h1 := HW5.out g hg; have h2 := HS4.out; omega⟩⟩
end Go.Proofs.Ythiaaminkfkjpaa
