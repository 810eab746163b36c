/-
  PACKAGE store IN PLAIN LEAN: what a state keeps.
-/
import Derived.Test.YtlicjokgcahmlaaRec
import Derived.Test.YtlicjokgcahmlaaOk
namespace Go.Proofs.Ytlicjokgcahmlaa

/-- A row. -/
structure RowV where
  t : Int
  k : Int
  x : Int
  y : Int
  z : Int
  deriving DecidableEq
@[reducible] def RowV.val (r : RowV) : Value := .agg #[.int .i64 r.t, .int .i64 r.k, .int .i64 r.x, .int .i64 r.y, .int .i64 r.z]
/-- What identifies a row: integers that fit. -/
abbrev IdK := { x : Int × Int // okI x.1 ∧ okI x.2 }
@[reducible] def IdK.val (x : IdK) : Value := .agg #[.int .i64 x.1.1, .int .i64 x.1.2]

instance (x : Int) : Decidable (okI x) := inferInstanceAs (Decidable ((Lit.int .i64 x).wf = true))
/-- The key that a change is about. -/
def idOf (t k : Int) : IdK := if h : okI t ∧ okI k then ⟨(t, k), h⟩ else ⟨(0, 0), okI_mk (by decide) (by decide), okI_mk (by decide) (by decide)⟩
theorem idOf_val {t k : Int} (h1 : okI t) (h2 : okI k) : (idOf t k).1 = (t, k) := by
  unfold idOf
  rw [dif_pos ⟨h1, h2⟩]

namespace Sm
structure Sta where
  M : List (IdK × RowV)
  pos : Int

def new : Sta := ⟨[], 0⟩
/-- Whether a change meets what is there. -/
def meets (M : List (IdK × RowV)) (c : Chg) : Bool := match mget M (idOf c.t c.k) with
  | some r => c.had && decide (r.x = c.o0 ∧ r.y = c.o1 ∧ r.z = c.o2)
  | none => !c.had
def grow (n : Int) (c : Chg) : Int := (if c.had = true then n - 1 else n) + (if c.has = true then 1 else 0)
def after (c : Chg) : RowV := ⟨c.t, c.k, c.n0, c.n1, c.n2⟩
def put1 (M : List (IdK × RowV)) (c : Chg) : List (IdK × RowV) := if c.has = true then mput M (idOf c.t c.k) (after c) else mdel M (idOf c.t c.k)
/-- The changes' part of 'fits', from a size on. -/
def fitsGo (M : List (IdK × RowV)) (n : Int) : List Chg → Bool
  | [] => decide (n ≤ 2000)
  | c :: cs => meets M c && fitsGo M (grow n c) cs
def fits (s : Sta) (r : Rec) : Bool := Rw.valid r && decide (r.p = s.pos + 1) && fitsGo s.M s.M.length r.cs
def apply (s : Sta) (r : Rec) : Sta := if fits s r = true then ⟨r.cs.foldl put1 s.M, r.p⟩ else s
def code (s : Sta) (r : Rec) : Int := if fits s r = true then 0 else 40
/-- What a state keeps to. -/
structure Ok (s : Sta) : Prop where
  p0 : 0 ≤ s.pos
  p1 : s.pos ≤ 10000
  nd : Nd s.M
  key : ∀ e ∈ s.M, e.1.1 = (e.2.t, e.2.k)
  len : s.M.length ≤ 2000
end Sm
end Go.Proofs.Ytlicjokgcahmlaa
