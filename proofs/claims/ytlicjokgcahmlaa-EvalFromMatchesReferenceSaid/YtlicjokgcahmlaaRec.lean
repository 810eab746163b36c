/-
  PACKAGE row: rows, changes and records in plain Lean.
-/
import Derived.Test.YtlicjokgcahmlaaRow2
namespace Go.Proofs.Ytlicjokgcahmlaa

structure Chg where
  t : Int
  k : Int
  had : Bool
  o0 : Int
  o1 : Int
  o2 : Int
  has : Bool
  n0 : Int
  n1 : Int
  n2 : Int
  deriving DecidableEq

/-- The cells of a change. -/
def Chg.cells (c : Chg) : List Value := [.int .i64 c.t, .int .i64 c.k, .bool c.had, .int .i64 c.o0, .int .i64 c.o1, .int .i64 c.o2, .bool c.has, .int .i64 c.n0, .int .i64 c.n1, .int .i64 c.n2]
theorem Chg.len (c : Chg) : c.cells.length = 10 := rfl
theorem Chg.one (c : Chg) : ∀ u ∈ c.cells, u.oneCell' = true := by
  intro u hu
  simp only [Chg.cells, List.mem_cons, List.not_mem_nil, or_false] at hu
  rcases hu with rfl | rfl | rfl | rfl | rfl | rfl | rfl | rfl | rfl | rfl <;> rfl

structure Rec where
  p : Int
  cs : List Chg
  deriving DecidableEq

namespace Rw
def inI (lo hi x : Int) : Bool := decide (lo ≤ x ∧ x ≤ hi)
def row (t k a b c : Int) : Bool := inI 0 3 t && inI 1 1000000 k && (inI (-1000000000) 1000000000 a && inI (-1000000000) 1000000000 b && inI (-1000000000) 1000000000 c)
def sound (t k : Int) (there : Bool) (a b c : Int) : Bool := if there = true then row t k a b c else decide (a = 0 ∧ b = 0 ∧ c = 0)
def differs (c : Chg) : Bool := decide (c.o0 ≠ c.n0 ∨ c.o1 ≠ c.n1 ∨ c.o2 ≠ c.n2)
def turns (c : Chg) : Bool := c.had != c.has || c.had && differs c
def chg (c : Chg) : Bool := turns c && sound c.t c.k c.had c.o0 c.o1 c.o2 && sound c.t c.k c.has c.n0 c.n1 c.n2
/-- Behind a change of table lt and key lk. -/
def behind (lt lk : Int) (c : Chg) : Bool := decide (lt < c.t ∨ (lt = c.t ∧ lk < c.k))
def chgs (lt lk : Int) : List Chg → Bool
  | [] => true
  | c :: cs => chg c && behind lt lk c && chgs c.t c.k cs
def valid (r : Rec) : Bool := inI 1 10000 r.p && inI 1 8 r.cs.length && chgs (-1) 0 r.cs
end Rw
end Go.Proofs.Ytlicjokgcahmlaa
