/-
  PACKAGE gap IN PLAIN LEAN: what a receiver does.
-/
import Derived.Test.YtfbhdmppddledaaRec
namespace Go.Proofs.Ytfbhdmppddledaa.Gm

structure Rcv where
  pos : Int
  high : Int
  L : List (Int × Rec)

def mx (a b : Int) : Int := if a < b then b else a
def new (p : Int) : Rcv := ⟨p, p, []⟩
/-- Whether a record is taken up as valid and new. -/
def sees (c : Rcv) (r : Rec) : Bool := Rw.valid r && decide (c.pos < r.p)
/-- Whether it then waits. -/
def keeps (c : Rcv) (r : Rec) : Bool := (mget c.L r.p).isNone && decide (r.p - c.pos ≤ 256)
def kept (c : Rcv) (r : Rec) : Rcv := ⟨c.pos, c.high, if keeps c r = true then mput c.L r.p r else c.L⟩
def receive (c : Rcv) (r : Rec) : Rcv := if sees c r = true then kept ⟨c.pos, mx c.high r.p, c.L⟩ r else c
def took (c : Rcv) (r : Rec) : Bool := sees c r && keeps c r
def announce (c : Rcv) (p : Int) : Rcv := if p ≤ 10000 then { c with high := mx c.high p } else c
/-- What 'Take' hands out in at most n rounds, and what is left. -/
def take : Nat → Rcv → List Rec × Rcv
  | 0, c => ([], c)
  | n + 1, c => match mget c.L (c.pos + 1) with
    | none => ([], c)
    | some r => (r :: (take n ⟨r.p, c.high, mdel c.L r.p⟩).1, (take n ⟨r.p, c.high, mdel c.L r.p⟩).2)
/-- A span widened by a position, or a new one. -/
def widen (l : List (Int × Int)) (p : Int) : List (Int × Int) :=
  match l.getLast? with
  | some x => if x.2 = p - 1 then l.dropLast ++ [(x.1, p)] else l ++ [(p, p)]
  | none => [(p, p)]
/-- The missing spans among the next n positions behind p. -/
def missing (L : List (Int × Rec)) (p : Int) : Nat → List (Int × Int)
  | 0 => []
  | n + 1 => if (mget L (p + n + 1)).isSome = true then missing L p n else widen (missing L p n) (p + n + 1)

/-- What a receiver keeps to. -/
structure Ok (c : Rcv) : Prop where
  p0 : 0 ≤ c.pos
  ph : c.pos ≤ c.high
  hi : c.high ≤ 10000
  key : ∀ e ∈ c.L, e.1 = e.2.p ∧ c.pos < e.1 ∧ e.1 ≤ c.high ∧ e.1 - c.pos ≤ 256
  nd : Nd c.L
end Go.Proofs.Ytfbhdmppddledaa.Gm
