/-
  EvalLocal: the walk of the law.
-/
import Derived.Test.YthiaaminkfkjpaaEbh
namespace Go.Proofs.Ythiaaminkfkjpaa
open Go.RowKit

theorem sat_n (A : Option Addr) (n cap : Nat) (l : List Rec) (p : Int) (k : Nat) (w : World) (h : RecsAt w A l) (hn : n = l.length) (hl : l.length ≤ 1000) (hp : p = k) (hk : k ≤ l.length) (hlc : n ≤ cap) (hok : ∀ i (h : i < l.length), Sm.fits (Lg.run (l.take i)) l[i] = true) :
    Calls Try.prog 8 #[.slice A n cap, .int .i64 p] w fun e w' => ∃ b m, e = .returned (.tuple #[.pointer (some ⟨b, 0, none⟩), .int .i64 0]) ∧ StaAt w' b m (Lg.run (l.take k)) ∧ Fr [] w w' := by
  subst hn hp
  exact (sat_ok A cap l k w h hl hk hlc (fun i h _ => hok i h)).mono fun e w' ⟨b, m, h1, h2, h3, _⟩ => ⟨b, m, h1, h2, h3⟩
/-- A change's cells where the record's changes lie. -/
theorem HoldsC.one {w : World} {A : Option Addr} {c : Chg} (h : HoldsC w A [c]) : ∃ b off, A = some ⟨b, off, none⟩ ∧ b < w.heap.size ∧ w.cell? ⟨b, off, none⟩ = some (.int .i64 c.t) ∧ w.cell? ⟨b, off + 1, none⟩ = some (.int .i64 c.k) ∧ w.cell? ⟨b, off + 2, none⟩ = some (.bool c.had) ∧ w.cell? ⟨b, off + 3, none⟩ = some (.int .i64 c.o0) ∧ w.cell? ⟨b, off + 4, none⟩ = some (.int .i64 c.o1) ∧
    w.cell? ⟨b, off + 5, none⟩ = some (.int .i64 c.o2) ∧ w.cell? ⟨b, off + 6, none⟩ = some (.bool c.has) ∧ w.cell? ⟨b, off + 7, none⟩ = some (.int .i64 c.n0) ∧ w.cell? ⟨b, off + 8, none⟩ = some (.int .i64 c.n1) ∧ w.cell? ⟨b, off + 9, none⟩ = some (.int .i64 c.n2) := by
  obtain ⟨b, off, e, hb, hc⟩ := h.1 (by simp)
  refine ⟨b, off, e, hb, ?_⟩
  have h0 := hc 0 (by simp)
  exact ⟨h0 0 (by decide), h0 1 (by decide), h0 2 (by decide), h0 3 (by decide), h0 4 (by decide), h0 5 (by decide), h0 6 (by decide), h0 7 (by decide), h0 8 (by decide), h0 9 (by decide)⟩

end Go.Proofs.Ythiaaminkfkjpaa
