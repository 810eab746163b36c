/-
  A REGION THAT DRAWS ITS ORDER, whose operations read what is old and whose callees only make memory: walked once, in the text's order, in the class of the worlds that lie behind a given one.
-/
import Derived.Test.YtlicjokgcahmlaaBase
import Derived.BigQuiet
namespace Go.Proofs.Ytlicjokgcahmlaa

/-- A world behind W: what is old there is as it was. -/
structure Later (W : World) where
  w : World
  fr : Fr [] W w
instance (W : World) : Nonempty (Later W) := ⟨⟨W, Fr.refl [] W⟩⟩
theorem Later.cell {W : World} (p : Later W) {b o : Nat} {v : Value} (hb : b < W.heap.size) (h : W.cell? ⟨b, o, none⟩ = some v) : p.w.cell? ⟨b, o, none⟩ = some v := (p.fr.rules.1 b o hb).trans h
theorem Later.calls {P : Program} {f : FuncId} {args : Array Value} {W : World} {v : Value} {p : Later W} (h : Calls P f args p.w fun e w' => e = .returned v ∧ Fr [] p.w w') :
    Calls P f args p.w fun e w'' => e = .returned v ∧ ∃ q : Later W, w'' = q.w :=
  h.mono fun _ w' hh => ⟨hh.1, ⟨w', p.fr.trans hh.2⟩, rfl⟩
theorem wp_region_later {P : Program} {id : Nat} {Q : Exit → Act → World → Prop} {a : Act} {w : World} {l : List Oper} (hm : P.follows .mixedOrders = true) (hB : Region.lexB .any l.toArray = true)
    (h : wpQuiet P l.toArray (fun w' => ∃ p : Later w, w' = p.w) (fun a' => ∀ w', (∃ p : Later w, w' = p.w) → Q .normal a' w') l a) : (Code.region id l.toArray true).wp P Q a w :=
  wp_region_quiet (C := fun w' => ∃ p : Later w, w' = p.w) hm hB ⟨⟨_, (Fr.refl [] w).drew⟩, rfl⟩ (by simpa using h)
end Go.Proofs.Ytlicjokgcahmlaa
