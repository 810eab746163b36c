/-
  Records with their changes, as elements of a row.
-/
import Derived.Test.YthiaaminkfkjpaaEam
import Derived.Test.YthiaaminkfkjpaaEaf
namespace Go.Proofs.Ythiaaminkfkjpaa
open Go.RowKit

/-- A record that waits: what it is, and where its changes lie. -/
structure WRec where
  r : Rec
  A : Option Addr
  cap : Nat
@[reducible] def WRec.val (v : WRec) : Value := .agg #[.int .i64 v.r.p, .slice v.A v.r.cs.length v.cap]
def WRec.cells (u : WRec) : List Value := [.int .i64 u.r.p, .slice u.A u.r.cs.length u.cap]
theorem WRec.len (u : WRec) : u.cells.length = 2 := rfl
theorem WRec.one (u : WRec) : ∀ v ∈ u.cells, v.oneCell' = true := by
  intro v hv
  simp only [WRec.cells, List.mem_cons, List.not_mem_nil, or_false] at hv
  rcases hv with rfl | rfl <;> rfl
/-- v is a row that holds the records out. -/
def OwnR (w : World) (v : Value) (out : List Rec) : Prop := ∃ us : List WRec, OwnL 38 2 WRec.cells w v us ∧ us.map (·.r) = out ∧ ∀ u ∈ us, HoldsC w u.A u.r.cs ∧ u.r.cs.length ≤ 8
theorem OwnR.nil (w : World) : OwnR w (.slice none 0 0) [] := ⟨[], OwnL.nil, rfl, by simp⟩
theorem OwnR.fr {w w' : World} {v : Value} {out : List Rec} {S : List Nat} (h : OwnR w v out) (hf : Fr S w w') (hs : ∀ g, v.ownBlock = some g → g ∉ S) (hn : NoC w S) : OwnR w' v out := by
  obtain ⟨us, h1, h2, h3⟩ := h
  exact ⟨us, h1.fr hf hs, h2, fun u hu => ⟨(h3 u hu).1.fr hf hn, (h3 u hu).2⟩⟩
theorem OwnL.ne_map {X K V : Type} {e size : Nat} {enc : X → List Value} {w : World} {v : Value} {L : List X} {P : Program} {k : TypeId} {kl : K → Lit} {ev : V → Value} {b : Nat} {M : List (K × V)} (h : OwnL e size enc w v L) (hb : VMap P k kl ev w b M) {g : Nat} (hg : v.ownBlock = some g) : g ≠ b := by
  rcases h.2 with ⟨rfl, _⟩ | ⟨g', cap, cur, rfl, _, hh, _⟩
  · simp [Value.ownBlock] at hg
  · rintro rfl
    simp [Value.ownBlock] at hg
    subst hg
    exact (hb.ne hh) rfl
theorem OwnL.keep0 {X : Type} {e size : Nat} {enc : X → List Value} {w w' : World} {v : Value} {L : List X} (h : OwnL e size enc w v L) (hf : Fr [] w w') : OwnL e size enc w' v L := h.fr hf (by simp)
theorem OwnR.keep0 {w w' : World} {v : Value} {out : List Rec} (h : OwnR w v out) (hf : Fr [] w w') : OwnR w' v out := h.fr hf (by simp) NoC.nil
theorem OwnR.at1 {w : World} {A : Option Addr} {n cap : Nat} {out : List Rec} (h : OwnR w (.slice A n cap) out) : ∃ us : List WRec, AtL WRec.cells 2 w A us ∧ n = us.length ∧ us.map (·.r) = out ∧ ∀ u ∈ us, ChgsAt w u.A u.r.cs ∧ u.r.cs.length ≤ 8 := by
  obtain ⟨us, h1, h2, h3⟩ := h
  obtain ⟨h4, h5⟩ := h1.at1 WRec.len
  exact ⟨us, h4, h5, h2, fun u hu => ⟨(h3 u hu).1.1, (h3 u hu).2⟩⟩
end Go.Proofs.Ythiaaminkfkjpaa
