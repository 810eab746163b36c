/-
  What stays while a receiver works; a record of one change received.
-/
import Derived.Test.YtldolhdgkbljlaaGapF
import Derived.Test.YtldolhdgkbljlaaAtL
namespace Go.Proofs.Ytldolhdgkbljlaa
open Go.RowKit

/-- A record of one change is received. -/
theorem recv_any (b m : Nat) (c : Gm.Rcv) (p : Int) (A : Option Addr) (w : World) (h : RcvAt w b m c) (hc : HoldsC w A (recOf p).cs) :
    Calls Try.prog 20 #[.pointer (some ⟨b, 0, none⟩), .agg #[.int .i64 p, .slice A 1 1]] w fun e w' =>
      e = .returned (.bool (Gm.took c (recOf p))) ∧ RcvAt w' b m (Gm.receive c (recOf p)) ∧ Fr [b, m] w w' :=
  receive_any b m 1 c (recOf p) A w h hc (by simp [recOf, maxLen])
theorem recv_nil (p : Int) (A : Option Addr) (w : World) :
    Calls Try.prog 20 #[.pointer none, .agg #[.int .i64 p, .slice A 1 1]] w fun e w' => e = .returned (.bool false) ∧ Fr [] w w' :=
  receive_nil (recOf p) A 1 w
theorem OwnL.keep {X : Type} {e size : Nat} {enc : X → List Value} {w w' : World} {v : Value} {L : List X} {b m : Nat} {c : Gm.Rcv} (h : OwnL e size enc w v L) (hr : RcvAt w b m c) (he : e ≠ 92) (hf : Fr [b, m] w w') : OwnL e size enc w' v L := by
  obtain ⟨M, hm, _⟩ := hr.map
  exact h.fr hf (fun g hg => by
    have e1 := h.ne hr.blk he hg
    have e2 := h.ne_map hm hg
    simp [e1, e2])
theorem OwnL.keep0 {X : Type} {e size : Nat} {enc : X → List Value} {w w' : World} {v : Value} {L : List X} (h : OwnL e size enc w v L) (hf : Fr [] w w') : OwnL e size enc w' v L := h.fr hf (by simp)
theorem OwnR.keep {w w' : World} {v : Value} {out : List Rec} {b m : Nat} {c : Gm.Rcv} (h : OwnR w v out) (hr : RcvAt w b m c) (hf : Fr [b, m] w w') : OwnR w' v out := h.fr hf (h.apart hr) hr.noC
theorem OwnR.keep0 {w w' : World} {v : Value} {out : List Rec} (h : OwnR w v out) (hf : Fr [] w w') : OwnR w' v out := h.fr hf (by simp) NoC.nil
theorem OwnR.at1 {w : World} {A : Option Addr} {n cap : Nat} {out : List Rec} (h : OwnR w (.slice A n cap) out) : ∃ us : List WRec, AtL WRec.cells 2 w A us ∧ n = us.length ∧ us.map (·.r) = out ∧ ∀ u ∈ us, ChgsAt w u.A u.r.cs ∧ u.r.cs.length ≤ 8 := by
  obtain ⟨us, h1, h2, h3⟩ := h
  obtain ⟨h4, h5⟩ := h1.at1 WRec.len
  exact ⟨us, h4, h5, h2, fun u hu => ⟨(h3 u hu).1.1, (h3 u hu).2⟩⟩
end Go.Proofs.Ytldolhdgkbljlaa
