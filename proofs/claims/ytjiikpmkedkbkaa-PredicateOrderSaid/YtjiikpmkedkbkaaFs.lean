/-
  What the reference's Log and the laws need about rows of changes and of records.
-/
import Derived.Test.YtjiikpmkedkbkaaFl
import Derived.Test.YtjiikpmkedkbkaaFe
import Derived.Test.YtjiikpmkedkbkaaFq
import Derived.Test.YtjiikpmkedkbkaaFr
import Derived.Test.YtjiikpmkedkbkaaFc
namespace Go.Proofs.Ytjiikpmkedkbkaa
open Go.RowKit

/-- A record that waits: what it is, and where its changes lie. -/
structure WRec where
  r : Rec
  A : Option Addr
  cap : Nat
@[reducible] def WRec.val (v : WRec) : Value := .agg #[.int .i64 v.r.p, .slice v.A v.r.cs.length v.cap]
def WRec.cells (u : WRec) : List Value := [.int .i64 u.r.p, .slice u.A u.r.cs.length u.cap]
theorem WRec.len (u : WRec) : u.cells.length = 2 := rfl
theorem WRec.one (u : WRec) : ∀ v ∈ u.cells, v.oneCell' = true := by
  intro v hv
  simp only [WRec.cells, List.mem_cons, List.not_mem_nil, or_false] at hv
  rcases hv with rfl | rfl <;> rfl
/-- v is a row that holds the records out. -/
def OwnR (w : World) (v : Value) (out : List Rec) : Prop := ∃ us : List WRec, OwnL 38 2 WRec.cells w v us ∧ us.map (·.r) = out ∧ ∀ u ∈ us, HoldsC w u.A u.r.cs ∧ u.r.cs.length ≤ 8
theorem OwnR.nil (w : World) : OwnR w (.slice none 0 0) [] := ⟨[], OwnL.nil, rfl, by simp⟩
theorem OwnR.fr {w w' : World} {v : Value} {out : List Rec} {S : List Nat} (h : OwnR w v out) (hf : Fr S w w') (hs : ∀ g, v.ownBlock = some g → g ∉ S) (hn : NoC w S) : OwnR w' v out := by
  obtain ⟨us, h1, h2, h3⟩ := h
  exact ⟨us, h1.fr hf hs, h2, fun u hu => ⟨(h3 u hu).1.fr hf hn, (h3 u hu).2⟩⟩
theorem OwnL.ne_map {X K V : Type} {e size : Nat} {enc : X → List Value} {w : World} {v : Value} {L : List X} {P : Program} {k : TypeId} {kl : K → Lit} {ev : V → Value} {b : Nat} {M : List (K × V)} (h : OwnL e size enc w v L) (hb : VMap P k kl ev w b M) {g : Nat} (hg : v.ownBlock = some g) : g ≠ b := by
  rcases h.2 with ⟨rfl, _⟩ | ⟨g', cap, cur, rfl, _, hh, _⟩
  · simp [Value.ownBlock] at hg
  · rintro rfl
    simp [Value.ownBlock] at hg
    subst hg
    exact (hb.ne hh) rfl
theorem OwnL.keep0 {X : Type} {e size : Nat} {enc : X → List Value} {w w' : World} {v : Value} {L : List X} (h : OwnL e size enc w v L) (hf : Fr [] w w') : OwnL e size enc w' v L := h.fr hf (by simp)
theorem OwnR.keep0 {w w' : World} {v : Value} {out : List Rec} (h : OwnR w v out) (hf : Fr [] w w') : OwnR w' v out := h.fr hf (by simp) NoC.nil
theorem OwnR.at1 {w : World} {A : Option Addr} {n cap : Nat} {out : List Rec} (h : OwnR w (.slice A n cap) out) : ∃ us : List WRec, AtL WRec.cells 2 w A us ∧ n = us.length ∧ us.map (·.r) = out ∧ ∀ u ∈ us, ChgsAt w u.A u.r.cs ∧ u.r.cs.length ≤ 8 := by
  obtain ⟨us, h1, h2, h3⟩ := h
  obtain ⟨h4, h5⟩ := h1.at1 WRec.len
  exact ⟨us, h4, h5, h2, fun u hu => ⟨(h3 u hu).1.1, (h3 u hu).2⟩⟩
end Go.Proofs.Ytjiikpmkedkbkaa
namespace Go.Proofs.Ytjiikpmkedkbkaa
open Go.RowKit

theorem infoChg : (Try.prog.info? 30).map (fun i => (i.zero, i.size, i.bytes)) = some (some (.agg #[.int .i64 0, .int .i64 0, .bool false, .int .i64 0, .int .i64 0, .int .i64 0, .bool false, .int .i64 0, .int .i64 0, .int .i64 0]), 10, 80) := by kernel_rfl
theorem etChg : ∃ i0, ET Try.prog 36 30 10 80 i0 (.agg #[.int .i64 0, .int .i64 0, .bool false, .int .i64 0, .int .i64 0, .int .i64 0, .bool false, .int .i64 0, .int .i64 0, .int .i64 0]) := by
  obtain ⟨i0, hi, hz0, hz1, hz2⟩ := info_parts infoChg
  exact ⟨i0, Try.underlying36, hi, hz0, hz1, hz2, rfl, by decide⟩
theorem infoRec : (Try.prog.info? 38).map (fun i => (i.zero, i.size, i.bytes)) = some (some (.agg #[.int .i64 0, .slice none 0 0]), 2, 32) := by kernel_rfl
theorem etRec : ∃ i0, ET Try.prog 34 38 2 32 i0 (.agg #[.int .i64 0, .slice none 0 0]) := by
  obtain ⟨i0, hi, hz0, hz1, hz2⟩ := info_parts infoRec
  exact ⟨i0, Try.underlying34, hi, hz0, hz1, hz2, rfl, by decide⟩

theorem got_shape (o : Option RowV) : ∃ (a b x y z : Int) (had : Bool), gotVal o = .tuple #[.agg #[.int .i64 a, .int .i64 b, .int .i64 x, .int .i64 y, .int .i64 z], .bool had] := by
  cases o with
  | none => exact ⟨0, 0, 0, 0, 0, false, rfl⟩
  | some r => exact ⟨r.t, r.k, r.x, r.y, r.z, true, rfl⟩

theorem OwnL.holdsC {w : World} {A : Option Addr} {n cap : Nat} {cs : List Chg} (h : OwnL 30 10 Chg.cells w (.slice A n cap) cs) : HoldsC w A cs := by
  refine ⟨(h.at1 Chg.len).1, fun hl ad e => ?_⟩
  rcases h.2 with ⟨hv, _⟩ | ⟨g', cap', cur, hv, _, hh, _⟩
  · cases hv
    cases e
  · cases hv
    cases e
    exact ⟨_, _, hh⟩

theorem OwnL.ne2 {X Y : Type} {e size e' size' : Nat} {enc : X → List Value} {enc' : Y → List Value} {w : World} {v v' : Value} {L : List X} {L' : List Y} (h : OwnL e size enc w v L) (h' : OwnL e' size' enc' w v' L') (hne : e ≠ e') {g : Nat} (hg : v.ownBlock = some g) : v'.ownBlock ≠ some g := by
  intro hg'
  rcases h'.2 with ⟨rfl, _⟩ | ⟨g', cap, cur, rfl, _, hh, _⟩
  · simp [Value.ownBlock] at hg'
  · simp [Value.ownBlock] at hg'
    subst hg'
    exact h.ne (b := g') hh hne hg rfl

theorem OwnL.noC {X : Type} {e size : Nat} {enc : X → List Value} {w : World} {v : Value} {L : List X} (h : OwnL e size enc w v L) (hne : e ≠ 30) : NoC w v.ownBlock.toList := by
  intro s hs arr fz hh'
  rcases h.2 with ⟨rfl, _⟩ | ⟨g', cap, cur, rfl, _, hh, _⟩
  · simp [Value.ownBlock] at hs
  · simp [Value.ownBlock] at hs
    subst hs
    exact noC_blk (show Blk w _ e cur from hh) hne arr fz hh'
end Go.Proofs.Ytjiikpmkedkbkaa
