/-
  Records with their changes, as elements of a row.
-/
import Derived.Test.YtjiikpmkedkbkaaGai
import Derived.Test.YtjiikpmkedkbkaaGaf
import Derived.StillTailTactics
import Derived.Test.YtjiikpmkedkbkaaGal
namespace Go.Proofs.Ytjiikpmkedkbkaa
open Go.RowKit

theorem Rw.valid_chgs {r : Rec} (h : Rw.valid r = true) : ∀ c ∈ r.cs, Rw.chg c = true := by
  simp only [Rw.valid, Bool.and_eq_true] at h
  have h1 := h.2
  generalize (-1 : Int) = a at h1
  generalize (0 : Int) = b at h1
  revert h1
  generalize r.cs = cs
  clear h
  induction cs generalizing a b with
  | nil => intro _ c hc; simp at hc
  | cons x cs ih =>
    intro h c hc
    simp only [Rw.chgs, Bool.and_eq_true] at h
    rcases List.mem_cons.1 hc with rfl | hc
    · exact h.1.1
    · exact ih _ _ h.2 c hc

end Go.Proofs.Ytjiikpmkedkbkaa
namespace Go.Proofs.Ytjiikpmkedkbkaa
open Go.RowKit

theorem after_no (c : Chg) (h : c.has = false) (w : World) : Calls Try.prog 64 #[c.val] w fun e w' =>
    e = .returned (.tuple #[rowVal 0 0 0 0 0, .bool false]) ∧ Fr [] w w' := by
  obtain ⟨t, k, had, o0, o1, o2, has, n0, n1, n2⟩ := c
  dsimp only at h
  subst h
  have F0 : Fr [] w ((w.alloc (.cells #[.int .i64 t, .int .i64 k, .bool had, .int .i64 o0, .int .i64 o1, .int .i64 o2, .bool false, .int .i64 n0, .int .i64 n1, .int .i64 n2] 30)).alloc (.cells #[.int .i64 0, .int .i64 0, .int .i64 0, .int .i64 0, .int .i64 0] 57)) := ((Fr.refl _ _).alloc _).alloc _
  have hB := Blk.new (w.alloc (.cells #[.int .i64 t, .int .i64 k, .bool had, .int .i64 o0, .int .i64 o1, .int .i64 o2, .bool false, .int .i64 n0, .int .i64 n1, .int .i64 n2] 30)) 57 #[.int .i64 0, .int .i64 0, .int .i64 0, .int .i64 0, .int .i64 0]
  rw [World.size_alloc] at hB
  have hh := half_no ⟨t, k, had, o0, o1, o2, false, n0, n1, n2⟩ n0 n1 n2
  unfold Chg.val rowVal at *
  go_enter Try.func64, Try.ntmps64
  go_wp2_with fail
  refine (hh _).mono ?_
  rintro e w1 ⟨rfl, f1⟩
  have F1 := F0.trans f1
  have hB1 := hB.fr f1 (by simp)
  have h0 := hB1.cell 0
  have h1 := hB1.cell 1
  have h2 := hB1.cell 2
  have h3 := hB1.cell 3
  have h4 := hB1.cell 4
  have z0 := hB1.frozen 0
  have z1 := hB1.frozen 1
  have z2 := hB1.frozen 2
  have z3 := hB1.frozen 3
  have z4 := hB1.frozen 4
  go_wp2_with fail
  refine bodyPost_ret (v := .tuple #[.agg #[.int .i64 0, .int .i64 0, .int .i64 0, .int .i64 0, .int .i64 0], .bool false]) (by simp [results, Try.results64, go_sem, h0, h1, h2, h3, h4]) rfl ⟨rfl, ?_⟩
  repeat first | exact F1 | refine Fr.setCell ?_ (.inr (by simp)) _
theorem after_yes (c : Chg) (h : c.has = true) (w : World) : Calls Try.prog 64 #[c.val] w fun e w' =>
    e = .returned (.tuple #[rowVal c.t c.k c.n0 c.n1 c.n2, .bool true]) ∧ Fr [] w w' := by
  obtain ⟨t, k, had, o0, o1, o2, has, n0, n1, n2⟩ := c
  dsimp only at h
  subst h
  have F0 : Fr [] w ((w.alloc (.cells #[.int .i64 t, .int .i64 k, .bool had, .int .i64 o0, .int .i64 o1, .int .i64 o2, .bool true, .int .i64 n0, .int .i64 n1, .int .i64 n2] 30)).alloc (.cells #[.int .i64 0, .int .i64 0, .int .i64 0, .int .i64 0, .int .i64 0] 57)) := ((Fr.refl _ _).alloc _).alloc _
  have hB := Blk.new (w.alloc (.cells #[.int .i64 t, .int .i64 k, .bool had, .int .i64 o0, .int .i64 o1, .int .i64 o2, .bool true, .int .i64 n0, .int .i64 n1, .int .i64 n2] 30)) 57 #[.int .i64 0, .int .i64 0, .int .i64 0, .int .i64 0, .int .i64 0]
  rw [World.size_alloc] at hB
  have hh := half_yes ⟨t, k, had, o0, o1, o2, true, n0, n1, n2⟩ n0 n1 n2
  unfold Chg.val rowVal at *
  go_enter Try.func64, Try.ntmps64
  go_wp2_with fail
  refine (hh _).mono ?_
  rintro e w1 ⟨rfl, f1⟩
  have F1 := F0.trans f1
  have hB1 := hB.fr f1 (by simp)
  have h0 := hB1.cell 0
  have h1 := hB1.cell 1
  have h2 := hB1.cell 2
  have h3 := hB1.cell 3
  have h4 := hB1.cell 4
  have z0 := hB1.frozen 0
  have z1 := hB1.frozen 1
  have z2 := hB1.frozen 2
  have z3 := hB1.frozen 3
  have z4 := hB1.frozen 4
  go_wp2_with fail
  refine bodyPost_ret (v := .tuple #[.agg #[.int .i64 t, .int .i64 k, .int .i64 n0, .int .i64 n1, .int .i64 n2], .bool true]) (by simp [results, Try.results64, go_sem, h0, h1, h2, h3, h4]) rfl ⟨rfl, ?_⟩
  repeat first | exact F1 | refine Fr.setCell ?_ (.inr (by simp)) _
end Go.Proofs.Ytjiikpmkedkbkaa
namespace Go.Proofs.Ytjiikpmkedkbkaa
open Go.RowKit

end Go.Proofs.Ytjiikpmkedkbkaa
namespace Go.Proofs.Ytjiikpmkedkbkaa

/-- A change of a small log. -/
structure LgC (c : Chg) : Prop where
  t0 : 0 ≤ c.t
  t1 : c.t ≤ 2
  k0 : 1 ≤ c.k
  k1 : c.k ≤ 9
  new : c.has = true → (0 ≤ c.n0 ∧ c.n0 ≤ 9) ∧ (1 ≤ c.n1 ∧ c.n1 ≤ 9) ∧ (-20 ≤ c.n2 ∧ c.n2 ≤ 19)

namespace Lg
/-- The state that a log leaves. -/
def run (l : List Rec) : Sm.Sta := l.foldl Sm.apply Sm.new
structure Ok (l : List Rec) : Prop where
  fits : ∀ i (h : i < l.length), Sm.fits (run (l.take i)) l[i] = true
  small : ∀ r ∈ l, ∀ c ∈ r.cs, LgC c
theorem run_nil : run [] = Sm.new := rfl
theorem run_snoc (l : List Rec) (r : Rec) : run (l ++ [r]) = Sm.apply (run l) r := by simp [run]
theorem ok_nil : Ok [] := ⟨fun i h => absurd h (by simp), by simp⟩
theorem Ok.snoc {l : List Rec} {r : Rec} (h : Ok l) (hf : Sm.fits (run l) r = true) (hs : ∀ c ∈ r.cs, LgC c) : Ok (l ++ [r]) := by
  refine ⟨fun i hi => ?_, fun q hq => ?_⟩
  · rw [List.length_append, List.length_singleton] at hi
    rcases Nat.lt_or_ge i l.length with h1 | h1
    · rw [List.take_append_of_le_length (by omega), List.getElem_append_left h1]
      exact h.fits i h1
    · have : i = l.length := by omega
      subst this
      rw [List.take_left, List.getElem_append_right (Nat.le_refl _)]
      simpa using hf
  · rcases List.mem_append.1 hq with h1 | h1
    · exact h.small q h1
    · rw [List.mem_singleton] at h1
      subst h1
      exact hs
theorem code_zero {s : Sm.Sta} {r : Rec} : Sm.code s r = 0 ↔ Sm.fits s r = true := by
  unfold Sm.code
  split <;> simp_all
end Lg
end Go.Proofs.Ytjiikpmkedkbkaa
namespace Go.Proofs.Ytjiikpmkedkbkaa
open Go.RowKit

/-- A record that waits: what it is, and where its changes lie. -/
structure WRec where
  r : Rec
  A : Option Addr
  cap : Nat
  le : r.cs.length ≤ cap
@[reducible] def WRec.val (v : WRec) : Value := .agg #[.int .i64 v.r.p, .slice v.A v.r.cs.length v.cap]
def WRec.cells (u : WRec) : List Value := [.int .i64 u.r.p, .slice u.A u.r.cs.length u.cap]
theorem WRec.len (u : WRec) : u.cells.length = 2 := rfl
theorem WRec.one (u : WRec) : ∀ v ∈ u.cells, v.oneCell' = true := by
  intro v hv
  simp only [WRec.cells, List.mem_cons, List.not_mem_nil, or_false] at hv
  rcases hv with rfl | rfl <;> rfl
/-- v is a row that holds the records out. -/
def OwnR (w : World) (v : Value) (out : List Rec) : Prop := ∃ us : List WRec, OwnL 38 2 WRec.cells w v us ∧ us.map (·.r) = out ∧ ∀ u ∈ us, HoldsC w u.A u.r.cs ∧ u.r.cs.length ≤ 8
theorem OwnR.nil (w : World) : OwnR w (.slice none 0 0) [] := ⟨[], OwnL.nil, rfl, by simp⟩
theorem OwnR.fr {w w' : World} {v : Value} {out : List Rec} {S : List Nat} (h : OwnR w v out) (hf : Fr S w w') (hs : ∀ g, v.ownBlock = some g → g ∉ S) (hn : NoC w S) : OwnR w' v out := by
  obtain ⟨us, h1, h2, h3⟩ := h
  exact ⟨us, h1.fr hf hs, h2, fun u hu => ⟨(h3 u hu).1.fr hf hn, (h3 u hu).2⟩⟩
theorem OwnL.ne_map {X K V : Type} {e size : Nat} {enc : X → List Value} {w : World} {v : Value} {L : List X} {P : Program} {k : TypeId} {kl : K → Lit} {ev : V → Value} {b : Nat} {M : List (K × V)} (h : OwnL e size enc w v L) (hb : VMap P k kl ev w b M) {g : Nat} (hg : v.ownBlock = some g) : g ≠ b := by
  rcases h.2 with ⟨rfl, _⟩ | ⟨g', cap, cur, rfl, _, hh, _⟩
  · simp [Value.ownBlock] at hg
  · rintro rfl
    simp [Value.ownBlock] at hg
    subst hg
    exact (hb.ne hh) rfl
theorem OwnL.keep0 {X : Type} {e size : Nat} {enc : X → List Value} {w w' : World} {v : Value} {L : List X} (h : OwnL e size enc w v L) (hf : Fr [] w w') : OwnL e size enc w' v L := h.fr hf (by simp)
theorem OwnR.keep0 {w w' : World} {v : Value} {out : List Rec} (h : OwnR w v out) (hf : Fr [] w w') : OwnR w' v out := h.fr hf (by simp) NoC.nil
theorem OwnR.at1 {w : World} {A : Option Addr} {n cap : Nat} {out : List Rec} (h : OwnR w (.slice A n cap) out) : ∃ us : List WRec, AtL WRec.cells 2 w A us ∧ n = us.length ∧ us.map (·.r) = out ∧ ∀ u ∈ us, ChgsAt w u.A u.r.cs ∧ u.r.cs.length ≤ 8 := by
  obtain ⟨us, h1, h2, h3⟩ := h
  obtain ⟨h4, h5⟩ := h1.at1 WRec.len
  exact ⟨us, h4, h5, h2, fun u hu => ⟨(h3 u hu).1.1, (h3 u hu).2⟩⟩
end Go.Proofs.Ytjiikpmkedkbkaa
