/-
  Records with their changes, as elements of a row.
-/
import Derived.Test.YtciaallekkdnhaaGreatJa
import Derived.RangeFuncNested
import Derived.RangeFuncBound
import Derived.RangeFuncCalls
import Derived.RangeFuncLeaves
import Derived.RangeFuncRecord
import Derived.Test.YtciaallekkdnhaaGreatJe
import Derived.Test.YtciaallekkdnhaaGreatJd
import Derived.StillTailTactics
namespace Go.Proofs.YtciaallekkdnhaaGreat
open Go.RowKit

/-- What speaks of blocks ahead of B alone. -/
def Low {α : Type} (B : Nat) (J : α → World → Prop) : Prop := ∀ s A C, J s A → Below B A C → J s C
/-- Of the blocks ahead of B those in S alone have turned. -/
structure FrO (B : Nat) (S : List Nat) (w w' : World) : Prop where
  os : w'.os = w.os
  tape : w'.tape = w.tape
  output : w'.output = w.output
  size : w.heap.size ≤ w'.heap.size
  block : ∀ k, k < B → k ∉ S → w'.heap[k]? = w.heap[k]?
theorem FrO.refl (B : Nat) (S : List Nat) (w : World) : FrO B S w w := ⟨rfl, rfl, rfl, Nat.le_refl _, fun _ _ _ => rfl⟩
theorem FrO.trans {B : Nat} {S : List Nat} {a b c : World} (h : FrO B S a b) (k : FrO B S b c) : FrO B S a c :=
  ⟨k.os.trans h.os, k.tape.trans h.tape, k.output.trans h.output, Nat.le_trans h.size k.size, fun j hj hs => (k.block j hj hs).trans (h.block j hj hs)⟩
theorem FrO.mono {B B' : Nat} {S S' : List Nat} {a b : World} (h : FrO B S a b) (hB : B' ≤ B) (hS : ∀ x ∈ S, x < B' → x ∈ S') : FrO B' S' a b :=
  ⟨h.os, h.tape, h.output, h.size, fun j hj hs => h.block j (by omega) (fun hm => hs (hS j hm hj))⟩
theorem Fr.frO {B : Nat} {S T : List Nat} {a b : World} (h : Fr T a b) (hB : B ≤ a.heap.size) (hS : ∀ x ∈ T, x ∈ S ∨ B ≤ x) : FrO B S a b :=
  ⟨h.os, h.tape, h.output, h.size, fun j hj hs => h.block j (by omega) (fun hm => by rcases hS j hm with h1 | h1; exact hs h1; omega)⟩
theorem FrO.fr {S : List Nat} {a b : World} (h : FrO a.heap.size S a b) : Fr S a b := ⟨h.os, h.tape, h.output, h.size, h.block⟩
theorem Fr.toBelow {B : Nat} {T : List Nat} {a b : World} (h : Fr T a b) (hB : B ≤ a.heap.size) (hS : ∀ x ∈ T, B ≤ x) : Below B a b :=
  ⟨h.os, h.tape, h.output, h.size, fun j hj => h.block j (by omega) (fun hm => by have := hS j hm; omega)⟩
theorem FrO.toBelow {B : Nat} {a b : World} (h : FrO B [] a b) : Below B a b := ⟨h.os, h.tape, h.output, h.size, fun j hj => h.block j hj (by simp)⟩
theorem below_frO {B : Nat} {S : List Nat} {a b : World} (h : Below B a b) : FrO B S a b := ⟨h.os, h.tape, h.output, h.size, fun j hj _ => h.block j hj⟩
theorem FrO.cell {B : Nat} {S : List Nat} {a b : World} (h : FrO B S a b) {p : Addr} (hp : p.block < B) (hs : p.block ∉ S) : b.cell? p = a.cell? p := by
  unfold World.cell?
  rw [h.block p.block hp hs]
theorem FrO.frozen {B : Nat} {S : List Nat} {a b : World} (h : FrO B S a b) {p : Addr} (hp : p.block < B) (hs : p.block ∉ S) : b.frozen? p = a.frozen? p := by
  unfold World.frozen?
  rw [h.block p.block hp hs]
theorem FrO.blk {B : Nat} {S : List Nat} {a b : World} (h : FrO B S a b) {g t : Nat} {cs : Array Value} (hb : Blk a g t cs) (hp : g < B) (hs : g ∉ S) : Blk b g t cs := (h.block g hp hs).trans hb
theorem putObj_own {w : World} {l : Nat} (o : Obj) : Fr [l] w (w.putObj l o) :=
  ⟨rfl, rfl, rfl, by simp, fun j _ hn => World.putObj_heap_other (fun e => hn (by simp [e]))⟩
/-- AN ITERATOR's CONTRACT: called at the yield of any loop, it hands over all of xs, in order, whatever invariant of what lay ahead of the call the rounds carry on; a round turns no more than S of what lay. -/
def SeqF {α : Type} (F : Fence) (n : Nat) (P : Program) (g : Nat) (lb : Array Value) (encs : α → Array Value) (S : List Nat) (xs : List α) (w : World) : Prop :=
  ∀ (l : Nat) (J : List α → World → Prop) (W : World), Fr [] w W → Low W.heap.size J → (∀ p A, J p A → W.heap.size ≤ A.heap.size) →
    (∀ pre x W1, (∃ r, pre ++ x :: r = xs) → J pre W1 → YieldAt F (n - 1) P l (encs x) W1 fun e W' => e = .returned (.bool true) ∧ J (pre ++ [x]) W' ∧ Fr S W1 W') →
    J [] W → CallsIn F n P g (#[.func (.yield l) #[] #[]] ++ lb) W fun e W' => (∃ v, e = .returned v) ∧ J xs W'
theorem SeqF.inRound {α : Type} {F : Fence} {n : Nat} {P : Program} {g : Nat} {lb : Array Value} {encs : α → Array Value} {S : List Nat} {xs : List α} {w : World} (l : Nat) (h : SeqF F n P g lb encs S xs w) : SeqF (F.inRound l) n P g lb encs S xs w := h
theorem SeqF.later {α : Type} {F : Fence} {n : Nat} {P : Program} {g : Nat} {lb : Array Value} {encs : α → Array Value} {S : List Nat} {xs : List α} {w w' : World} (h : SeqF F n P g lb encs S xs w) (hf : Fr [] w w') : SeqF F n P g lb encs S xs w' :=
  fun l J W hW hJ hs hY h0 => h l J W (hf.trans hW) hJ hs hY h0
/-- How a round's body is left. -/
def roundEnd (J : World → Prop) (B : Nat) (S : List Nat) (W : World) : Exit → Act → World → Prop
  | .normal, _, W' => FrO B S W W' ∧ J W'
  | _, _, _ => False

section
variable {F : Fence} {n : Nat} {P : Program} {α : Type}
/-- One round. -/
theorem round_of {l : Nat} {rec : Loop} {encs : α → Array Value} {S : List Nat} {fn : FuncId} {B0 : Nat} {I : List α → World → Prop} {pre : List α} {x : α} {W : World} (hfn : F.fn fn) (hf : rec.fn = fn) (hst : rec.state = .ready) (hpe : rec.pending = none)
    (hps : (encs x).size = rec.params.size) (hI : Low B0 I) (hl0 : B0 ≤ l) (hL : W.heap[l]? = some (.loop rec)) (hB : B0 ≤ W.heap.size) (hS : l ∉ S) (hi : I pre W)
    (h : rec.assign.wpIn (F.inRound l) (n - 1) P (Exit.then (fun a' W1 => Fr [] W W1 ∧ ∀ W2, Fr [l] W1 W2 → (∃ r, W2.heap[l]? = some (.loop r)) → I pre W2 → rec.body.wpIn (F.inRound l) (n - 1) P (roundEnd (I (pre ++ [x])) W.heap.size S W2) a' W2) (fun _ _ _ => False))
      { tmps := (rec.params.zip (encs x)).foldl (fun t (p, v) => t.setIfInBounds p v) rec.tmps, defers := [] } W) :
    YieldAt F (n - 1) P l (encs x) W fun e W' => e = .returned (.bool true) ∧ (I (pre ++ [x]) W' ∧ W'.heap[l]? = some (.loop rec)) ∧ Fr S W W' := by
  have hy := run_yield (P := P) (args := encs x) hL hps
  refine ⟨_, _, _, _, hy, ?_⟩
  refine roundIn_of_wpIn (by rw [hf]; exact hfn) ?_
  refine wpIn_mono h ?_
  intro e a1 W1 he
  cases e with
  | normal =>
    obtain ⟨f1, hbody⟩ := he
    have hlW := (Array.getElem?_eq_some_iff.1 hL).1
    have hL1 : W1.heap[l]? = some (.loop rec) := (f1.block _ hlW (by simp)).trans hL
    have hlW1 := (Array.getElem?_eq_some_iff.1 hL1).1
    refine ⟨_, run_beginRound hL1 hst, ?_⟩
    have f2 : Fr [l] W1 (W1.putObj l (.loop { rec with state := .busy })) := putObj_own _
    have hL2 : (W1.putObj l (.loop { rec with state := .busy })).heap[l]? = some (.loop { rec with state := .busy }) := World.putObj_heap_same hlW1
    have hi2 : I pre (W1.putObj l (.loop { rec with state := .busy })) := hI _ _ _ (hI _ _ _ hi (f1.toBelow hB (by simp))) (f2.toBelow (Nat.le_trans hB f1.size) (by simpa using hl0))
    refine wpIn_mono (hbody _ f2 ⟨_, hL2⟩ hi2) ?_
    generalize W1.putObj l (.loop { rec with state := .busy }) = W2 at *
    intro e a2 W3 he
    cases e with
    | normal =>
      obtain ⟨f3, hJ⟩ := he
      have hL3 : W3.heap[l]? = some (.loop { rec with state := .busy }) := (f3.block l hlW hS).trans hL2
      have hend := run_endRound (P := P) none hL3
      have hrec : ({ ({ rec with state := .busy } : Loop) with state := if (none : Option Code).isNone = true then .ready else .done, pending := none } : Loop) = rec := by
        cases rec
        simp only at hst hpe
        subst hst hpe
        rfl
      rw [hrec] at hend
      have hlW3 := (Array.getElem?_eq_some_iff.1 hL3).1
      refine ⟨_, _, hend, rfl, ⟨hI _ _ _ hJ ((putObj_own _).toBelow (by have := f3.size; have := f2.size; have := f1.size; omega) (by simpa using hl0)), World.putObj_heap_same hlW3⟩, ?_⟩
      refine ⟨?_, ?_, ?_, ?_, fun j hj hs => ?_⟩
      · exact (f3.os.trans f2.os).trans f1.os
      · exact (f3.tape.trans f2.tape).trans f1.tape
      · exact (f3.output.trans f2.output).trans f1.output
      · have := f3.size
        have := f2.size
        have := f1.size
        simp
        omega
      · by_cases e : j = l
        · subst e
          rw [World.putObj_heap_same hlW3]
          exact hL.symm
        · rw [World.putObj_heap_other e, f3.block j hj hs, f2.block j (Nat.lt_of_lt_of_le hj f1.size) (by simpa using e), f1.block j hj (by simp)]
    | _ => exact he.elim
  | _ => exact he.elim

/-- THE LOOP, OUTERMOST. -/
theorem wpIn_rangeF {g : Operand} {ps : Array Tmp} {assign body : Code} {Q : Exit → Act → World → Prop} {a : Act} {w : World} (hro : F.round = none) (h1 : 1 ≤ n) {gf : Nat} {lb : Array Value}
    (hg : a.eval g = .func (.func gf) #[] lb) (hF : F.fn gf) (eg : ∀ args w, (callFunc gf args).run P w = .ok (.enter gf args) w)
    {encs : α → Array Value} {S : List Nat} {xs : List α} {w0 : World} (hseq : SeqF F (n - 1) P gf lb encs S xs w0) (hb0 : Fr [] w0 w) (hps : ∀ x, (encs x).size = ps.size) (hS : ∀ s ∈ S, s < w.heap.size)
    (I : List α → World → Prop) (hI : Low w.heap.size I) (_hsz : ∀ p A, I p A → w.heap.size ≤ A.heap.size) (h0 : I [] w)
    (hround : ∀ l pre x W, (∃ r, pre ++ x :: r = xs) → w.heap.size ≤ l → l < W.heap.size → I pre W →
      assign.wpIn (F.inRound l) (n - 1 - 1) P (Exit.then (fun a' W1 => Fr [] W W1 ∧ ∀ W2, Fr [l] W1 W2 → (∃ r, W2.heap[l]? = some (.loop r)) → I pre W2 → body.wpIn (F.inRound l) (n - 1 - 1) P (roundEnd (I (pre ++ [x])) W.heap.size S W2) a' W2) (fun _ _ _ => False))
        { tmps := (ps.zip (encs x)).foldl (fun t (p, v) => t.setIfInBounds p v) a.tmps, defers := [] } W)
    (hdone : ∀ D W, w.heap.size ≤ D → I xs W → W.heap[D]? = some (.deferred (some [])) → Q .normal { a with defers := { target := .collected D, args := #[] } :: a.defers } W) :
    (Code.rangeFunc g ps assign body).wpIn F n P Q a w := by
  refine wpIn_rangeFunc ?_
  intro fn hfn
  rw [hro]
  obtain ⟨rec, hrec⟩ : ∃ rec : Loop, rec = { state := .ready, pending := none, fn, tmps := a.tmps, params := ps, assign, body, defers := w.heap.size } := ⟨_, rfl⟩
  have hent := run_enterLoop_outer (P := P) (w := w) fn a.tmps ps assign body
  have F1 : Fr [] w ((w.alloc (.deferred (some []))).alloc (.loop rec)) := ((Fr.refl _ _).alloc _).alloc _
  have hL1 : ((w.alloc (.deferred (some []))).alloc (.loop rec)).heap[w.heap.size + 1]? = some (.loop rec) := by
    have := World.alloc_heap_new (w.alloc (.deferred (some []))) (.loop rec); rwa [World.size_alloc] at this
  have hK1 : ((w.alloc (.deferred (some []))).alloc (.loop rec)).heap[w.heap.size]? = some (.deferred (some [])) := (Below.heap_alloc _ _ _ (by simp)).trans (World.alloc_heap_new w _)
  have hz1 : ((w.alloc (.deferred (some []))).alloc (.loop rec)).heap.size = w.heap.size + 2 := by simp
  rw [← hrec] at hent
  generalize (w.alloc (.deferred (some []))).alloc (.loop rec) = W1 at *
  refine ⟨w.heap.size + 1, [{ target := .collected w.heap.size, args := #[] }], W1, { target := .fn (.func gf) lb, args := #[.func (.yield (w.heap.size + 1)) #[] #[]] }, W1, gf,
    #[.func (.yield (w.heap.size + 1)) #[] #[]] ++ lb, W1, hent, ?_, ?_, ?_, fun _ => h1, ?_⟩
  · simp only [resolve, hg]
    simp [go_sem]
  · intro f' hf'; simp [Target.leads] at hf'; subst hf'; exact hF
  · simp [invoke, go_sem, eg]
  · have hlow : Low W1.heap.size (fun (pre : List α) W => I pre W ∧ W.heap[w.heap.size + 1]? = some (.loop rec) ∧ W.heap[w.heap.size]? = some (.deferred (some [])) ∧ W1.heap.size ≤ W.heap.size) := by
      rintro s A C ⟨k1, k2, k3, k4⟩ hb
      exact ⟨hI _ _ _ k1 (hb.mono (by omega)), (hb.block _ (by omega)).trans k2, (hb.block _ (by omega)).trans k3, Nat.le_trans k4 hb.size⟩
    refine (hseq (w.heap.size + 1) _ W1 (hb0.trans F1) hlow (fun p A h => h.2.2.2) ?_ ⟨hI _ _ _ h0 (F1.toBelow (Nat.le_refl _) (by simp)), hL1, hK1, Nat.le_refl _⟩).mono ?_
    · rintro pre x W hx ⟨k1, k2, k3, k4⟩
      have hk := round_of (n := n - 1) (rec := rec) (encs := encs) (S := S) (B0 := w.heap.size) (I := I) hfn (by rw [hrec]) (by rw [hrec]) (by rw [hrec]) (by rw [hrec]; exact hps x) hI (Nat.le_succ _) k2 (by omega) (fun hm => by have := hS _ hm; omega) k1
        (by rw [congrArg Loop.assign hrec, congrArg Loop.body hrec, congrArg Loop.tmps hrec, congrArg Loop.params hrec]; exact hround (w.heap.size + 1) pre x W hx (Nat.le_succ _) (by omega) k1)
      refine hk.mono ?_
      rintro e W' ⟨he, ⟨j1, j2⟩, j3⟩
      exact ⟨he, ⟨j1, j2, (j3.block _ (by omega) (fun hm => by have := hS _ hm; omega)).trans k3, Nat.le_trans k4 j3.size⟩, j3⟩
    · rintro e W' ⟨⟨v, rfl⟩, k1, k2, k3, k4⟩
      have hend := run_endLoop (P := P) k2 (by rw [hrec]; simp)
      refine ⟨none, W'.putObj (w.heap.size + 1) (.loop { rec with state := .exhausted }), by rw [hend, congrArg Loop.pending hrec], ?_⟩
      have f4 := putObj_own (w := W') (l := w.heap.size + 1) (.loop { rec with state := .exhausted })
      exact hdone w.heap.size _ (Nat.le_refl _) (hI _ _ _ k1 (f4.toBelow (by omega) (by simp))) ((World.putObj_heap_other (by omega)).trans k3)

/-- THE LOOP WITHIN A ROUND of loop l0. -/
theorem wpIn_rangeN {g : Operand} {ps : Array Tmp} {assign body : Code} {Q : Exit → Act → World → Prop} {a : Act} {w : World} {l0 : Nat} {r0 : Loop} (hr0 : w.heap[l0]? = some (.loop r0)) (h1 : 1 ≤ n) {gf : Nat} {lb : Array Value}
    (hg : a.eval g = .func (.func gf) #[] lb) (hF : F.fn gf) (eg : ∀ args w, (callFunc gf args).run P w = .ok (.enter gf args) w)
    {encs : α → Array Value} {S : List Nat} {xs : List α} {w0 : World} (hseq : SeqF F (n - 1) P gf lb encs S xs w0) (hb0 : Fr [] w0 w) (hps : ∀ x, (encs x).size = ps.size) (hS : ∀ s ∈ S, s < w.heap.size)
    (I : List α → World → Prop) (hI : Low w.heap.size I) (_hsz : ∀ p A, I p A → w.heap.size ≤ A.heap.size) (h0 : I [] w)
    (hround : ∀ l pre x W, (∃ r, pre ++ x :: r = xs) → w.heap.size ≤ l → l < W.heap.size → I pre W →
      assign.wpIn (F.inRound l) (n - 1 - 1) P (Exit.then (fun a' W1 => Fr [] W W1 ∧ ∀ W2, Fr [l] W1 W2 → (∃ r, W2.heap[l]? = some (.loop r)) → I pre W2 → body.wpIn (F.inRound l) (n - 1 - 1) P (roundEnd (I (pre ++ [x])) W.heap.size S W2) a' W2) (fun _ _ _ => False))
        { tmps := (ps.zip (encs x)).foldl (fun t (p, v) => t.setIfInBounds p v) a.tmps, defers := [] } W)
    (hdone : ∀ W, I xs W → Q .normal a W) :
    (Code.rangeFunc g ps assign body).wpIn (F.inRound l0) n P Q a w := by
  refine wpIn_rangeFunc ?_
  intro fn hfn
  have hent := run_enterLoop_inner (P := P) hr0 fn a.tmps ps assign body
  obtain ⟨rec, hrec⟩ : ∃ rec : Loop, rec = { state := .ready, pending := none, fn, tmps := a.tmps, params := ps, assign, body, defers := r0.defers } := ⟨_, rfl⟩
  have F1 : Fr [] w (w.alloc (.loop rec)) := (Fr.refl _ _).alloc _
  have hL1 : (w.alloc (.loop rec)).heap[w.heap.size]? = some (.loop rec) := World.alloc_heap_new w _
  have hz1 : (w.alloc (.loop rec)).heap.size = w.heap.size + 1 := by simp
  rw [← hrec] at hent
  generalize w.alloc (.loop rec) = W1 at *
  refine ⟨w.heap.size, [], W1, { target := .fn (.func gf) lb, args := #[.func (.yield w.heap.size) #[] #[]] }, W1, gf,
    #[.func (.yield w.heap.size) #[] #[]] ++ lb, W1, hent, ?_, ?_, ?_, fun _ => h1, ?_⟩
  · simp only [resolve, hg]
    simp [go_sem]
  · intro f' hf'; simp [Target.leads] at hf'; subst hf'; exact hF
  · simp [invoke, go_sem, eg]
  · have hlow : Low W1.heap.size (fun (pre : List α) W => I pre W ∧ W.heap[w.heap.size]? = some (.loop rec) ∧ W1.heap.size ≤ W.heap.size) := by
      rintro s A C ⟨k1, k2, k4⟩ hb
      exact ⟨hI _ _ _ k1 (hb.mono (by omega)), (hb.block _ (by omega)).trans k2, Nat.le_trans k4 hb.size⟩
    refine CallsIn.mono (CallsIn.inRound l0 (hseq w.heap.size _ W1 (hb0.trans F1) hlow (fun p A h => h.2.2) ?_ ⟨hI _ _ _ h0 (F1.toBelow (Nat.le_refl _) (by simp)), hL1, Nat.le_refl _⟩)) ?_
    · rintro pre x W hx ⟨k1, k2, k4⟩
      have hk := round_of (n := n - 1) (rec := rec) (encs := encs) (S := S) (B0 := w.heap.size) (I := I) (F := F) hfn (by rw [hrec]) (by rw [hrec]) (by rw [hrec]) (by rw [hrec]; exact hps x) hI (Nat.le_refl _) k2 (by omega) (fun hm => by have := hS _ hm; omega) k1
        (by rw [congrArg Loop.assign hrec, congrArg Loop.body hrec, congrArg Loop.tmps hrec, congrArg Loop.params hrec]; exact hround w.heap.size pre x W hx (Nat.le_refl _) (by omega) k1)
      refine hk.mono ?_
      rintro e W' ⟨he, ⟨j1, j2⟩, j3⟩
      exact ⟨he, ⟨j1, j2, Nat.le_trans k4 j3.size⟩, j3⟩
    · rintro e W' ⟨⟨v, rfl⟩, k1, k2, k4⟩
      have hend := run_endLoop (P := P) k2 (by rw [hrec]; simp)
      refine ⟨none, W'.putObj w.heap.size (.loop { rec with state := .exhausted }), by rw [hend, congrArg Loop.pending hrec], ?_⟩
      have f4 := putObj_own (w := W') (l := w.heap.size) (.loop { rec with state := .exhausted })
      exact hdone _ (hI _ _ _ k1 (f4.toBelow (by omega) (by simp)))
end
end Go.Proofs.YtciaallekkdnhaaGreat
namespace Go.Proofs.YtciaallekkdnhaaGreat
open Go.RowKit

theorem Rw.valid_chgs {r : Rec} (h : Rw.valid r = true) : ∀ c ∈ r.cs, Rw.chg c = true := by
  simp only [Rw.valid, Bool.and_eq_true] at h
  have h1 := h.2
  generalize (-1 : Int) = a at h1
  generalize (0 : Int) = b at h1
  revert h1
  generalize r.cs = cs
  clear h
  induction cs generalizing a b with
  | nil => intro _ c hc; simp at hc
  | cons x cs ih =>
    intro h c hc
    simp only [Rw.chgs, Bool.and_eq_true] at h
    rcases List.mem_cons.1 hc with rfl | hc
    · exact h.1.1
    · exact ih _ _ h.2 c hc

set_option maxRecDepth 100000 in
set_option maxHeartbeats 2000000 in
theorem fits_any (b m : Nat) (s : Sm.Sta) (r : Rec) (A : Option Addr) (cap : Nat) (w : World) (h : StaAt w b m s) (hc : ChgsAt w A r.cs) (hlen : r.cs.length ≤ maxLen) :
    Calls Tryz.prog 49 #[.pointer (some ⟨b, 0, none⟩), .agg #[.int .i64 r.p, .slice A r.cs.length cap]] w fun e w' => e = .returned (.bool (Sm.fits s r)) ∧ Fr [] w w' := by
  have HF : Hid (Sm.fits s r = (Rw.valid r && decide (r.p = s.pos + 1) && Sm.fitsGo s.M s.M.length r.cs)) := Lib.hid rfl
  cases hv : Rw.valid r
  · refine (fits_skip b m s r A cap w h hc hlen hv).mono ?_
    rintro e w' ⟨rfl, hf⟩
    exact ⟨by rw [HF.out, hv]; rfl, hf⟩
  have hvf : 1 ≤ r.p ∧ r.p ≤ 10000 ∧ 1 ≤ r.cs.length ∧ r.cs.length ≤ 8 := by
    have h1 := hv
    simp only [Rw.valid, Rw.inI, Bool.and_eq_true, decide_eq_true_eq] at h1
    omega
  have HV := Lib.hid hv
  clear hv
  have hp0 := h.ok.p0
  have hp1 := h.ok.p1
  have hml := h.ok.len
  go_enter Tryz.func49, Tryz.ntmps49
  go_wp2_with fail
  have f0 : Fr [] w (w.alloc (.cells #[.int .i64 r.p, .slice A r.cs.length cap] 26)) := (Fr.refl _ _).alloc _
  have hr0 := Blk.new w 26 #[.int .i64 r.p, .slice A r.cs.length cap]
  generalize w.alloc (.cells #[.int .i64 r.p, .slice A r.cs.length cap] 26) = W0 at *
  have h0 := h.fr0 f0
  have hc0 := hc.fr f0 (by simp)
  have hcd := hc0.fr (Fr.refl [] W0).drew (by simp)
  have b1 : W0.cell? ⟨b, 1, none⟩ = some (.int .i64 s.pos) := h0.blk.cell 1
  have r0 := hr0.cell 0
  have r1 := hr0.cell 1
  have hlb := h0.blk.lt
  have hlr := hr0.lt
  have hw1 : IntKind.i64.wrap (s.pos + 1) = s.pos + 1 := IntWalk.i64_in _ (by omega)
  go_region_held3 (fun w' => w'.cell? ⟨w.heap.size, 0, none⟩ = some (.int .i64 r.p) ∧ w'.cell? ⟨w.heap.size, 1, none⟩ = some (.slice A r.cs.length cap) ∧ w'.cell? ⟨b, 1, none⟩ = some (.int .i64 s.pos))
    (first | go_keep | exact ⟨(hcc _ _ hlr).trans r0, (hcc _ _ hlr).trans r1, (hcc _ _ hlb).trans b1⟩)
    (first
      | (go_at_call 93; refine (validRecord_any r A cap _ hcd hlen).mono ?_; rintro e w1 ⟨he, f1⟩; rw [HV.out] at he; subst he; obtain ⟨hcc, hff⟩ := f1.rules))
  have f01 : Fr [] W0 w1 := ((Fr.refl [] _).drew).trans f1
  have h1 := h0.fr0 f01
  have hc1 := hc0.fr f01 (by simp)
  have hr1 := hr0.fr f01 (by simp)
  have F1 : Fr [] w w1 := f0.trans f01
  clear f01 hcc hff f1 r0 r1 b1 hcd h0 hc0 hr0 f0 hw1
  by_cases hp : r.p = s.pos + 1
  · have hd : (r.p != s.pos + 1) = false := by simpa using hp
    have HP := Lib.hid hp
    clear hp
    obtain ⟨bb, off, hA, hbb, hcc⟩ := hc1 (by omega)
    subst hA
    have Hcc := Lib.hid hcc
    clear hcc
    have b0 : w1.cell? ⟨b, 0, none⟩ = some (.map (some m)) := h1.blk.cell 0
    have r1 : w1.cell? ⟨w.heap.size, 1, none⟩ = some (.slice (some ⟨bb, off, none⟩) r.cs.length cap) := hr1.cell 1
    have hm1 := h1.map
    have HFF : Hid (Sm.fits s r = Sm.fitsGo s.M s.M.length r.cs) := Lib.hid (by rw [HF.out, HV.out]; simp [HP.out])
    have R0 : FitsRel w b m s r.cs 0 s.M.length w1 := ⟨Nat.zero_le _, rfl, F1, by omega⟩
    have hval := Lib.hid (Rw.valid_chgs HV.out)
    have FW1 : Fr [] w1 w1 := Fr.refl _ _
    generalize r.cs = cs at *
    go_wp2_with (at_len; refine wpList_vlen _ rfl _ rfl Tryz.underlying107 m _ rfl hm1 ?_)
    clear b0 r1 hm1
    go_loopw [5, 33] (fun nv i wr => ∃ (k : Nat) (n : Int), (nv = .int .i64 n ∧ i = .int .i64 k) ∧ FitsRel w b m s cs k n wr ∧ Fr [] w1 wr) (fun _ i _ => cs.length - (intOf i).toNat)
    case atStart => exact ⟨0, _, ⟨rfl, rfl⟩, R0, FW1⟩
    case round =>
      clear R0 FW1
      obtain ⟨k, n, ⟨rfl, rfl⟩, ⟨hk, hgo, hfr, hn1, hn2⟩, hf1⟩ := hrel
      by_cases hlt : k < cs.length
      · have hck := Lib.hid (fun j hj => (hf1.cell (p := ⟨bb, off + k * 10 + j, none⟩) hbb (by simp)).trans (Hcc.out k hlt j hj))
        have hgo' : Sm.fitsGo s.M s.M.length cs = (Sm.meets s.M cs[k] && Sm.fitsGo s.M (Sm.grow n cs[k]) (cs.drop (k + 1))) := by
          rw [hgo, List.drop_eq_getElem_cons hlt]; rfl
        have HGO := Lib.hid hgo'
        have hcb := Rw.chg_bounds (hval.out _ (List.getElem_mem hlt))
        clear hgo hgo'
        generalize cs[k] = c at hck HGO hcb
        obtain ⟨t, kk, had, o0, o1, o2, has, n0, n1, n2⟩ := c
        dsimp only at hcb
        have c0 : wr.cell? ⟨bb, off + k * 10, none⟩ = some (.int .i64 t) := hck.out 0 (by decide)
        have c1 : wr.cell? ⟨bb, off + k * 10 + 1, none⟩ = some (.int .i64 kk) := hck.out 1 (by decide)
        have c2 : wr.cell? ⟨bb, off + k * 10 + 2, none⟩ = some (.bool had) := hck.out 2 (by decide)
        have c3 : wr.cell? ⟨bb, off + k * 10 + 3, none⟩ = some (.int .i64 o0) := hck.out 3 (by decide)
        have c4 : wr.cell? ⟨bb, off + k * 10 + 4, none⟩ = some (.int .i64 o1) := hck.out 4 (by decide)
        have c5 : wr.cell? ⟨bb, off + k * 10 + 5, none⟩ = some (.int .i64 o2) := hck.out 5 (by decide)
        have c6 : wr.cell? ⟨bb, off + k * 10 + 6, none⟩ = some (.bool has) := hck.out 6 (by decide)
        have c7 : wr.cell? ⟨bb, off + k * 10 + 7, none⟩ = some (.int .i64 n0) := hck.out 7 (by decide)
        have c8 : wr.cell? ⟨bb, off + k * 10 + 8, none⟩ = some (.int .i64 n1) := hck.out 8 (by decide)
        have c9 : wr.cell? ⟨bb, off + k * 10 + 9, none⟩ = some (.int .i64 n2) := hck.out 9 (by decide)
        clear hck
        have hs := hfr
        have h2 := h1.fr0 hf1
        have b0 : wr.cell? ⟨b, 0, none⟩ = some (.map (some m)) := h2.blk.cell 0
        have hlb2 := h2.blk.lt
        have hid : IdK.val (idOf t kk) = .agg #[.int .i64 t, .int .i64 kk] := by
          have := idOf_val (t := t) (k := kk) (okI_mk (by omega) (by omega)) (okI_mk (by omega) (by omega))
          unfold IdK.val
          rw [this]
        have hlk : ∀ o, (Instr.lookup 107 (.map (some m)) (.agg #[.int .i64 t, .int .i64 kk]) true).run Tryz.prog (wr.alloc o).drew = .ok (.tuple #[((mget s.M (idOf t kk)).map RowV.val).getD (.agg #[.int .i64 0, .int .i64 0, .int .i64 0, .int .i64 0, .int .i64 0]), .bool (mget s.M (idOf t kk)).isSome]) (wr.alloc o).drew := by
          intro o
          have h3 := VMap.look tyIdRow (h2.map.alloc o).drew (idOf t kk) trivial true
          rw [hid] at h3
          exact h3
        have hlk2 : ∀ o o', (Instr.lookup 107 (.map (some m)) (.agg #[.int .i64 t, .int .i64 kk]) true).run Tryz.prog ((wr.alloc o).alloc o').drew = .ok (.tuple #[((mget s.M (idOf t kk)).map RowV.val).getD (.agg #[.int .i64 0, .int .i64 0, .int .i64 0, .int .i64 0, .int .i64 0]), .bool (mget s.M (idOf t kk)).isSome]) ((wr.alloc o).alloc o').drew := by
          intro o o'
          have h3 := VMap.look tyIdRow ((h2.map.alloc o).alloc o').drew (idOf t kk) trivial true
          rw [hid] at h3
          exact h3
        clear hid
        have HM : Hid (Sm.meets s.M ⟨t, kk, had, o0, o1, o2, has, n0, n1, n2⟩ = match mget s.M (idOf t kk) with
          | some r => had && decide (r.x = o0 ∧ r.y = o1 ∧ r.z = o2)
          | none => !had) := Lib.hid rfl
        have hqn := neq_v3
        have hqg := eqGuard_v3
        cases hg : mget s.M (idOf t kk) with
        | none =>
          simp only [hg, Option.map_none, Option.getD_none, Option.isSome_none] at hlk hlk2
          have HM2 : Hid (Sm.meets s.M ⟨t, kk, had, o0, o1, o2, has, n0, n1, n2⟩ = !had) := Lib.hid (by rw [HM.out, hg])
          clear HM hg
          go_wp2_with fail
          go_region
          cases had
          · cases has
            · go_wp2_with fail
              go_roundw
              case rel => exact ⟨k + 1, n, ⟨rfl, by go_num⟩, ⟨by omega, by rw [HGO.out, HM2.out]; simp [Sm.grow], hfr.trans (((Fr.refl _ _).alloc _).alloc _).drew, by omega, by omega⟩, hf1.trans (((Fr.refl _ _).alloc _).alloc _).drew⟩
              case measure => simp [intOf]; omega
            · go_wp2_with fail
              go_roundw
              case rel => exact ⟨k + 1, n + 1, ⟨rfl, by go_num⟩, ⟨by omega, by rw [HGO.out, HM2.out]; simp [Sm.grow], hfr.trans (((Fr.refl _ _).alloc _).alloc _).drew, by omega, by omega⟩, hf1.trans (((Fr.refl _ _).alloc _).alloc _).drew⟩
              case measure => simp [intOf]; omega
          · have HFA : Hid (Sm.fits s r = false) := Lib.hid (by rw [HFF.out, HGO.out, HM2.out]; rfl)
            go_wp2_with fail
            go_ret
            exact ⟨by rw [HFA.out]; rfl, hfr.trans (((Fr.refl _ _).alloc _).alloc _).drew⟩
        | some u =>
          simp only [hg, Option.map_some, Option.getD_some, Option.isSome_some] at hlk hlk2
          have HM2 : Hid (Sm.meets s.M ⟨t, kk, had, o0, o1, o2, has, n0, n1, n2⟩ = (had && decide (u.x = o0 ∧ u.y = o1 ∧ u.z = o2))) := Lib.hid (by rw [HM.out, hg])
          clear HM hg
          cases had
          · have HFA : Hid (Sm.fits s r = false) := Lib.hid (by rw [HFF.out, HGO.out, HM2.out]; rfl)
            go_wp2_with fail
            go_region
            go_wp2_with fail
            go_ret
            exact ⟨by rw [HFA.out]; rfl, hfr.trans (((Fr.refl _ _).alloc _).alloc _).drew⟩
          · have hq := neq_v3 u.x u.y u.z o0 o1 o2
            by_cases he : u.x = o0 ∧ u.y = o1 ∧ u.z = o2
            · rw [decide_eq_true he] at hq HM2
              clear he hqn
              cases has
              · go_wp2_with fail
                go_region
                go_wp2_with fail
                go_roundw
                case rel => exact ⟨k + 1, n - 1, ⟨rfl, by go_num⟩, ⟨by omega, by rw [HGO.out, HM2.out]; simp [Sm.grow], hfr.trans (((Fr.refl _ _).alloc _).alloc _).drew, by omega, by omega⟩, hf1.trans (((Fr.refl _ _).alloc _).alloc _).drew⟩
                case measure => simp [intOf]; omega
              · go_wp2_with fail
                go_region
                go_wp2_with fail
                go_roundw
                case rel => exact ⟨k + 1, n, ⟨rfl, by go_num⟩, ⟨by omega, by rw [HGO.out, HM2.out]; simp [Sm.grow], hfr.trans (((Fr.refl _ _).alloc _).alloc _).drew, by omega, by omega⟩, hf1.trans (((Fr.refl _ _).alloc _).alloc _).drew⟩
                case measure => simp [intOf]; omega
            · rw [decide_eq_false he] at hq HM2
              have HFA : Hid (Sm.fits s r = false) := Lib.hid (by rw [HFF.out, HGO.out, HM2.out]; rfl)
              clear he hqn
              go_wp2_with fail
              go_region
              go_wp2_with fail
              go_ret
              exact ⟨by rw [HFA.out]; rfl, hfr.trans (((Fr.refl _ _).alloc _).alloc _).drew⟩
      · have HFA : Hid (Sm.fits s r = decide (n ≤ 2000)) := Lib.hid (by
          rw [HFF.out, hgo, List.drop_of_length_le (by omega)]
          rfl)
        clear hgo
        go_wp2_with fail
        go_ret
        exact ⟨by rw [HFA.out]; rfl, hfr⟩
  · have hd : (r.p != s.pos + 1) = true := by simpa using hp
    have HFF : Hid (Sm.fits s r = false) := Lib.hid (by rw [HF.out, HV.out]; simp [hp])
    clear hp
    go_wp2_with fail
    go_ret
    exact ⟨by rw [HFF.out]; rfl, F1⟩
end Go.Proofs.YtciaallekkdnhaaGreat
namespace Go.Proofs.YtciaallekkdnhaaGreat
open Go.RowKit

theorem after_no (c : Chg) (h : c.has = false) (w : World) : Calls Tryz.prog 50 #[c.val] w fun e w' =>
    e = .returned (.tuple #[rowVal 0 0 0 0 0, .bool false]) ∧ Fr [] w w' := by
  obtain ⟨t, k, had, o0, o1, o2, has, n0, n1, n2⟩ := c
  dsimp only at h
  subst h
  have F0 : Fr [] w ((w.alloc (.cells #[.int .i64 t, .int .i64 k, .bool had, .int .i64 o0, .int .i64 o1, .int .i64 o2, .bool false, .int .i64 n0, .int .i64 n1, .int .i64 n2] 59)).alloc (.cells #[.int .i64 0, .int .i64 0, .int .i64 0, .int .i64 0, .int .i64 0] 116)) := ((Fr.refl _ _).alloc _).alloc _
  have hB := Blk.new (w.alloc (.cells #[.int .i64 t, .int .i64 k, .bool had, .int .i64 o0, .int .i64 o1, .int .i64 o2, .bool false, .int .i64 n0, .int .i64 n1, .int .i64 n2] 59)) 116 #[.int .i64 0, .int .i64 0, .int .i64 0, .int .i64 0, .int .i64 0]
  rw [World.size_alloc] at hB
  have hh := half_no ⟨t, k, had, o0, o1, o2, false, n0, n1, n2⟩ n0 n1 n2
  unfold Chg.val rowVal at *
  go_enter Tryz.func50, Tryz.ntmps50
  go_wp2_with fail
  refine (hh _).mono ?_
  rintro e w1 ⟨rfl, f1⟩
  have F1 := F0.trans f1
  have hB1 := hB.fr f1 (by simp)
  have h0 := hB1.cell 0
  have h1 := hB1.cell 1
  have h2 := hB1.cell 2
  have h3 := hB1.cell 3
  have h4 := hB1.cell 4
  have z0 := hB1.frozen 0
  have z1 := hB1.frozen 1
  have z2 := hB1.frozen 2
  have z3 := hB1.frozen 3
  have z4 := hB1.frozen 4
  go_wp2_with fail
  refine bodyPost_ret (v := .tuple #[.agg #[.int .i64 0, .int .i64 0, .int .i64 0, .int .i64 0, .int .i64 0], .bool false]) (by simp [results, Tryz.results50, go_sem, h0, h1, h2, h3, h4]) rfl ⟨rfl, ?_⟩
  repeat first | exact F1 | refine Fr.setCell ?_ (.inr (by simp)) _
theorem after_yes (c : Chg) (h : c.has = true) (w : World) : Calls Tryz.prog 50 #[c.val] w fun e w' =>
    e = .returned (.tuple #[rowVal c.t c.k c.n0 c.n1 c.n2, .bool true]) ∧ Fr [] w w' := by
  obtain ⟨t, k, had, o0, o1, o2, has, n0, n1, n2⟩ := c
  dsimp only at h
  subst h
  have F0 : Fr [] w ((w.alloc (.cells #[.int .i64 t, .int .i64 k, .bool had, .int .i64 o0, .int .i64 o1, .int .i64 o2, .bool true, .int .i64 n0, .int .i64 n1, .int .i64 n2] 59)).alloc (.cells #[.int .i64 0, .int .i64 0, .int .i64 0, .int .i64 0, .int .i64 0] 116)) := ((Fr.refl _ _).alloc _).alloc _
  have hB := Blk.new (w.alloc (.cells #[.int .i64 t, .int .i64 k, .bool had, .int .i64 o0, .int .i64 o1, .int .i64 o2, .bool true, .int .i64 n0, .int .i64 n1, .int .i64 n2] 59)) 116 #[.int .i64 0, .int .i64 0, .int .i64 0, .int .i64 0, .int .i64 0]
  rw [World.size_alloc] at hB
  have hh := half_yes ⟨t, k, had, o0, o1, o2, true, n0, n1, n2⟩ n0 n1 n2
  unfold Chg.val rowVal at *
  go_enter Tryz.func50, Tryz.ntmps50
  go_wp2_with fail
  refine (hh _).mono ?_
  rintro e w1 ⟨rfl, f1⟩
  have F1 := F0.trans f1
  have hB1 := hB.fr f1 (by simp)
  have h0 := hB1.cell 0
  have h1 := hB1.cell 1
  have h2 := hB1.cell 2
  have h3 := hB1.cell 3
  have h4 := hB1.cell 4
  have z0 := hB1.frozen 0
  have z1 := hB1.frozen 1
  have z2 := hB1.frozen 2
  have z3 := hB1.frozen 3
  have z4 := hB1.frozen 4
  go_wp2_with fail
  refine bodyPost_ret (v := .tuple #[.agg #[.int .i64 t, .int .i64 k, .int .i64 n0, .int .i64 n1, .int .i64 n2], .bool true]) (by simp [results, Tryz.results50, go_sem, h0, h1, h2, h3, h4]) rfl ⟨rfl, ?_⟩
  repeat first | exact F1 | refine Fr.setCell ?_ (.inr (by simp)) _
end Go.Proofs.YtciaallekkdnhaaGreat
namespace Go.Proofs.YtciaallekkdnhaaGreat
open Go.RowKit

/-- At the head of each round of Apply. -/
def ApRel (w : World) (m : Nat) (s : Sm.Sta) (cs : List Chg) (k : Nat) (wr : World) : Prop := k ≤ cs.length ∧ VMap Tryz.prog 114 klId RowV.val wr m ((cs.take k).foldl Sm.put1 s.M) ∧ Fr [m] w wr

set_option maxRecDepth 100000 in
set_option maxHeartbeats 2000000 in
theorem sapply_any (b m : Nat) (s : Sm.Sta) (r : Rec) (A : Option Addr) (cap : Nat) (w : World) (h : StaAt w b m s) (hc : HoldsC w A r.cs) (hlen : r.cs.length ≤ maxLen) :
    Calls Tryz.prog 30 #[.pointer (some ⟨b, 0, none⟩), .agg #[.int .i64 r.p, .slice A r.cs.length cap]] w fun e w' => e = .returned (.int .i64 (Sm.code s r)) ∧ StaAt w' b m (Sm.apply s r) ∧ Fr [b, m] w w' := by
  have HC : Hid (Sm.code s r = if Sm.fits s r = true then 0 else 40) := Lib.hid rfl
  have HA : Hid (Sm.apply s r = if Sm.fits s r = true then ⟨r.cs.foldl Sm.put1 s.M, r.p⟩ else s) := Lib.hid rfl
  have HOK := h.ok.applied r
  have hnb := h.ne
  have f0 : Fr [] w (w.alloc (.cells #[.int .i64 r.p, .slice A r.cs.length cap] 26)) := (Fr.refl _ _).alloc _
  have hr0 := Blk.new w 26 #[.int .i64 r.p, .slice A r.cs.length cap]
  go_enter Tryz.func30, Tryz.ntmps30
  go_wp2_with fail
  generalize w.alloc (.cells #[.int .i64 r.p, .slice A r.cs.length cap] 26) = W0 at *
  have h0 := h.fr0 f0
  have hc0 := hc.fr f0 NoC.nil
  have r0 := hr0.cell 0
  have r1 := hr0.cell 1
  have hlr := hr0.lt
  have hbr : b ≠ w.heap.size := Nat.ne_of_lt h.lt.1
  have hmr : m ≠ w.heap.size := Nat.ne_of_lt h.lt.2
  refine (fits_any b m s r A cap _ h0 hc0.1 hlen).mono ?_
  rintro e w1 ⟨rfl, f1⟩
  have h1 := h0.fr0 f1
  have hc1 := hc0.fr f1 NoC.nil
  have hr1 := hr0.fr f1 (by simp)
  have F1 : Fr [] w w1 := f0.trans f1
  clear f1 r0 r1 h0 hc0 hr0 f0 hlr
  cases hf : Sm.fits s r
  · rw [hf] at HC HA
    clear hf HOK
    go_wp2_with fail
    go_ret
    exact ⟨by rw [HC.out]; rfl, by rw [HA.out]; exact h1, F1.mono (by simp)⟩
  · rw [hf] at HC HA
    have HV := Lib.hid (Rw.valid_chgs (r := r) (by
      simp only [Sm.fits, Bool.and_eq_true] at hf
      exact hf.1.1))
    have hlen8 : 1 ≤ r.cs.length ∧ r.cs.length ≤ 8 := by
      have h1 := hf
      simp only [Sm.fits, Rw.valid, Rw.inI, Bool.and_eq_true, decide_eq_true_eq] at h1
      omega
    clear hf
    rw [HA.out, if_pos rfl] at HOK
    have r0 := hr1.cell 0
    have r1 := hr1.cell 1
    have R0 : ApRel w1 m s r.cs 0 w1 := ⟨Nat.zero_le _, h1.map, Fr.refl _ _⟩
    obtain ⟨bb, off, hA, hbb, hcc⟩ := hc1.1 (by omega)
    clear hbb hcc
    subst hA
    have HL := Sm.fold_len
    have hml := h1.ok.len
    have hnd := h1.ok.nd
    generalize r.cs = cs at *
    go_wp2_with fail
    go_loopw [21] (fun i wr => ∃ k : Nat, i = .int .i64 k ∧ ApRel w1 m s cs k wr) (fun i _ => cs.length - (intOf i).toNat)
    case atStart => exact ⟨0, rfl, R0⟩
    case round =>
      clear R0 r0 r1
      obtain ⟨k, rfl, hk, hm1, hf1⟩ := hrel
      have hc2 := hc1.fr hf1 (NoC.cons (noC_map h1.map) NoC.nil)
      have hb2 := h1.blk.fr hf1 (by simpa using hnb.symm)
      have hr2 := hr1.fr hf1 (by simpa using hmr.symm)
      have b0 : wr.cell? ⟨b, 0, none⟩ = some (.map (some m)) := hb2.cell 0
      by_cases hlt : k < cs.length
      · obtain ⟨bb', off', hA', hbb, hcc⟩ := hc2.1 (by omega)
        cases hA'
        have hck := Lib.hid (fun j hj => hcc k hlt j hj)
        have hcb := Rw.chg_bounds (HV.out _ (List.getElem_mem hlt))
        have htk : (cs.take (k + 1)).foldl Sm.put1 s.M = Sm.put1 ((cs.take k).foldl Sm.put1 s.M) cs[k] := by
          rw [List.take_succ_eq_append_getElem hlt, List.foldl_append]
          rfl
        have HTK := Lib.hid htk
        have hsz : ((cs.take k).foldl Sm.put1 s.M).length < maxLen := by
          have := (HL (cs.take k) s.M hnd).2
          rw [List.length_take] at this
          simp only [maxLen]
          omega
        clear hcc htk
        generalize cs[k] = c at hck HTK hcb
        generalize (cs.take k).foldl Sm.put1 s.M = M at *
        obtain ⟨t, kk, had, o0, o1, o2, has, n0, n1, n2⟩ := c
        dsimp only at hcb
        have c0 : wr.cell? ⟨bb, off + k * 10, none⟩ = some (.int .i64 t) := hck.out 0 (by decide)
        have c1 : wr.cell? ⟨bb, off + k * 10 + 1, none⟩ = some (.int .i64 kk) := hck.out 1 (by decide)
        have c2 : wr.cell? ⟨bb, off + k * 10 + 2, none⟩ = some (.bool had) := hck.out 2 (by decide)
        have c3 : wr.cell? ⟨bb, off + k * 10 + 3, none⟩ = some (.int .i64 o0) := hck.out 3 (by decide)
        have c4 : wr.cell? ⟨bb, off + k * 10 + 4, none⟩ = some (.int .i64 o1) := hck.out 4 (by decide)
        have c5 : wr.cell? ⟨bb, off + k * 10 + 5, none⟩ = some (.int .i64 o2) := hck.out 5 (by decide)
        have c6 : wr.cell? ⟨bb, off + k * 10 + 6, none⟩ = some (.bool has) := hck.out 6 (by decide)
        have c7 : wr.cell? ⟨bb, off + k * 10 + 7, none⟩ = some (.int .i64 n0) := hck.out 7 (by decide)
        have c8 : wr.cell? ⟨bb, off + k * 10 + 8, none⟩ = some (.int .i64 n1) := hck.out 8 (by decide)
        have c9 : wr.cell? ⟨bb, off + k * 10 + 9, none⟩ = some (.int .i64 n2) := hck.out 9 (by decide)
        clear hck
        have hid : IdK.val (idOf t kk) = .agg #[.int .i64 t, .int .i64 kk] := by
          have := idOf_val (t := t) (k := kk) (okI_mk (by omega) (by omega)) (okI_mk (by omega) (by omega))
          unfold IdK.val
          rw [this]
        have HID := Lib.hid hid.symm
        clear hid
        have hI := Blk.new (wr.alloc (.cells #[.int .i64 t, .int .i64 kk, .bool had, .int .i64 o0, .int .i64 o1, .int .i64 o2, .bool has, .int .i64 n0, .int .i64 n1, .int .i64 n2] 59)) 114 #[.int .i64 t, .int .i64 kk]
        rw [World.size_alloc] at hI
        have FA : Fr [] wr ((wr.alloc (.cells #[.int .i64 t, .int .i64 kk, .bool had, .int .i64 o0, .int .i64 o1, .int .i64 o2, .bool has, .int .i64 n0, .int .i64 n1, .int .i64 n2] 59)).alloc (.cells #[.int .i64 t, .int .i64 kk] 114)) := ((Fr.refl _ _).alloc _).alloc _
        cases has
        · have hay := after_no ⟨t, kk, had, o0, o1, o2, false, n0, n1, n2⟩ rfl
          unfold Chg.val rowVal at hay
          go_wp2_with fail
          refine (hay _).mono ?_
          rintro e w2 ⟨rfl, f2⟩
          have F2 := FA.trans f2
          have hI2 := hI.fr f2 (by simp)
          clear f2 hI FA hay c0 c1 c2 c3 c4 c5 c6 c7 c8 c9
          have F3 := F2.alloc (.cells #[.int .i64 0, .int .i64 0, .int .i64 0, .int .i64 0, .int .i64 0] 116)
          have hI3 := hI2.fr ((Fr.refl [] w2).alloc (.cells #[.int .i64 0, .int .i64 0, .int .i64 0, .int .i64 0, .int .i64 0] 116)) (by simp)
          have hR3 := Blk.new w2 116 #[.int .i64 0, .int .i64 0, .int .i64 0, .int .i64 0, .int .i64 0]
          have i0 := hI3.cell 0
          have i1 := hI3.cell 1
          have y0 := hR3.cell 0
          have y1 := hR3.cell 1
          have y2 := hR3.cell 2
          have y3 := hR3.cell 3
          have y4 := hR3.cell 4
          have b3 := (hb2.fr F3 (by simp)).cell 0
          go_wp2_with fail
          generalize w2.alloc (.cells #[.int .i64 0, .int .i64 0, .int .i64 0, .int .i64 0, .int .i64 0] 116) = W3 at *
          go_still_tail 6, (by kernel_rfl)
          have hm3 : VMap Tryz.prog 114 klId RowV.val W3.drew m M := (hm1.fr F3 (by simp)).drew
          have F4 : Fr [] wr W3.drew := F3.drew
          change wpList _ _ _ _ _ W3.drew
          generalize W3.drew = W4 at hm3 F4 ⊢
          clear F3 hI3 hR3 i0 i1 y0 y1 y2 y3 y4 b3 F2 hI2
          go_wp2_with (at_delete; refine wpList_vdel _ rfl _ _ rfl tyIdRow m _ rfl hm3 (idOf t kk) HID.out trivial ?_; intro w6 hm6 ht6)
          go_roundw
          case rel => exact ⟨k + 1, by go_num, by omega, by rw [HTK.out]; exact hm6, (hf1.trans (F4.mono (by simp))).trans (turned_fr ht6 (by simp))⟩
          case measure => simp [intOf]; omega
        · have hay := after_yes ⟨t, kk, had, o0, o1, o2, true, n0, n1, n2⟩ rfl
          unfold Chg.val rowVal at hay
          go_wp2_with fail
          refine (hay _).mono ?_
          rintro e w2 ⟨rfl, f2⟩
          have F2 := FA.trans f2
          have hI2 := hI.fr f2 (by simp)
          clear f2 hI FA hay c0 c1 c2 c3 c4 c5 c6 c7 c8 c9
          have F3 := F2.alloc (.cells #[.int .i64 t, .int .i64 kk, .int .i64 n0, .int .i64 n1, .int .i64 n2] 116)
          have hI3 := hI2.fr ((Fr.refl [] w2).alloc (.cells #[.int .i64 t, .int .i64 kk, .int .i64 n0, .int .i64 n1, .int .i64 n2] 116)) (by simp)
          have hR3 := Blk.new w2 116 #[.int .i64 t, .int .i64 kk, .int .i64 n0, .int .i64 n1, .int .i64 n2]
          have i0 := hI3.cell 0
          have i1 := hI3.cell 1
          have y0 := hR3.cell 0
          have y1 := hR3.cell 1
          have y2 := hR3.cell 2
          have y3 := hR3.cell 3
          have y4 := hR3.cell 4
          have b3 := (hb2.fr F3 (by simp)).cell 0
          go_wp2_with fail
          generalize w2.alloc (.cells #[.int .i64 t, .int .i64 kk, .int .i64 n0, .int .i64 n1, .int .i64 n2] 116) = W3 at *
          go_still_tail 7, (by kernel_rfl)
          have hm3 : VMap Tryz.prog 114 klId RowV.val W3.drew m M := (hm1.fr F3 (by simp)).drew
          have F4 : Fr [] wr W3.drew := F3.drew
          change wpList _ _ _ _ _ W3.drew
          generalize W3.drew = W4 at hm3 F4 ⊢
          clear F3 hI3 hR3 i0 i1 y0 y1 y2 y3 y4 b3 F2 hI2
          go_wp2_with (at_mapUpdate; refine wpList_vstore _ rfl _ _ _ rfl tyIdRow m _ rfl hm3 (idOf t kk) ⟨t, kk, n0, n1, n2⟩ HID.out rfl trivial hsz ?_; intro w6 hm6 ht6)
          go_roundw
          case rel => exact ⟨k + 1, by go_num, by omega, by rw [HTK.out]; exact hm6, (hf1.trans (F4.mono (by simp))).trans (turned_fr ht6 (by simp))⟩
          case measure => simp [intOf]; omega
      · have hke : cs.take k = cs := List.take_of_length_le (by omega)
        rw [hke] at hm1
        have r0 := hr2.cell 0
        have z1 := hb2.frozen 1
        have b1 := hb2.cell 1
        have hb3 := hb2.set_ 1 (.int .i64 r.p)
        have FS : Fr [b] wr (wr.setCell ⟨b, 1, none⟩ (.int .i64 r.p)) := (Fr.refl _ _).setCell (.inl (by simp)) _
        have hm3 := hm1.fr FS (by simpa using hnb)
        have F5 : Fr [b, m] w (wr.setCell ⟨b, 1, none⟩ (.int .i64 r.p)) := ((F1.mono (by simp)).trans (hf1.mono (by simp))).trans (FS.mono (by simp))
        clear hke FS
        go_wp2_with fail
        go_ret
        refine ⟨by rw [HC.out]; rfl, ?_, F5⟩
        rw [HA.out]
        simp only [↓reduceIte]
        exact ⟨by simpa using hb3, hm3, HOK⟩
end Go.Proofs.YtciaallekkdnhaaGreat
namespace Go.Proofs.YtciaallekkdnhaaGreat

/-- A change of a small log. -/
structure LgC (c : Chg) : Prop where
  t0 : 0 ≤ c.t
  t1 : c.t ≤ 2
  k0 : 1 ≤ c.k
  k1 : c.k ≤ 9
  new : c.has = true → (0 ≤ c.n0 ∧ c.n0 ≤ 9) ∧ (1 ≤ c.n1 ∧ c.n1 ≤ 9) ∧ (-20 ≤ c.n2 ∧ c.n2 ≤ 19)

namespace Lg
/-- The state that a log leaves. -/
def run (l : List Rec) : Sm.Sta := l.foldl Sm.apply Sm.new
structure Ok (l : List Rec) : Prop where
  fits : ∀ i (h : i < l.length), Sm.fits (run (l.take i)) l[i] = true
  small : ∀ r ∈ l, ∀ c ∈ r.cs, LgC c
theorem run_nil : run [] = Sm.new := rfl
theorem run_snoc (l : List Rec) (r : Rec) : run (l ++ [r]) = Sm.apply (run l) r := by simp [run]
theorem ok_nil : Ok [] := ⟨fun i h => absurd h (by simp), by simp⟩
theorem Ok.snoc {l : List Rec} {r : Rec} (h : Ok l) (hf : Sm.fits (run l) r = true) (hs : ∀ c ∈ r.cs, LgC c) : Ok (l ++ [r]) := by
  refine ⟨fun i hi => ?_, fun q hq => ?_⟩
  · rw [List.length_append, List.length_singleton] at hi
    rcases Nat.lt_or_ge i l.length with h1 | h1
    · rw [List.take_append_of_le_length (by omega), List.getElem_append_left h1]
      exact h.fits i h1
    · have : i = l.length := by omega
      subst this
      rw [List.take_left, List.getElem_append_right (Nat.le_refl _)]
      simpa using hf
  · rcases List.mem_append.1 hq with h1 | h1
    · exact h.small q h1
    · rw [List.mem_singleton] at h1
      subst h1
      exact hs
theorem code_zero {s : Sm.Sta} {r : Rec} : Sm.code s r = 0 ↔ Sm.fits s r = true := by
  unfold Sm.code
  split <;> simp_all
end Lg
end Go.Proofs.YtciaallekkdnhaaGreat
namespace Go.Proofs.YtciaallekkdnhaaGreat
open Go.RowKit

/-- A record that waits: what it is, and where its changes lie. -/
structure WRec where
  r : Rec
  A : Option Addr
  cap : Nat
  le : r.cs.length ≤ cap
@[reducible] def WRec.val (v : WRec) : Value := .agg #[.int .i64 v.r.p, .slice v.A v.r.cs.length v.cap]
def WRec.cells (u : WRec) : List Value := [.int .i64 u.r.p, .slice u.A u.r.cs.length u.cap]
theorem WRec.len (u : WRec) : u.cells.length = 2 := rfl
theorem WRec.one (u : WRec) : ∀ v ∈ u.cells, v.oneCell' = true := by
  intro v hv
  simp only [WRec.cells, List.mem_cons, List.not_mem_nil, or_false] at hv
  rcases hv with rfl | rfl <;> rfl
/-- v is a row that holds the records out. -/
def OwnR (w : World) (v : Value) (out : List Rec) : Prop := ∃ us : List WRec, OwnL 26 2 WRec.cells w v us ∧ us.map (·.r) = out ∧ ∀ u ∈ us, HoldsC w u.A u.r.cs ∧ u.r.cs.length ≤ 8
theorem OwnR.nil (w : World) : OwnR w (.slice none 0 0) [] := ⟨[], OwnL.nil, rfl, by simp⟩
theorem OwnR.fr {w w' : World} {v : Value} {out : List Rec} {S : List Nat} (h : OwnR w v out) (hf : Fr S w w') (hs : ∀ g, v.ownBlock = some g → g ∉ S) (hn : NoC w S) : OwnR w' v out := by
  obtain ⟨us, h1, h2, h3⟩ := h
  exact ⟨us, h1.fr hf hs, h2, fun u hu => ⟨(h3 u hu).1.fr hf hn, (h3 u hu).2⟩⟩
theorem OwnL.ne_map {X K V : Type} {e size : Nat} {enc : X → List Value} {w : World} {v : Value} {L : List X} {P : Program} {k : TypeId} {kl : K → Lit} {ev : V → Value} {b : Nat} {M : List (K × V)} (h : OwnL e size enc w v L) (hb : VMap P k kl ev w b M) {g : Nat} (hg : v.ownBlock = some g) : g ≠ b := by
  rcases h.2 with ⟨rfl, _⟩ | ⟨g', cap, cur, rfl, _, hh, _⟩
  · simp [Value.ownBlock] at hg
  · rintro rfl
    simp [Value.ownBlock] at hg
    subst hg
    exact (hb.ne hh) rfl
theorem OwnL.keep0 {X : Type} {e size : Nat} {enc : X → List Value} {w w' : World} {v : Value} {L : List X} (h : OwnL e size enc w v L) (hf : Fr [] w w') : OwnL e size enc w' v L := h.fr hf (by simp)
theorem OwnR.keep0 {w w' : World} {v : Value} {out : List Rec} (h : OwnR w v out) (hf : Fr [] w w') : OwnR w' v out := h.fr hf (by simp) NoC.nil
theorem OwnR.at1 {w : World} {A : Option Addr} {n cap : Nat} {out : List Rec} (h : OwnR w (.slice A n cap) out) : ∃ us : List WRec, AtL WRec.cells 2 w A us ∧ n = us.length ∧ us.map (·.r) = out ∧ ∀ u ∈ us, ChgsAt w u.A u.r.cs ∧ u.r.cs.length ≤ 8 := by
  obtain ⟨us, h1, h2, h3⟩ := h
  obtain ⟨h4, h5⟩ := h1.at1 WRec.len
  exact ⟨us, h4, h5, h2, fun u hu => ⟨(h3 u hu).1.1, (h3 u hu).2⟩⟩
end Go.Proofs.YtciaallekkdnhaaGreat
