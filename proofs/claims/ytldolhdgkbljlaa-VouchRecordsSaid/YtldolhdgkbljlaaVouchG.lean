/-
  'pick', and a slice of steps that came in.
-/
import Derived.Test.YtldolhdgkbljlaaVouchF
import Derived.Test.YtldolhdgkbljlaaLaw
namespace Go.Proofs.Ytldolhdgkbljlaa
open Go.RowKit Go.WideShapes Go.ChangeShapes

/-- 'pick'. -/
def pickI (c n : Int) : Int := (if c < 0 then -(c + 1) else c) % n
theorem pickI_nonneg (c : Int) {n : Int} (h : 1 ≤ n) : 0 ≤ pickI c n := Int.emod_nonneg _ (by omega)
theorem pickI_lt (c : Int) {n : Int} (h : 1 ≤ n) : pickI c n < n := Int.emod_lt_of_pos _ (by omega)
set_option maxRecDepth 100000 in
theorem pick_any (c n : Int) (w : World) (h1 : -9223372036854775808 ≤ c) (h2 : c ≤ 9223372036854775807) (h3 : 1 ≤ n) (h4 : n ≤ 1000000000) :
    Calls Try.prog 17 #[.int .i64 c, .int .i64 n] w fun e w' => e = .returned (.int .i64 (pickI c n)) ∧ w = w' := by
  have hn : (n == 0) = false := by simp; omega
  have hn' : ¬ n = 0 := by omega
  by_cases hc : c < 0
  · go_enter Try.func17, Try.ntmps17
    go_wp2
    go_ret
    have e1 : pickI c n = -(c + 1) % n := by unfold pickI; rw [if_pos hc]
    rw [e1]
    refine ⟨?_, rfl⟩
    show Ending.returned (.int .i64 (-((c + 1).tmod n))) = _
    rw [← Int.neg_tmod, Int.tmod_eq_emod_of_nonneg (by omega)]
  · go_enter Try.func17, Try.ntmps17
    go_wp2
    go_ret
    have e1 : pickI c n = c % n := by unfold pickI; rw [if_neg (by omega)]
    rw [e1]
    refine ⟨by simp, rfl⟩

structure Stp where
  call : Int
  pos : Int
  time : Int

/-- The elements of a slice of steps. -/
structure StepsAt (w : World) (b off : Nat) (xs : List Stp) : Prop where
  cell0 : ∀ i (h : i < xs.length), w.cell? ⟨b, off + i * 3, none⟩ = some (.int .i64 xs[i].call)
  cell1 : ∀ i (h : i < xs.length), w.cell? ⟨b, off + i * 3 + 1, none⟩ = some (.int .i64 xs[i].pos)
  cell2 : ∀ i (h : i < xs.length), w.cell? ⟨b, off + i * 3 + 2, none⟩ = some (.int .i64 xs[i].time)
  wf : ∀ x ∈ xs, okI x.call ∧ okI x.pos ∧ okI x.time
  lt : 0 < xs.length → b < w.heap.size
theorem StepsAt.fr {w w' : World} {b off : Nat} {xs : List Stp} (h : StepsAt w b off xs) (hf : Fr [] w w') : StepsAt w' b off xs :=
  ⟨fun i hi => (hf.rules.1 b _ (h.lt (by omega))).trans (h.cell0 i hi), fun i hi => (hf.rules.1 b _ (h.lt (by omega))).trans (h.cell1 i hi), fun i hi => (hf.rules.1 b _ (h.lt (by omega))).trans (h.cell2 i hi), h.wf, fun hl => Nat.lt_of_lt_of_le (h.lt hl) hf.size⟩

theorem stepCells : Try.prog.cellsOf 34 = 3 := by kernel_rfl

set_option maxRecDepth 100000 in
theorem open_steps {H : Type} {enc : TypeId × Value → H} {W : World} {base : Nat} {v : Value} {d : DataW H} {p : List MemPlace} (hv : Value.okWide Try.prog W .any base 23 v)
    (h : DataW.Trod enc Try.prog W 0 (fun _ => true) true 23 v d p) (_hlt : ∀ x ∈ p, x.block < W.heap.size) :
    ∃ A n cap xs, v = .slice A n cap ∧ xs.length = n ∧ n ≤ maxLen ∧ (n = 0 ∨ ∃ b off, A = some ⟨b, off, none⟩ ∧ StepsAt W b off xs) := by
  obtain ⟨a0, len, cap, rfl⟩ := okWide_slice Try.underlying23 hv
  obtain ⟨fuel, hf⟩ := h
  rcases open_slice_fields Try.underlying23 Try.underlying34 (by kernel_rfl) stepCells hf with ⟨hcs, hx⟩ | ⟨a, len', cap', m, D, Pl, hcs, _, hl, hm, hmm, hx, hcell⟩
  · simp [Value.cells] at hcs
    obtain ⟨rfl, rfl, rfl⟩ := hcs
    exact ⟨_, _, _, [], rfl, rfl, by simp [maxLen], .inl rfl⟩
  · simp [Value.cells] at hcs
    obtain ⟨rfl, rfl, rfl⟩ := hcs
    simp only [if_true] at hmm
    subst hmm
    have hall : ∀ i, i < len → ∃ x : Stp, (W.cell? (a.add (i * 3)) = some (.int .i64 x.call) ∧ W.cell? (a.add (i * 3 + 1)) = some (.int .i64 x.pos) ∧ W.cell? (a.add (i * 3 + 2)) = some (.int .i64 x.time)) ∧ okI x.call ∧ okI x.pos ∧ okI x.time := by
      intro i hi
      obtain ⟨ys, n, _, _, _, hfl⟩ := hcell i (by omega)
      obtain ⟨v0, y0, c0, _, t0⟩ := hfl 0 _ rfl
      obtain ⟨v1, y1, c1, _, t1⟩ := hfl 1 _ rfl
      obtain ⟨v2, y2, c2, _, t2⟩ := hfl 2 _ rfl
      obtain ⟨x0, e0, _, w0⟩ := DataW.trod_int Try.underlying3 t0
      obtain ⟨x1, e1, _, w1⟩ := DataW.trod_int Try.underlying3 t1
      obtain ⟨x2, e2, _, w2⟩ := DataW.trod_int Try.underlying3 t2
      simp at e0 e1 e2
      subst e0 e1 e2
      exact ⟨⟨x0, x1, x2⟩, ⟨c0, c1, c2⟩, w0, w1, w2⟩
    obtain ⟨xs, hxl, hxs⟩ := list_of_all len hall
    refine ⟨_, _, _, xs, rfl, hxl, by omega, ?_⟩
    rcases Nat.eq_zero_or_pos len with h0 | h0
    · exact .inl h0
    · right
      obtain ⟨b, off, spot⟩ := a
      have hspot : spot = none := by simpa [Addr.add] using World.cell?_spot (hxs 0 (by omega)).1.1
      subst hspot
      have hadd : ∀ j, (⟨b, off, none⟩ : Addr).add j = ⟨b, off + j, none⟩ := fun j => by unfold Addr.add; split <;> simp_all
      refine ⟨b, off, rfl, fun i hi => ?_, fun i hi => ?_, fun i hi => ?_, fun x hx => ?_, fun _ => ?_⟩
      · rw [← hadd]; exact (hxs i hi).1.1
      · rw [Nat.add_assoc, ← hadd]; exact (hxs i hi).1.2.1
      · rw [Nat.add_assoc, ← hadd]; exact (hxs i hi).1.2.2
      · obtain ⟨i, hi, rfl⟩ := List.getElem_of_mem hx
        exact (hxs i hi).2
      · exact World.block_lt_of_cell? W _ (hxs 0 (by omega)).1.1
end Go.Proofs.Ytldolhdgkbljlaa
