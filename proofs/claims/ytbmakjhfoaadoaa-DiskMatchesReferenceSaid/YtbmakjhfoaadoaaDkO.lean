/-
  Arguments of the disk's laws: a slice of writes, a slice of calls.
-/
import Derived.Test.YtbmakjhfoaadoaaDkA
import Derived.OpenShut
namespace Go.Proofs.Ytbmakjhfoaadoaa
open Go.RowKit Go.WideShapes Go.ChangeShapes

/-- An element of []WriteParams. -/
structure Wp where
  off : Int
  s : List UInt8
  sync : Bool
structure WpsAt (w : World) (b off : Nat) (xs : List Wp) : Prop where
  c0 : ∀ i (h : i < xs.length), w.cell? ⟨b, off + i * 3, none⟩ = some (.int .i64 xs[i].off)
  c1 : ∀ i (h : i < xs.length), w.cell? ⟨b, off + i * 3 + 1, none⟩ = some (.string ⟨xs[i].s.toArray⟩)
  c2 : ∀ i (h : i < xs.length), w.cell? ⟨b, off + i * 3 + 2, none⟩ = some (.bool xs[i].sync)
  wf : ∀ x ∈ xs, okI x.off ∧ x.s.length ≤ maxLen
  lt : 0 < xs.length → b < w.heap.size
theorem WpsAt.fr0 {w w' : World} {b off : Nat} {xs : List Wp} (h : WpsAt w b off xs) (hf : Fr [] w w') : WpsAt w' b off xs :=
  ⟨fun i hi => (hf.rules.1 b _ (h.lt (by omega))).trans (h.c0 i hi), fun i hi => (hf.rules.1 b _ (h.lt (by omega))).trans (h.c1 i hi), fun i hi => (hf.rules.1 b _ (h.lt (by omega))).trans (h.c2 i hi), h.wf, fun hl => Nat.lt_of_lt_of_le (h.lt hl) hf.size⟩
set_option maxRecDepth 100000 in
theorem wpCells : Try.prog.cellsOf 53 = 3 := by kernel_rfl
set_option maxRecDepth 100000 in
theorem open_wps {H : Type} {enc : TypeId × Value → H} {W : World} {base : Nat} {v : Value} {d : DataW H} {p : List MemPlace} (hv : Value.okWide Try.prog W .any base 51 v)
    (h : DataW.Trod enc Try.prog W 0 (fun _ => true) true 51 v d p) :
    ∃ A n cap xs, v = .slice A n cap ∧ xs.length = n ∧ n ≤ maxLen ∧ (n = 0 ∨ ∃ b off, A = some ⟨b, off, none⟩ ∧ WpsAt W b off xs) := by
  obtain ⟨a0, len, cap, rfl⟩ := okWide_slice Try.underlying51 hv
  obtain ⟨fuel, hf⟩ := h
  rcases open_slice_fields Try.underlying51 Try.underlying53 (by kernel_rfl) wpCells hf with ⟨hcs, hx⟩ | ⟨a, len', cap', m, D, Pl, hcs, _, hl, hm, hmm, hx, hcell⟩
  · simp [Value.cells] at hcs
    obtain ⟨rfl, rfl, rfl⟩ := hcs
    exact ⟨_, _, _, [], rfl, rfl, by simp [maxLen], .inl rfl⟩
  · simp [Value.cells] at hcs
    obtain ⟨rfl, rfl, rfl⟩ := hcs
    simp only [if_true] at hmm
    subst hmm
    have hall : ∀ i, i < len → ∃ x : Wp, (W.cell? (a.add (i * 3)) = some (.int .i64 x.off) ∧ W.cell? (a.add (i * 3 + 1)) = some (.string ⟨x.s.toArray⟩) ∧ W.cell? (a.add (i * 3 + 2)) = some (.bool x.sync)) ∧ okI x.off ∧ x.s.length ≤ maxLen := by
      intro i hi
      obtain ⟨ys, n, _, _, _, hfl⟩ := hcell i (by omega)
      obtain ⟨v0, y0, c0, _, t0⟩ := hfl 0 _ rfl
      obtain ⟨v1, y1, c1, _, t1⟩ := hfl 1 _ rfl
      obtain ⟨v2, y2, c2, _, t2⟩ := hfl 2 _ rfl
      obtain ⟨x0, e0, _, w0⟩ := DataW.trod_int Try.underlying3 t0
      obtain ⟨x1, e1, _, w1⟩ := DataW.trod_string Try.underlying9 t1
      obtain ⟨x2, e2, _⟩ := DataW.trod_bool Try.underlying4 t2
      simp at e0 e1 e2
      subst e0 e1 e2
      exact ⟨⟨x0, x1.data.toList, x2⟩, ⟨c0, by simpa using c1, c2⟩, w0, w1⟩
    obtain ⟨xs, hxl, hxs⟩ := list_of_all len hall
    refine ⟨_, _, _, xs, rfl, hxl, by omega, ?_⟩
    rcases Nat.eq_zero_or_pos len with h0 | h0
    · exact .inl h0
    · right
      obtain ⟨b, off, spot⟩ := a
      have hspot : spot = none := by simpa [Addr.add] using World.cell?_spot (hxs 0 (by omega)).1.1
      subst hspot
      have hadd : ∀ j, (⟨b, off, none⟩ : Addr).add j = ⟨b, off + j, none⟩ := fun j => by unfold Addr.add; split <;> simp_all
      refine ⟨b, off, rfl, fun i hi => ?_, fun i hi => ?_, fun i hi => ?_, fun x hx => ?_, fun _ => ?_⟩
      · rw [← hadd]; exact (hxs i hi).1.1
      · rw [Nat.add_assoc, ← hadd]; exact (hxs i hi).1.2.1
      · rw [Nat.add_assoc, ← hadd]; exact (hxs i hi).1.2.2
      · obtain ⟨i, hi, rfl⟩ := List.getElem_of_mem hx
        exact (hxs i hi).2
      · exact World.block_lt_of_cell? W _ (hxs 0 (by omega)).1.1

/-- An element of []StepParams: a call, and the numbers to keep. -/
structure Stp where
  call : Int
  off : Int
  n : Int
  s : List UInt8
  A : Option Addr
  cap : Nat
  keep : List Int
/-- A slice of integers that was handed in. -/
def IntsIn (w : World) (A : Option Addr) (zs : List Int) : Prop := zs = [] ∨ ∃ b off, A = some ⟨b, off, none⟩ ∧ IntsAt w b off zs
theorem IntsIn.fr0 {w w' : World} {A : Option Addr} {zs : List Int} (h : IntsIn w A zs) (hf : Fr [] w w') : IntsIn w' A zs := by
  rcases h with h | ⟨b, off, e, h⟩
  · exact .inl h
  · exact .inr ⟨b, off, e, h.fr hf⟩
theorem IntsIn.take {w : World} {A : Option Addr} {zs : List Int} (h : IntsIn w A zs) (n : Nat) : IntsIn w A (zs.take n) := by
  rcases h with h | ⟨b, off, e, h⟩
  · exact .inl (by rw [h]; simp)
  · exact .inr ⟨b, off, e, ⟨fun i hi => by
      rw [List.length_take] at hi
      rw [h.cell i (by omega), List.getElem_take], fun x hx => h.wf x (List.mem_of_mem_take hx), fun hl => h.lt (by rw [List.length_take] at hl; omega)⟩⟩
structure StpsAt (w : World) (b off : Nat) (xs : List Stp) : Prop where
  c0 : ∀ i (h : i < xs.length), w.cell? ⟨b, off + i * 5, none⟩ = some (.int .i64 xs[i].call)
  c1 : ∀ i (h : i < xs.length), w.cell? ⟨b, off + i * 5 + 1, none⟩ = some (.int .i64 xs[i].off)
  c2 : ∀ i (h : i < xs.length), w.cell? ⟨b, off + i * 5 + 2, none⟩ = some (.int .i64 xs[i].n)
  c3 : ∀ i (h : i < xs.length), w.cell? ⟨b, off + i * 5 + 3, none⟩ = some (.string ⟨xs[i].s.toArray⟩)
  c4 : ∀ i (h : i < xs.length), w.cell? ⟨b, off + i * 5 + 4, none⟩ = some (.slice xs[i].A xs[i].keep.length xs[i].cap)
  keep : ∀ x ∈ xs, IntsIn w x.A x.keep ∧ x.keep.length ≤ x.cap ∧ x.cap ≤ maxLen
  wf : ∀ x ∈ xs, okI x.call ∧ okI x.off ∧ okI x.n ∧ x.s.length ≤ maxLen
  lt : 0 < xs.length → b < w.heap.size
theorem StpsAt.fr0 {w w' : World} {b off : Nat} {xs : List Stp} (h : StpsAt w b off xs) (hf : Fr [] w w') : StpsAt w' b off xs :=
  ⟨fun i hi => (hf.rules.1 b _ (h.lt (by omega))).trans (h.c0 i hi), fun i hi => (hf.rules.1 b _ (h.lt (by omega))).trans (h.c1 i hi), fun i hi => (hf.rules.1 b _ (h.lt (by omega))).trans (h.c2 i hi),
    fun i hi => (hf.rules.1 b _ (h.lt (by omega))).trans (h.c3 i hi), fun i hi => (hf.rules.1 b _ (h.lt (by omega))).trans (h.c4 i hi), fun x hx => ⟨(h.keep x hx).1.fr0 hf, (h.keep x hx).2⟩, h.wf, fun hl => Nat.lt_of_lt_of_le (h.lt hl) hf.size⟩
set_option maxRecDepth 100000 in
theorem stpCells : Try.prog.cellsOf 39 = 5 := by kernel_rfl
/-- A slice of integers within a datum. -/
theorem open_intsIn {H : Type} {enc : TypeId × Value → H} {W : World} {n : Nat} {cv : Value} {x : DataW H × List MemPlace} (h : DataW.trod enc Try.prog W 0 (fun _ => true) true n 37 [cv] = some x) :
    ∃ A zs cap, cv = .slice A zs.length cap ∧ IntsIn W A zs ∧ zs.length ≤ cap ∧ cap ≤ maxLen := by
  rcases open_ints Try.underlying37 Try.underlying3 intCells h with ⟨hcs, hx⟩ | ⟨a, len', cap', zs, hcs, _, hl, hm, hz, hx, hcell, hwz⟩
  · injection hcs with hcs
    subst hcs
    exact ⟨none, [], 0, rfl, .inl rfl, Nat.le_refl _, by simp [maxLen]⟩
  · injection hcs with hcs
    subst hcs
    simp only [if_true] at hz
    have hlen : (zs.take len').length = len' := by rw [List.length_take]; omega
    refine ⟨some a, zs.take len', cap', by rw [hlen], ?_, by rw [hlen]; exact hl, hm⟩
    rcases Nat.eq_zero_or_pos len' with h0 | h0
    · exact .inl (by rw [h0]; simp)
    · right
      obtain ⟨b, off, spot⟩ := a
      have hspot : spot = none := by simpa [Addr.add] using World.cell?_spot (hcell 0 (by omega))
      subst hspot
      have hadd : ∀ j, (⟨b, off, none⟩ : Addr).add j = ⟨b, off + j, none⟩ := fun j => by unfold Addr.add; split <;> simp_all
      refine ⟨b, off, rfl, fun i hi => ?_, fun x hx => hwz x (List.mem_of_mem_take hx), fun _ => World.block_lt_of_cell? W _ (hcell 0 (by omega))⟩
      have := hcell i (by omega)
      rw [hadd] at this
      rw [this, List.getElem_take]
      simp [List.getD_eq_getElem?_getD, List.getElem?_eq_getElem (show i < zs.length by omega)]
set_option maxRecDepth 100000 in
theorem open_keep {H : Type} {enc : TypeId × Value → H} {W : World} {base : Nat} {v : Value} {d : DataW H} {p : List MemPlace} (hv : Value.okWide Try.prog W .any base 37 v)
    (h : DataW.Trod enc Try.prog W 0 (fun _ => true) true 37 v d p) : ∃ A zs cap, v = .slice A zs.length cap ∧ IntsIn W A zs ∧ zs.length ≤ cap ∧ cap ≤ maxLen := by
  obtain ⟨a0, len, cap, rfl⟩ := okWide_slice Try.underlying37 hv
  obtain ⟨fuel, hf⟩ := h
  exact open_intsIn (by simpa [Value.cells] using hf)
set_option maxRecDepth 100000 in
theorem open_stps {H : Type} {enc : TypeId × Value → H} {W : World} {base : Nat} {v : Value} {d : DataW H} {p : List MemPlace} (hv : Value.okWide Try.prog W .any base 32 v)
    (h : DataW.Trod enc Try.prog W 0 (fun _ => true) true 32 v d p) :
    ∃ A n cap xs, v = .slice A n cap ∧ xs.length = n ∧ n ≤ maxLen ∧ (n = 0 ∨ ∃ b off, A = some ⟨b, off, none⟩ ∧ StpsAt W b off xs) := by
  obtain ⟨a0, len, cap, rfl⟩ := okWide_slice Try.underlying32 hv
  obtain ⟨fuel, hf⟩ := h
  rcases open_slice_fields Try.underlying32 Try.underlying39 (by kernel_rfl) stpCells hf with ⟨hcs, hx⟩ | ⟨a, len', cap', m, D, Pl, hcs, _, hl, hm, hmm, hx, hcell⟩
  · simp [Value.cells] at hcs
    obtain ⟨rfl, rfl, rfl⟩ := hcs
    exact ⟨_, _, _, [], rfl, rfl, by simp [maxLen], .inl rfl⟩
  · simp [Value.cells] at hcs
    obtain ⟨rfl, rfl, rfl⟩ := hcs
    simp only [if_true] at hmm
    subst hmm
    have hall : ∀ i, i < len → ∃ x : Stp, (W.cell? (a.add (i * 5)) = some (.int .i64 x.call) ∧ W.cell? (a.add (i * 5 + 1)) = some (.int .i64 x.off) ∧ W.cell? (a.add (i * 5 + 2)) = some (.int .i64 x.n) ∧ W.cell? (a.add (i * 5 + 3)) = some (.string ⟨x.s.toArray⟩) ∧ W.cell? (a.add (i * 5 + 4)) = some (.slice x.A x.keep.length x.cap)) ∧
        (IntsIn W x.A x.keep ∧ x.keep.length ≤ x.cap ∧ x.cap ≤ maxLen) ∧ okI x.call ∧ okI x.off ∧ okI x.n ∧ x.s.length ≤ maxLen := by
      intro i hi
      obtain ⟨ys, n, _, _, _, hfl⟩ := hcell i (by omega)
      obtain ⟨v0, y0, c0, _, t0⟩ := hfl 0 _ rfl
      obtain ⟨v1, y1, c1, _, t1⟩ := hfl 1 _ rfl
      obtain ⟨v2, y2, c2, _, t2⟩ := hfl 2 _ rfl
      obtain ⟨v3, y3, c3, _, t3⟩ := hfl 3 _ rfl
      obtain ⟨v4, y4, c4, _, t4⟩ := hfl 4 _ rfl
      obtain ⟨x0, e0, _, w0⟩ := DataW.trod_int Try.underlying3 t0
      obtain ⟨x1, e1, _, w1⟩ := DataW.trod_int Try.underlying3 t1
      obtain ⟨x2, e2, _, w2⟩ := DataW.trod_int Try.underlying3 t2
      obtain ⟨x3, e3, _, w3⟩ := DataW.trod_string Try.underlying9 t3
      obtain ⟨A4, zs, cap4, e4, k1, k2, k3⟩ := open_intsIn t4
      simp at e0 e1 e2 e3
      subst e0 e1 e2 e3 e4
      exact ⟨⟨x0, x1, x2, x3.data.toList, A4, cap4, zs⟩, ⟨c0, c1, c2, by simpa using c3, c4⟩, ⟨k1, k2, k3⟩, w0, w1, w2, w3⟩
    obtain ⟨xs, hxl, hxs⟩ := list_of_all len hall
    refine ⟨_, _, _, xs, rfl, hxl, by omega, ?_⟩
    rcases Nat.eq_zero_or_pos len with h0 | h0
    · exact .inl h0
    · right
      obtain ⟨b, off, spot⟩ := a
      have hspot : spot = none := by simpa [Addr.add] using World.cell?_spot (hxs 0 (by omega)).1.1
      subst hspot
      have hadd : ∀ j, (⟨b, off, none⟩ : Addr).add j = ⟨b, off + j, none⟩ := fun j => by unfold Addr.add; split <;> simp_all
      refine ⟨b, off, rfl, fun i hi => ?_, fun i hi => ?_, fun i hi => ?_, fun i hi => ?_, fun i hi => ?_, fun x hx => ?_, fun x hx => ?_, fun _ => ?_⟩
      · rw [← hadd]; exact (hxs i hi).1.1
      · rw [Nat.add_assoc, ← hadd]; exact (hxs i hi).1.2.1
      · rw [Nat.add_assoc, ← hadd]; exact (hxs i hi).1.2.2.1
      · rw [Nat.add_assoc, ← hadd]; exact (hxs i hi).1.2.2.2.1
      · rw [Nat.add_assoc, ← hadd]; exact (hxs i hi).1.2.2.2.2
      · obtain ⟨i, hi, rfl⟩ := List.getElem_of_mem hx
        exact (hxs i hi).2.1
      · obtain ⟨i, hi, rfl⟩ := List.getElem_of_mem hx
        exact (hxs i hi).2.2
      · exact World.block_lt_of_cell? W _ (hxs 0 (by omega)).1.1
end Go.Proofs.Ytbmakjhfoaadoaa
