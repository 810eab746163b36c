/-
  Arguments that are slices of rows, and results.
-/
import Derived.Test.YtlicjokgcahmlaaQry
import Derived.Deep.Slices
import Derived.Laws.IdiomArrays
namespace Go.Proofs.Ytlicjokgcahmlaa
open Go.RowKit Go.WideShapes Go.ChangeShapes

/-- The integers of a row fit. -/
structure RowFit (r : RowV) : Prop where
  t : okI r.t
  k : okI r.k
  x : okI r.x
  y : okI r.y
  z : okI r.z
set_option maxRecDepth 100000 in
theorem rowCells : Try.prog.cellsOf 31 = 5 := by kernel_rfl
set_option maxRecDepth 100000 in
theorem threeCells : Try.prog.cellsOf 29 = 3 := by kernel_rfl
set_option maxRecDepth 100000 in
theorem boolCells : Try.prog.cellsOf 4 = 1 := by kernel_rfl
set_option maxRecDepth 100000 in
theorem rowsCells : Try.prog.cellsOf 25 = 1 := by kernel_rfl
set_option maxRecDepth 100000 in
theorem rsCells : Try.prog.cellsOf 27 = 3 := by kernel_rfl
section
variable {H : Type} {enc : TypeId × Value → H} {W : World}
set_option maxRecDepth 100000 in
theorem open_rowc {n : Nat} {cs : List Value} {x : DataW H × List MemPlace} (h : DataW.trod enc Try.prog W 0 (fun _ => true) true n 31 cs = some x) : ∃ c : RowV, cs = c.cells ∧ RowFit c := by
  obtain ⟨xs, m, _, _, hl, hxl, hat⟩ := DataW.trod_struct Try.underlying31 h
  rw [rowCells] at hl
  obtain ⟨c0, c1, c2, c3, c4, rfl⟩ : ∃ c0 c1 c2 c3 c4, cs = [c0, c1, c2, c3, c4] := by
    match cs, hl with
    | [c0, c1, c2, c3, c4], _ => exact ⟨_, _, _, _, _, rfl⟩
  have hxs : xs.length = 3 := hxl
  have h0 : DataW.trod enc Try.prog W 0 (fun _ => true) true m 3 (([c0, c1, c2, c3, c4].drop 0).take (Try.prog.cellsOf 3)) = xs[0]? := hat 0 _ rfl
  have h1 : DataW.trod enc Try.prog W 0 (fun _ => true) true m 3 (([c0, c1, c2, c3, c4].drop 1).take (Try.prog.cellsOf 3)) = xs[1]? := hat 1 _ rfl
  have h2 : DataW.trod enc Try.prog W 0 (fun _ => true) true m 29 (([c0, c1, c2, c3, c4].drop 2).take (Try.prog.cellsOf 29)) = xs[2]? := hat 2 _ rfl
  rw [List.getElem?_eq_getElem (by omega)] at h0 h1 h2
  rw [qryInt] at h0 h1
  rw [threeCells] at h2
  obtain ⟨z0, e0, _, w0⟩ := DataW.trod_int Try.underlying3 h0
  obtain ⟨z1, e1, _, w1⟩ := DataW.trod_int Try.underlying3 h1
  obtain ⟨y2, y3, y4, n2, _, g2, g3, g4⟩ := trod_array3 (c0 := c2) (c1 := c3) (c2 := c4) Try.underlying29 qryInt h2
  obtain ⟨z2, e2, _, w2⟩ := DataW.trod_int Try.underlying3 g2
  obtain ⟨z3, e3, _, w3⟩ := DataW.trod_int Try.underlying3 g3
  obtain ⟨z4, e4, _, w4⟩ := DataW.trod_int Try.underlying3 g4
  have k0 : [c0] = [Value.int .i64 z0] := e0
  have k1 : [c1] = [Value.int .i64 z1] := e1
  injection k0 with k0
  injection k1 with k1
  injection e2 with k2
  injection e3 with k3
  injection e4 with k4
  subst k0 k1 k2 k3 k4
  exact ⟨⟨z0, z1, z2, z3, z4⟩, rfl, ⟨w0, w1, w2, w3, w4⟩⟩
theorem addr_add (b o j : Nat) : (⟨b, o, none⟩ : Addr).add j = ⟨b, o + j, none⟩ := by unfold Addr.add; split <;> simp_all
/-- Rows that were handed in. -/
theorem open_rowsv {n : Nat} {cv : Value} {x : DataW H × List MemPlace} (h : DataW.trod enc Try.prog W 0 (fun _ => true) true n 25 [cv] = some x) :
    ∃ A len cap cs, cv = .slice A len cap ∧ len ≤ cap ∧ cap ≤ maxLen ∧ cs.length = len ∧ RowsAt W A cs ∧ ∀ c ∈ cs, RowFit c := by
  rcases Go.Deep.open_slice Try.underlying25 h with ⟨hcs, _⟩ | ⟨a, len, cap, m, n, D, Pl, hcs, _, hl, hm, hmm, _, hi⟩
  · injection hcs with hcs
    subst hcs
    exact ⟨none, 0, 0, [], rfl, Nat.le_refl _, by simp [maxLen], rfl, fun h => absurd h (by simp), by simp⟩
  · injection hcs with hcs
    subst hcs
    simp only [if_true] at hmm
    subst hmm
    have each : ∀ i, i < len → ∃ c : RowV, (∀ j, j < 5 → W.cell? ((a.add (i * 5)).add j) = c.cells[j]?) ∧ RowFit c := fun i hil => by
      obtain ⟨cs', hc, ht⟩ := hi i (by omega)
      rw [rowCells] at hc
      obtain ⟨c, rfl, hf⟩ := open_rowc ht
      obtain ⟨_, hcl, hcell⟩ := World.cells?_some hc
      exact ⟨c, fun j hj => hcell j hj, hf⟩
    refine ⟨some a, len, _, (List.range len).map (fun i => if h : i < len then (each i h).choose else ⟨0, 0, 0, 0, 0⟩), rfl, hl, hm, by simp, fun hp => ?_, fun c hc => ?_⟩
    · have h0 : 0 < len := by simpa using hp
      obtain ⟨b, off, spot⟩ := a
      have hz := (each 0 h0).choose_spec.1 0 (by decide)
      generalize (each 0 h0).choose = c0 at hz
      have hz' : W.cell? ((({ block := b, off := off, spot := spot } : Addr).add (0 * 5)).add 0) = some (.int .i64 c0.t) := hz
      have hspot : spot = none := by simpa [Addr.add] using World.cell?_spot hz'
      subst hspot
      refine ⟨b, off, rfl, ?_, fun i hil j hj => ?_⟩
      · have h4 := World.block_lt_of_cell? W _ hz'
        simpa [Addr.add] using h4
      · have hil' : i < len := by simpa using hil
        have h5 := (each i hil').choose_spec.1 j hj
        have e5 : ((⟨b, off, none⟩ : Addr).add (i * 5)).add j = ⟨b, off + i * 5 + j, none⟩ := by rw [addr_add, addr_add]
        rw [← e5]
        refine h5.trans ?_
        simp only [List.getElem_map, List.getElem_range, dif_pos hil']
    · obtain ⟨i, hir, rfl⟩ := List.mem_map.1 hc
      have hil : i < len := by simpa using hir
      rw [dif_pos hil]
      exact (each i hil).choose_spec.2
set_option maxRecDepth 100000 in
theorem open_rows {base : Nat} {v : Value} {d : DataW H} {p : List MemPlace} (hv : Value.okWide Try.prog W .any base 25 v)
    (h : DataW.Trod enc Try.prog W 0 (fun _ => true) true 25 v d p) :
    ∃ A n cap L, v = .slice A n cap ∧ n ≤ cap ∧ cap ≤ maxLen ∧ L.length = n ∧ RowsAt W A L ∧ ∀ r ∈ L, RowFit r := by
  obtain ⟨a0, len, cap, rfl⟩ := okWide_slice Try.underlying25 hv
  obtain ⟨fuel, hf⟩ := h
  obtain ⟨A, n, c, cs, e, h1, h2, h3, h4, h5⟩ := open_rowsv (cv := .slice a0 len cap) hf
  exact ⟨A, n, c, cs, e, h1, h2, h3, h4, h5⟩
set_option maxRecDepth 100000 in
theorem open_result {base : Nat} {v : Value} {d : DataW H} {p : List MemPlace} (hv : Value.okWide Try.prog W .any base 27 v)
    (h : DataW.Trod enc Try.prog W 0 (fun _ => true) true 27 v d p) :
    ∃ A n cap L z f, v = .agg #[.slice A n cap, .int .i64 z, .bool f] ∧ n ≤ cap ∧ cap ≤ maxLen ∧ L.length = n ∧ RowsAt W A L ∧ okI z := by
  obtain ⟨arr, rfl, hs⟩ := okWide_struct Try.underlying27 hv
  rw [rsCells] at hs
  obtain ⟨c0, c1, c2, rfl⟩ : ∃ c0 c1 c2, arr = #[c0, c1, c2] := by
    obtain ⟨l⟩ := arr
    match l, hs with
    | [c0, c1, c2], _ => exact ⟨_, _, _, rfl⟩
  obtain ⟨fuel, hf⟩ := h
  obtain ⟨xs, m, _, _, hl, hxl, hat⟩ := DataW.trod_struct Try.underlying27 hf
  have hxs : xs.length = 3 := hxl
  have h0 : DataW.trod enc Try.prog W 0 (fun _ => true) true m 25 (([c0, c1, c2].drop 0).take (Try.prog.cellsOf 25)) = xs[0]? := hat 0 _ rfl
  have h1 : DataW.trod enc Try.prog W 0 (fun _ => true) true m 3 (([c0, c1, c2].drop 1).take (Try.prog.cellsOf 3)) = xs[1]? := hat 1 _ rfl
  have h2 : DataW.trod enc Try.prog W 0 (fun _ => true) true m 4 (([c0, c1, c2].drop 2).take (Try.prog.cellsOf 4)) = xs[2]? := hat 2 _ rfl
  rw [List.getElem?_eq_getElem (by omega)] at h0 h1 h2
  rw [rowsCells] at h0
  rw [qryInt] at h1
  rw [boolCells] at h2
  obtain ⟨A, n, c, cs, e, g1, g2, g3, g4, g5⟩ := open_rowsv (cv := c0) h0
  obtain ⟨z1, e1, _, w1⟩ := DataW.trod_int Try.underlying3 h1
  obtain ⟨z2, e2, _⟩ := DataW.trod_bool Try.underlying4 h2
  have k1 : [c1] = [Value.int .i64 z1] := e1
  have k2 : [c2] = [Value.bool z2] := e2
  injection k1 with k1
  injection k2 with k2
  subst e k1 k2
  exact ⟨A, n, c, cs, z1, z2, rfl, g1, g2, g3, g4, w1⟩
end
end Go.Proofs.Ytlicjokgcahmlaa
