/-
  An argument that is a slice of the law's steps; a record.
-/
import Derived.Test.YtciaallekkdnhaaGreatMuQ
import Derived.Test.YtciaallekkdnhaaGreatMuO
import Derived.Test.YtciaallekkdnhaaGreatJl
namespace Go.Proofs.YtciaallekkdnhaaGreat
open Go.RowKit Go.WideShapes Go.ChangeShapes

/-- A step of the law. -/
structure Stp where
  call : Int
  id : Int
  x0 : Int
  x1 : Int
  x2 : Int
  x3 : Int
  x4 : Int
  raw : Qry
def Stp.cells (s : Stp) : List Value := [.int .i64 s.call, .int .i64 s.id, .int .i64 s.x0, .int .i64 s.x1, .int .i64 s.x2, .int .i64 s.x3, .int .i64 s.x4, .int .i64 s.raw.kind, .int .i64 s.raw.table, .int .i64 s.raw.column, .int .i64 s.raw.low, .int .i64 s.raw.high, .int .i64 s.raw.by_, .int .i64 s.raw.other]
structure Stp.Fit (s : Stp) : Prop where
  call : okI s.call
  id : okI s.id
  x0 : okI s.x0
  x1 : okI s.x1
  x2 : okI s.x2
  x3 : okI s.x3
  x4 : okI s.x4
/-- n steps in memory. -/
structure StpAt (w : World) (b off n : Nat) : Prop where
  cell : ∀ i, i < n → ∃ s : Stp, s.Fit ∧ ∀ j, j < 14 → w.cell? ⟨b, off + i * 14 + j, none⟩ = s.cells[j]?
  lt : b < w.heap.size
theorem StpAt.fr0 {w w' : World} {b off n : Nat} (h : StpAt w b off n) (hf : Fr [] w w') : StpAt w' b off n :=
  ⟨fun i hi => by
    obtain ⟨s, h1, h2⟩ := h.cell i hi
    exact ⟨s, h1, fun j hj => (hf.rules.1 b _ h.lt).trans (h2 j hj)⟩, Nat.lt_of_lt_of_le h.lt hf.size⟩
set_option maxRecDepth 100000 in
theorem stpCells : Tryz.prog.cellsOf 37 = 14 := by kernel_rfl
section
variable {H : Type} {enc : TypeId × Value → H} {W : World}
set_option maxRecDepth 100000 in
theorem open_qryL {n : Nat} {cs : List Value} {x : DataW H × List MemPlace} (h : DataW.trod enc Tryz.prog W 0 (fun _ => true) true n 35 cs = some x) : ∃ q : Qry, cs = [.int .i64 q.kind, .int .i64 q.table, .int .i64 q.column, .int .i64 q.low, .int .i64 q.high, .int .i64 q.by_, .int .i64 q.other] := by
  obtain ⟨xs, m, _, _, hl, hxl, hat⟩ := DataW.trod_struct Tryz.underlying35 h
  rw [qryCells] at hl
  obtain ⟨c0, c1, c2, c3, c4, c5, c6, rfl⟩ : ∃ c0 c1 c2 c3 c4 c5 c6, cs = [c0, c1, c2, c3, c4, c5, c6] := by
    match cs, hl with
    | [c0, c1, c2, c3, c4, c5, c6], _ => exact ⟨_, _, _, _, _, _, _, rfl⟩
  have hxs : xs.length = 7 := hxl
  have h0 : DataW.trod enc Tryz.prog W 0 (fun _ => true) true m 3 (([c0, c1, c2, c3, c4, c5, c6].drop 0).take (Tryz.prog.cellsOf 3)) = xs[0]? := hat 0 _ rfl
  have h1 : DataW.trod enc Tryz.prog W 0 (fun _ => true) true m 3 (([c0, c1, c2, c3, c4, c5, c6].drop 1).take (Tryz.prog.cellsOf 3)) = xs[1]? := hat 1 _ rfl
  have h2 : DataW.trod enc Tryz.prog W 0 (fun _ => true) true m 3 (([c0, c1, c2, c3, c4, c5, c6].drop 2).take (Tryz.prog.cellsOf 3)) = xs[2]? := hat 2 _ rfl
  have h3 : DataW.trod enc Tryz.prog W 0 (fun _ => true) true m 3 (([c0, c1, c2, c3, c4, c5, c6].drop 3).take (Tryz.prog.cellsOf 3)) = xs[3]? := hat 3 _ rfl
  have h4 : DataW.trod enc Tryz.prog W 0 (fun _ => true) true m 3 (([c0, c1, c2, c3, c4, c5, c6].drop 4).take (Tryz.prog.cellsOf 3)) = xs[4]? := hat 4 _ rfl
  have h5 : DataW.trod enc Tryz.prog W 0 (fun _ => true) true m 3 (([c0, c1, c2, c3, c4, c5, c6].drop 5).take (Tryz.prog.cellsOf 3)) = xs[5]? := hat 5 _ rfl
  have h6 : DataW.trod enc Tryz.prog W 0 (fun _ => true) true m 3 (([c0, c1, c2, c3, c4, c5, c6].drop 6).take (Tryz.prog.cellsOf 3)) = xs[6]? := hat 6 _ rfl
  rw [List.getElem?_eq_getElem (by omega), qryInt] at h0 h1 h2 h3 h4 h5 h6
  obtain ⟨z0, e0, _, -⟩ := DataW.trod_int Tryz.underlying3 h0
  obtain ⟨z1, e1, _, -⟩ := DataW.trod_int Tryz.underlying3 h1
  obtain ⟨z2, e2, _, -⟩ := DataW.trod_int Tryz.underlying3 h2
  obtain ⟨z3, e3, _, -⟩ := DataW.trod_int Tryz.underlying3 h3
  obtain ⟨z4, e4, _, -⟩ := DataW.trod_int Tryz.underlying3 h4
  obtain ⟨z5, e5, _, -⟩ := DataW.trod_int Tryz.underlying3 h5
  obtain ⟨z6, e6, _, -⟩ := DataW.trod_int Tryz.underlying3 h6
  have k0 : [c0] = [Value.int .i64 z0] := e0
  have k1 : [c1] = [Value.int .i64 z1] := e1
  have k2 : [c2] = [Value.int .i64 z2] := e2
  have k3 : [c3] = [Value.int .i64 z3] := e3
  have k4 : [c4] = [Value.int .i64 z4] := e4
  have k5 : [c5] = [Value.int .i64 z5] := e5
  have k6 : [c6] = [Value.int .i64 z6] := e6
  injection k0 with k0
  injection k1 with k1
  injection k2 with k2
  injection k3 with k3
  injection k4 with k4
  injection k5 with k5
  injection k6 with k6
  subst k0 k1 k2 k3 k4 k5 k6
  exact ⟨⟨z0, z1, z2, z3, z4, z5, z6⟩, rfl⟩
set_option maxRecDepth 100000 in
theorem open_stp {n : Nat} {cs : List Value} {x : DataW H × List MemPlace} (h : DataW.trod enc Tryz.prog W 0 (fun _ => true) true n 37 cs = some x) : ∃ s : Stp, cs = s.cells ∧ s.Fit := by
  obtain ⟨xs, m, _, _, hl, hxl, hat⟩ := DataW.trod_struct Tryz.underlying37 h
  rw [stpCells] at hl
  obtain ⟨c0, c1, c2, c3, c4, c5, c6, c7, c8, c9, c10, c11, c12, c13, rfl⟩ : ∃ c0 c1 c2 c3 c4 c5 c6 c7 c8 c9 c10 c11 c12 c13, cs = [c0, c1, c2, c3, c4, c5, c6, c7, c8, c9, c10, c11, c12, c13] := by
    match cs, hl with
    | [c0, c1, c2, c3, c4, c5, c6, c7, c8, c9, c10, c11, c12, c13], _ => exact ⟨_, _, _, _, _, _, _, _, _, _, _, _, _, _, rfl⟩
  have hxs : xs.length = 4 := hxl
  have h0 : DataW.trod enc Tryz.prog W 0 (fun _ => true) true m 3 (([c0, c1, c2, c3, c4, c5, c6, c7, c8, c9, c10, c11, c12, c13].drop 0).take (Tryz.prog.cellsOf 3)) = xs[0]? := hat 0 _ rfl
  have h1 : DataW.trod enc Tryz.prog W 0 (fun _ => true) true m 3 (([c0, c1, c2, c3, c4, c5, c6, c7, c8, c9, c10, c11, c12, c13].drop 1).take (Tryz.prog.cellsOf 3)) = xs[1]? := hat 1 _ rfl
  have h2 : DataW.trod enc Tryz.prog W 0 (fun _ => true) true m 33 (([c0, c1, c2, c3, c4, c5, c6, c7, c8, c9, c10, c11, c12, c13].drop 2).take (Tryz.prog.cellsOf 33)) = xs[2]? := hat 2 _ rfl
  have h3 : DataW.trod enc Tryz.prog W 0 (fun _ => true) true m 35 (([c0, c1, c2, c3, c4, c5, c6, c7, c8, c9, c10, c11, c12, c13].drop 7).take (Tryz.prog.cellsOf 35)) = xs[3]? := hat 3 _ rfl
  rw [List.getElem?_eq_getElem (by omega)] at h0 h1 h2 h3
  rw [qryInt] at h0 h1
  rw [fivCells] at h2
  rw [qryCells] at h3
  obtain ⟨z0, e0, _, w0⟩ := DataW.trod_int Tryz.underlying3 h0
  obtain ⟨z1, e1, _, w1⟩ := DataW.trod_int Tryz.underlying3 h1
  obtain ⟨q, eq⟩ := open_qryL h3
  obtain ⟨ys, q5, _, _, hlen, hyl, hat5⟩ := DataW.trod_array Tryz.underlying33 h2
  have g0 := hat5 0 (by decide)
  have g1 := hat5 1 (by decide)
  have g2 := hat5 2 (by decide)
  have g3 := hat5 3 (by decide)
  have g4 := hat5 4 (by decide)
  rw [fivInt, List.getElem?_eq_getElem (by omega)] at g0 g1 g2 g3 g4
  obtain ⟨y0, f0, _, v0⟩ := DataW.trod_int Tryz.underlying3 g0
  obtain ⟨y1, f1, _, v1⟩ := DataW.trod_int Tryz.underlying3 g1
  obtain ⟨y2, f2, _, v2⟩ := DataW.trod_int Tryz.underlying3 g2
  obtain ⟨y3, f3, _, v3⟩ := DataW.trod_int Tryz.underlying3 g3
  obtain ⟨y4, f4, _, v4⟩ := DataW.trod_int Tryz.underlying3 g4
  have k2 : [c2] = [Value.int .i64 y0] := f0
  have k3 : [c3] = [Value.int .i64 y1] := f1
  have k4 : [c4] = [Value.int .i64 y2] := f2
  have k5 : [c5] = [Value.int .i64 y3] := f3
  have k6 : [c6] = [Value.int .i64 y4] := f4
  have k0 : [c0] = [Value.int .i64 z0] := e0
  have k1 : [c1] = [Value.int .i64 z1] := e1
  injection k0 with k0
  injection k1 with k1
  injection k2 with k2
  injection k3 with k3
  injection k4 with k4
  injection k5 with k5
  injection k6 with k6
  have eq' : [c7, c8, c9, c10, c11, c12, c13] = [Value.int .i64 q.kind, .int .i64 q.table, .int .i64 q.column, .int .i64 q.low, .int .i64 q.high, .int .i64 q.by_, .int .i64 q.other] := eq
  simp only [List.cons.injEq, and_true] at eq'
  obtain ⟨m0, m1, m2, m3, m4, m5, m6⟩ := eq'
  subst k0 k1 k2 k3 k4 k5 k6 m0 m1 m2 m3 m4 m5 m6
  exact ⟨⟨z0, z1, y0, y1, y2, y3, y4, q⟩, rfl, ⟨w0, w1, v0, v1, v2, v3, v4⟩⟩
set_option maxRecDepth 100000 in
theorem open_stps8 {base : Nat} {v : Value} {d : DataW H} {p : List MemPlace} (hv : Value.okWide Tryz.prog W .any base 22 v)
    (h : DataW.Trod enc Tryz.prog W 0 (fun _ => true) true 22 v d p) :
    ∃ A n cap, v = .slice A n cap ∧ n ≤ cap ∧ cap ≤ maxLen ∧ (n = 0 ∨ ∃ b off, A = some ⟨b, off, none⟩ ∧ StpAt W b off n) := by
  obtain ⟨a0, len, cap, rfl⟩ := okWide_slice Tryz.underlying22 hv
  obtain ⟨fuel, hf⟩ := h
  rcases Go.Deep.open_slice Tryz.underlying22 hf with ⟨hcs, hx⟩ | ⟨a, len', cap', m, n, D, Pl, hcs, _, hl, hm, hmm, hx, hi⟩
  · simp [Value.cells] at hcs
    obtain ⟨rfl, rfl, rfl⟩ := hcs
    exact ⟨_, _, _, rfl, Nat.le_refl _, by simp [maxLen], .inl rfl⟩
  · simp [Value.cells] at hcs
    obtain ⟨rfl, rfl, rfl⟩ := hcs
    simp only [if_true] at hmm
    subst hmm
    refine ⟨_, _, _, rfl, hl, hm, ?_⟩
    rcases Nat.eq_zero_or_pos len with h0 | h0
    · exact .inl h0
    · right
      have each : ∀ i, i < len → ∃ s : Stp, s.Fit ∧ ∀ j, j < 14 → W.cell? ((a.add (i * 14)).add j) = s.cells[j]? := fun i hil => by
        obtain ⟨cs', hc, ht⟩ := hi i (by omega)
        rw [stpCells] at hc
        obtain ⟨s, rfl, hfit⟩ := open_stp ht
        obtain ⟨_, hcl, hcell⟩ := World.cells?_some hc
        exact ⟨s, hfit, fun j hj => hcell j hj⟩
      obtain ⟨b, off, spot⟩ := a
      obtain ⟨s0, _, hz0⟩ := each 0 h0
      have hz0 := hz0 0 (by decide)
      have e0 : s0.cells[0]? = some (.int .i64 s0.call) := rfl
      rw [e0] at hz0
      have hspot : spot = none := by simpa [Addr.add] using World.cell?_spot hz0
      subst hspot
      refine ⟨b, off, rfl, fun i hil => ?_, ?_⟩
      · obtain ⟨s, h3, h4⟩ := each i hil
        refine ⟨s, h3, fun j hj => ?_⟩
        have h5 := h4 j hj
        rwa [addr_add, addr_add] at h5
      · have h4 := World.block_lt_of_cell? W _ hz0
        simpa [Addr.add] using h4
set_option maxRecDepth 100000 in
/-- A record that was handed in. -/
theorem open_record {base : Nat} {v : Value} {d : DataW H} {p : List MemPlace} (hv : Value.okWide Tryz.prog W .any base 26 v)
    (h : DataW.Trod enc Tryz.prog W 0 (fun _ => true) true 26 v d p) :
    ∃ z A n cap cs, v = .agg #[.int .i64 z, .slice A n cap] ∧ n ≤ cap ∧ cap ≤ maxLen ∧ cs.length = n ∧ ChgsAt W A cs ∧ ∀ c ∈ cs, ChgFit c := by
  obtain ⟨arr, rfl, hs⟩ := okWide_struct Tryz.underlying26 hv
  rw [recCells] at hs
  obtain ⟨c0, c1, rfl⟩ : ∃ c0 c1, arr = #[c0, c1] := by
    obtain ⟨l⟩ := arr
    match l, hs with
    | [c0, c1], _ => exact ⟨_, _, rfl⟩
  obtain ⟨fuel, hf⟩ := h
  obtain ⟨xs, m, _, _, hl, hxl, hat⟩ := DataW.trod_struct Tryz.underlying26 hf
  have hxs : xs.length = 2 := hxl
  have h0 : DataW.trod enc Tryz.prog W 0 (fun _ => true) true m 3 (([c0, c1].drop 0).take (Tryz.prog.cellsOf 3)) = xs[0]? := hat 0 _ rfl
  have h1 : DataW.trod enc Tryz.prog W 0 (fun _ => true) true m 24 (([c0, c1].drop 1).take (Tryz.prog.cellsOf 24)) = xs[1]? := hat 1 _ rfl
  rw [List.getElem?_eq_getElem (by omega)] at h0 h1
  rw [qryInt] at h0
  rw [chgsCells] at h1
  obtain ⟨z0, e0, _, _⟩ := DataW.trod_int Tryz.underlying3 h0
  obtain ⟨A, n, cap, cs, e1, g1, g2, g3, g4, g5⟩ := open_chgs (cv := c1) h1
  have k0 : [c0] = [Value.int .i64 z0] := e0
  injection k0 with k0
  subst k0 e1
  exact ⟨z0, A, n, cap, cs, rfl, g1, g2, g3, g4, g5⟩
end
end Go.Proofs.YtciaallekkdnhaaGreat
