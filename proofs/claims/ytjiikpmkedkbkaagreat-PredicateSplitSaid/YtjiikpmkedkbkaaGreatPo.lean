/-
  Arguments of law 07: a query, rows, a result, a change, five integers.
-/
import Derived.Test.YtjiikpmkedkbkaaGreatMaj
import Derived.Test.YtjiikpmkedkbkaaGreatMan
import Derived.OpenShut
import Derived.ChangeArms
import Derived.Deep.Slices
import Derived.Laws.IdiomArrays
namespace Go.Proofs.YtjiikpmkedkbkaaGreat
open Go.RowKit Go.WideShapes Go.ChangeShapes


/-- The integers of a query fit. -/
structure QryFit (q : Qry) : Prop where
  k : okI q.kind
  t : okI q.table
  c : okI q.column
  lo : okI q.low
  hi : okI q.high
  b : okI q.by_
  o : okI q.other
set_option maxRecDepth 100000 in
theorem qryCells : Tryz.prog.cellsOf 28 = 7 := by kernel_rfl
set_option maxRecDepth 100000 in
theorem qryInt : Tryz.prog.cellsOf 3 = 1 := by kernel_rfl
set_option maxRecDepth 100000 in
theorem open_query {H : Type} {enc : TypeId × Value → H} {W : World} {base : Nat} {v : Value} {d : DataW H} {p : List MemPlace} (hv : Value.okWide Tryz.prog W .any base 28 v)
    (h : DataW.Trod enc Tryz.prog W 0 (fun _ => true) true 28 v d p) : ∃ q : Qry, v = q.val ∧ QryFit q := by
  obtain ⟨arr, rfl, hs⟩ := okWide_struct Tryz.underlying28 hv
  rw [qryCells] at hs
  obtain ⟨c0, c1, c2, c3, c4, c5, c6, rfl⟩ : ∃ c0 c1 c2 c3 c4 c5 c6, arr = #[c0, c1, c2, c3, c4, c5, c6] := by
    obtain ⟨l⟩ := arr
    match l, hs with
    | [c0, c1, c2, c3, c4, c5, c6], _ => exact ⟨_, _, _, _, _, _, _, rfl⟩
  obtain ⟨fuel, hf⟩ := h
  obtain ⟨xs, m, _, _, hl, hxl, hat⟩ := DataW.trod_struct Tryz.underlying28 hf
  have hxs : xs.length = 7 := hxl
  have h0 : DataW.trod enc Tryz.prog W 0 (fun _ => true) true m 3 (([c0, c1, c2, c3, c4, c5, c6].drop 0).take (Tryz.prog.cellsOf 3)) = xs[0]? := hat 0 _ rfl
  have h1 : DataW.trod enc Tryz.prog W 0 (fun _ => true) true m 3 (([c0, c1, c2, c3, c4, c5, c6].drop 1).take (Tryz.prog.cellsOf 3)) = xs[1]? := hat 1 _ rfl
  have h2 : DataW.trod enc Tryz.prog W 0 (fun _ => true) true m 3 (([c0, c1, c2, c3, c4, c5, c6].drop 2).take (Tryz.prog.cellsOf 3)) = xs[2]? := hat 2 _ rfl
  have h3 : DataW.trod enc Tryz.prog W 0 (fun _ => true) true m 3 (([c0, c1, c2, c3, c4, c5, c6].drop 3).take (Tryz.prog.cellsOf 3)) = xs[3]? := hat 3 _ rfl
  have h4 : DataW.trod enc Tryz.prog W 0 (fun _ => true) true m 3 (([c0, c1, c2, c3, c4, c5, c6].drop 4).take (Tryz.prog.cellsOf 3)) = xs[4]? := hat 4 _ rfl
  have h5 : DataW.trod enc Tryz.prog W 0 (fun _ => true) true m 3 (([c0, c1, c2, c3, c4, c5, c6].drop 5).take (Tryz.prog.cellsOf 3)) = xs[5]? := hat 5 _ rfl
  have h6 : DataW.trod enc Tryz.prog W 0 (fun _ => true) true m 3 (([c0, c1, c2, c3, c4, c5, c6].drop 6).take (Tryz.prog.cellsOf 3)) = xs[6]? := hat 6 _ rfl
  rw [List.getElem?_eq_getElem (by omega), qryInt] at h0 h1 h2 h3 h4 h5 h6
  obtain ⟨z0, e0, _, w0⟩ := DataW.trod_int Tryz.underlying3 h0
  obtain ⟨z1, e1, _, w1⟩ := DataW.trod_int Tryz.underlying3 h1
  obtain ⟨z2, e2, _, w2⟩ := DataW.trod_int Tryz.underlying3 h2
  obtain ⟨z3, e3, _, w3⟩ := DataW.trod_int Tryz.underlying3 h3
  obtain ⟨z4, e4, _, w4⟩ := DataW.trod_int Tryz.underlying3 h4
  obtain ⟨z5, e5, _, w5⟩ := DataW.trod_int Tryz.underlying3 h5
  obtain ⟨z6, e6, _, w6⟩ := DataW.trod_int Tryz.underlying3 h6
  injection e0 with e0
  injection e1 with e1
  injection e2 with e2
  injection e3 with e3
  injection e4 with e4
  injection e5 with e5
  injection e6 with e6
  subst e0 e1 e2 e3 e4 e5 e6
  exact ⟨⟨z0, z1, z2, z3, z4, z5, z6⟩, rfl, ⟨w0, w1, w2, w3, w4, w5, w6⟩⟩

/-- The integers of a row fit. -/
structure RowFit (r : RowV) : Prop where
  t : okI r.t
  k : okI r.k
  x : okI r.x
  y : okI r.y
  z : okI r.z
set_option maxRecDepth 100000 in
theorem rowCells : Tryz.prog.cellsOf 53 = 5 := by kernel_rfl
set_option maxRecDepth 100000 in
theorem threeCells : Tryz.prog.cellsOf 43 = 3 := by kernel_rfl
set_option maxRecDepth 100000 in
theorem boolCells : Tryz.prog.cellsOf 4 = 1 := by kernel_rfl
set_option maxRecDepth 100000 in
theorem rowsCells : Tryz.prog.cellsOf 32 = 1 := by kernel_rfl
set_option maxRecDepth 100000 in
theorem rsCells : Tryz.prog.cellsOf 34 = 3 := by kernel_rfl
section
variable {H : Type} {enc : TypeId × Value → H} {W : World}
set_option maxRecDepth 100000 in
theorem open_rowc {n : Nat} {cs : List Value} {x : DataW H × List MemPlace} (h : DataW.trod enc Tryz.prog W 0 (fun _ => true) true n 53 cs = some x) : ∃ c : RowV, cs = c.cells ∧ RowFit c := by
  obtain ⟨xs, m, _, _, hl, hxl, hat⟩ := DataW.trod_struct Tryz.underlying53 h
  rw [rowCells] at hl
  obtain ⟨c0, c1, c2, c3, c4, rfl⟩ : ∃ c0 c1 c2 c3 c4, cs = [c0, c1, c2, c3, c4] := by
    match cs, hl with
    | [c0, c1, c2, c3, c4], _ => exact ⟨_, _, _, _, _, rfl⟩
  have hxs : xs.length = 3 := hxl
  have h0 : DataW.trod enc Tryz.prog W 0 (fun _ => true) true m 3 (([c0, c1, c2, c3, c4].drop 0).take (Tryz.prog.cellsOf 3)) = xs[0]? := hat 0 _ rfl
  have h1 : DataW.trod enc Tryz.prog W 0 (fun _ => true) true m 3 (([c0, c1, c2, c3, c4].drop 1).take (Tryz.prog.cellsOf 3)) = xs[1]? := hat 1 _ rfl
  have h2 : DataW.trod enc Tryz.prog W 0 (fun _ => true) true m 43 (([c0, c1, c2, c3, c4].drop 2).take (Tryz.prog.cellsOf 43)) = xs[2]? := hat 2 _ rfl
  rw [List.getElem?_eq_getElem (by omega)] at h0 h1 h2
  rw [qryInt] at h0 h1
  rw [threeCells] at h2
  obtain ⟨z0, e0, _, w0⟩ := DataW.trod_int Tryz.underlying3 h0
  obtain ⟨z1, e1, _, w1⟩ := DataW.trod_int Tryz.underlying3 h1
  obtain ⟨y2, y3, y4, n2, _, g2, g3, g4⟩ := trod_array3 (c0 := c2) (c1 := c3) (c2 := c4) Tryz.underlying43 qryInt h2
  obtain ⟨z2, e2, _, w2⟩ := DataW.trod_int Tryz.underlying3 g2
  obtain ⟨z3, e3, _, w3⟩ := DataW.trod_int Tryz.underlying3 g3
  obtain ⟨z4, e4, _, w4⟩ := DataW.trod_int Tryz.underlying3 g4
  have k0 : [c0] = [Value.int .i64 z0] := e0
  have k1 : [c1] = [Value.int .i64 z1] := e1
  injection k0 with k0
  injection k1 with k1
  injection e2 with k2
  injection e3 with k3
  injection e4 with k4
  subst k0 k1 k2 k3 k4
  exact ⟨⟨z0, z1, z2, z3, z4⟩, rfl, ⟨w0, w1, w2, w3, w4⟩⟩
theorem addr_add (b o j : Nat) : (⟨b, o, none⟩ : Addr).add j = ⟨b, o + j, none⟩ := by unfold Addr.add; split <;> simp_all
/-- Rows that were handed in. -/
theorem open_rowsv {n : Nat} {cv : Value} {x : DataW H × List MemPlace} (h : DataW.trod enc Tryz.prog W 0 (fun _ => true) true n 32 [cv] = some x) :
    ∃ A len cap cs, cv = .slice A len cap ∧ len ≤ cap ∧ cap ≤ maxLen ∧ cs.length = len ∧ RowsAt W A cs ∧ ∀ c ∈ cs, RowFit c := by
  rcases Go.Deep.open_slice Tryz.underlying32 h with ⟨hcs, _⟩ | ⟨a, len, cap, m, n, D, Pl, hcs, _, hl, hm, hmm, _, hi⟩
  · injection hcs with hcs
    subst hcs
    exact ⟨none, 0, 0, [], rfl, Nat.le_refl _, by simp [maxLen], rfl, fun h => absurd h (by simp), by simp⟩
  · injection hcs with hcs
    subst hcs
    simp only [if_true] at hmm
    subst hmm
    have each : ∀ i, i < len → ∃ c : RowV, (∀ j, j < 5 → W.cell? ((a.add (i * 5)).add j) = c.cells[j]?) ∧ RowFit c := fun i hil => by
      obtain ⟨cs', hc, ht⟩ := hi i (by omega)
      rw [rowCells] at hc
      obtain ⟨c, rfl, hf⟩ := open_rowc ht
      obtain ⟨_, hcl, hcell⟩ := World.cells?_some hc
      exact ⟨c, fun j hj => hcell j hj, hf⟩
    refine ⟨some a, len, _, (List.range len).map (fun i => if h : i < len then (each i h).choose else ⟨0, 0, 0, 0, 0⟩), rfl, hl, hm, by simp, fun hp => ?_, fun c hc => ?_⟩
    · have h0 : 0 < len := by simpa using hp
      obtain ⟨b, off, spot⟩ := a
      have hz := (each 0 h0).choose_spec.1 0 (by decide)
      generalize (each 0 h0).choose = c0 at hz
      have hz' : W.cell? ((({ block := b, off := off, spot := spot } : Addr).add (0 * 5)).add 0) = some (.int .i64 c0.t) := hz
      have hspot : spot = none := by simpa [Addr.add] using World.cell?_spot hz'
      subst hspot
      refine ⟨b, off, rfl, ?_, fun i hil j hj => ?_⟩
      · have h4 := World.block_lt_of_cell? W _ hz'
        simpa [Addr.add] using h4
      · have hil' : i < len := by simpa using hil
        have h5 := (each i hil').choose_spec.1 j hj
        have e5 : ((⟨b, off, none⟩ : Addr).add (i * 5)).add j = ⟨b, off + i * 5 + j, none⟩ := by rw [addr_add, addr_add]
        rw [← e5]
        refine h5.trans ?_
        simp only [List.getElem_map, List.getElem_range, dif_pos hil']
    · obtain ⟨i, hir, rfl⟩ := List.mem_map.1 hc
      have hil : i < len := by simpa using hir
      rw [dif_pos hil]
      exact (each i hil).choose_spec.2
set_option maxRecDepth 100000 in
theorem open_rows {base : Nat} {v : Value} {d : DataW H} {p : List MemPlace} (hv : Value.okWide Tryz.prog W .any base 32 v)
    (h : DataW.Trod enc Tryz.prog W 0 (fun _ => true) true 32 v d p) :
    ∃ A n cap L, v = .slice A n cap ∧ n ≤ cap ∧ cap ≤ maxLen ∧ L.length = n ∧ RowsAt W A L ∧ ∀ r ∈ L, RowFit r := by
  obtain ⟨a0, len, cap, rfl⟩ := okWide_slice Tryz.underlying32 hv
  obtain ⟨fuel, hf⟩ := h
  obtain ⟨A, n, c, cs, e, h1, h2, h3, h4, h5⟩ := open_rowsv (cv := .slice a0 len cap) hf
  exact ⟨A, n, c, cs, e, h1, h2, h3, h4, h5⟩
set_option maxRecDepth 100000 in
theorem open_result {base : Nat} {v : Value} {d : DataW H} {p : List MemPlace} (hv : Value.okWide Tryz.prog W .any base 34 v)
    (h : DataW.Trod enc Tryz.prog W 0 (fun _ => true) true 34 v d p) :
    ∃ A n cap L z f, v = .agg #[.slice A n cap, .int .i64 z, .bool f] ∧ n ≤ cap ∧ cap ≤ maxLen ∧ L.length = n ∧ RowsAt W A L ∧ okI z := by
  obtain ⟨arr, rfl, hs⟩ := okWide_struct Tryz.underlying34 hv
  rw [rsCells] at hs
  obtain ⟨c0, c1, c2, rfl⟩ : ∃ c0 c1 c2, arr = #[c0, c1, c2] := by
    obtain ⟨l⟩ := arr
    match l, hs with
    | [c0, c1, c2], _ => exact ⟨_, _, _, rfl⟩
  obtain ⟨fuel, hf⟩ := h
  obtain ⟨xs, m, _, _, hl, hxl, hat⟩ := DataW.trod_struct Tryz.underlying34 hf
  have hxs : xs.length = 3 := hxl
  have h0 : DataW.trod enc Tryz.prog W 0 (fun _ => true) true m 32 (([c0, c1, c2].drop 0).take (Tryz.prog.cellsOf 32)) = xs[0]? := hat 0 _ rfl
  have h1 : DataW.trod enc Tryz.prog W 0 (fun _ => true) true m 3 (([c0, c1, c2].drop 1).take (Tryz.prog.cellsOf 3)) = xs[1]? := hat 1 _ rfl
  have h2 : DataW.trod enc Tryz.prog W 0 (fun _ => true) true m 4 (([c0, c1, c2].drop 2).take (Tryz.prog.cellsOf 4)) = xs[2]? := hat 2 _ rfl
  rw [List.getElem?_eq_getElem (by omega)] at h0 h1 h2
  rw [rowsCells] at h0
  rw [qryInt] at h1
  rw [boolCells] at h2
  obtain ⟨A, n, c, cs, e, g1, g2, g3, g4, g5⟩ := open_rowsv (cv := c0) h0
  obtain ⟨z1, e1, _, w1⟩ := DataW.trod_int Tryz.underlying3 h1
  obtain ⟨z2, e2, _⟩ := DataW.trod_bool Tryz.underlying4 h2
  have k1 : [c1] = [Value.int .i64 z1] := e1
  have k2 : [c2] = [Value.bool z2] := e2
  injection k1 with k1
  injection k2 with k2
  subst e k1 k2
  exact ⟨A, n, c, cs, z1, z2, rfl, g1, g2, g3, g4, w1⟩
end
/-- The integers of a change fit. -/
structure ChgFit (c : Chg) : Prop where
  t : okI c.t
  k : okI c.k
  o0 : okI c.o0
  o1 : okI c.o1
  o2 : okI c.o2
  n0 : okI c.n0
  n1 : okI c.n1
  n2 : okI c.n2
set_option maxRecDepth 100000 in
theorem chgCells : Tryz.prog.cellsOf 45 = 10 := by kernel_rfl
section
variable {H : Type} {enc : TypeId × Value → H} {W : World}
set_option maxRecDepth 100000 in
theorem open_chg {n : Nat} {cs : List Value} {x : DataW H × List MemPlace} (h : DataW.trod enc Tryz.prog W 0 (fun _ => true) true n 45 cs = some x) : ∃ c : Chg, cs = c.cells ∧ ChgFit c := by
  obtain ⟨xs, m, _, _, hl, hxl, hat⟩ := DataW.trod_struct Tryz.underlying45 h
  rw [chgCells] at hl
  obtain ⟨c0, c1, c2, c3, c4, c5, c6, c7, c8, c9, rfl⟩ : ∃ c0 c1 c2 c3 c4 c5 c6 c7 c8 c9, cs = [c0, c1, c2, c3, c4, c5, c6, c7, c8, c9] := by
    match cs, hl with
    | [c0, c1, c2, c3, c4, c5, c6, c7, c8, c9], _ => exact ⟨_, _, _, _, _, _, _, _, _, _, rfl⟩
  have hxs : xs.length = 6 := hxl
  have h0 : DataW.trod enc Tryz.prog W 0 (fun _ => true) true m 3 (([c0, c1, c2, c3, c4, c5, c6, c7, c8, c9].drop 0).take (Tryz.prog.cellsOf 3)) = xs[0]? := hat 0 _ rfl
  have h1 : DataW.trod enc Tryz.prog W 0 (fun _ => true) true m 3 (([c0, c1, c2, c3, c4, c5, c6, c7, c8, c9].drop 1).take (Tryz.prog.cellsOf 3)) = xs[1]? := hat 1 _ rfl
  have h2 : DataW.trod enc Tryz.prog W 0 (fun _ => true) true m 4 (([c0, c1, c2, c3, c4, c5, c6, c7, c8, c9].drop 2).take (Tryz.prog.cellsOf 4)) = xs[2]? := hat 2 _ rfl
  have h3 : DataW.trod enc Tryz.prog W 0 (fun _ => true) true m 43 (([c0, c1, c2, c3, c4, c5, c6, c7, c8, c9].drop 3).take (Tryz.prog.cellsOf 43)) = xs[3]? := hat 3 _ rfl
  have h4 : DataW.trod enc Tryz.prog W 0 (fun _ => true) true m 4 (([c0, c1, c2, c3, c4, c5, c6, c7, c8, c9].drop 6).take (Tryz.prog.cellsOf 4)) = xs[4]? := hat 4 _ rfl
  have h5 : DataW.trod enc Tryz.prog W 0 (fun _ => true) true m 43 (([c0, c1, c2, c3, c4, c5, c6, c7, c8, c9].drop 7).take (Tryz.prog.cellsOf 43)) = xs[5]? := hat 5 _ rfl
  rw [List.getElem?_eq_getElem (by omega)] at h0 h1 h2 h3 h4 h5
  rw [qryInt] at h0 h1
  rw [boolCells] at h2 h4
  rw [threeCells] at h3 h5
  obtain ⟨z0, e0, _, w0⟩ := DataW.trod_int Tryz.underlying3 h0
  obtain ⟨z1, e1, _, w1⟩ := DataW.trod_int Tryz.underlying3 h1
  obtain ⟨z2, e2, _⟩ := DataW.trod_bool Tryz.underlying4 h2
  obtain ⟨z6, e6, _⟩ := DataW.trod_bool Tryz.underlying4 h4
  obtain ⟨y3, y4, y5, n3, _, g3, g4, g5⟩ := trod_array3 (c0 := c3) (c1 := c4) (c2 := c5) Tryz.underlying43 qryInt h3
  obtain ⟨y7, y8, y9, n7, _, g7, g8, g9⟩ := trod_array3 (c0 := c7) (c1 := c8) (c2 := c9) Tryz.underlying43 qryInt h5
  obtain ⟨z3, e3, _, w3⟩ := DataW.trod_int Tryz.underlying3 g3
  obtain ⟨z4, e4, _, w4⟩ := DataW.trod_int Tryz.underlying3 g4
  obtain ⟨z5, e5, _, w5⟩ := DataW.trod_int Tryz.underlying3 g5
  obtain ⟨z7, e7, _, w7⟩ := DataW.trod_int Tryz.underlying3 g7
  obtain ⟨z8, e8, _, w8⟩ := DataW.trod_int Tryz.underlying3 g8
  obtain ⟨z9, e9, _, w9⟩ := DataW.trod_int Tryz.underlying3 g9
  have k0 : [c0] = [Value.int .i64 z0] := e0
  have k1 : [c1] = [Value.int .i64 z1] := e1
  have k2 : [c2] = [Value.bool z2] := e2
  have k6 : [c6] = [Value.bool z6] := e6
  injection k0 with k0
  injection k1 with k1
  injection k2 with k2
  injection e3 with k3
  injection e4 with k4
  injection e5 with k5
  injection k6 with k6
  injection e7 with k7
  injection e8 with k8
  injection e9 with k9
  subst k0 k1 k2 k3 k4 k5 k6 k7 k8 k9
  exact ⟨⟨z0, z1, z2, z3, z4, z5, z6, z7, z8, z9⟩, rfl, ⟨w0, w1, w3, w4, w5, w7, w8, w9⟩⟩
set_option maxRecDepth 100000 in
theorem open_change {base : Nat} {v : Value} {d : DataW H} {p : List MemPlace} (hv : Value.okWide Tryz.prog W .any base 45 v)
    (h : DataW.Trod enc Tryz.prog W 0 (fun _ => true) true 45 v d p) : ∃ c : Chg, v = c.val ∧ ChgFit c := by
  obtain ⟨arr, rfl, hs⟩ := okWide_struct Tryz.underlying45 hv
  obtain ⟨fuel, hf⟩ := h
  obtain ⟨l⟩ := arr
  obtain ⟨c, hc, hfit⟩ := open_chg hf
  have hc' : l = c.cells := hc
  subst hc'
  exact ⟨c, rfl, hfit⟩
set_option maxRecDepth 100000 in
theorem fiveCells : Tryz.prog.cellsOf 23 = 5 := by kernel_rfl
set_option maxRecDepth 100000 in
theorem open_five {base : Nat} {v : Value} {d : DataW H} {p : List MemPlace} (hv : Value.okWide Tryz.prog W .any base 23 v)
    (h : DataW.Trod enc Tryz.prog W 0 (fun _ => true) true 23 v d p) :
    ∃ a b c e f, v = .agg #[.int .i64 a, .int .i64 b, .int .i64 c, .int .i64 e, .int .i64 f] ∧ okI a ∧ okI b ∧ okI c ∧ okI e ∧ okI f := by
  unfold Value.okWide at hv
  rw [Tryz.underlying23] at hv
  obtain ⟨cs, rfl, hs, _⟩ := hv
  rw [fiveCells] at hs
  obtain ⟨c0, c1, c2, c3, c4, rfl⟩ : ∃ c0 c1 c2 c3 c4, cs = #[c0, c1, c2, c3, c4] := by
    obtain ⟨l⟩ := cs
    match l, hs with
    | [c0, c1, c2, c3, c4], _ => exact ⟨c0, c1, c2, c3, c4, rfl⟩
  obtain ⟨fuel, ht⟩ := h
  obtain ⟨xs, q, _, _, hlen, hxl, hat⟩ := DataW.trod_array Tryz.underlying23 ht
  rw [qryInt] at hat
  have h0 := hat 0 (by omega)
  have h1 := hat 1 (by omega)
  have h2 := hat 2 (by omega)
  have h3 := hat 3 (by omega)
  have h4 := hat 4 (by omega)
  rw [List.getElem?_eq_getElem (by omega)] at h0 h1 h2 h3 h4
  obtain ⟨z0, e0, _, w0⟩ := DataW.trod_int Tryz.underlying3 h0
  obtain ⟨z1, e1, _, w1⟩ := DataW.trod_int Tryz.underlying3 h1
  obtain ⟨z2, e2, _, w2⟩ := DataW.trod_int Tryz.underlying3 h2
  obtain ⟨z3, e3, _, w3⟩ := DataW.trod_int Tryz.underlying3 h3
  obtain ⟨z4, e4, _, w4⟩ := DataW.trod_int Tryz.underlying3 h4
  have k0 : [c0] = [Value.int .i64 z0] := e0
  have k1 : [c1] = [Value.int .i64 z1] := e1
  have k2 : [c2] = [Value.int .i64 z2] := e2
  have k3 : [c3] = [Value.int .i64 z3] := e3
  have k4 : [c4] = [Value.int .i64 z4] := e4
  injection k0 with k0
  injection k1 with k1
  injection k2 with k2
  injection k3 with k3
  injection k4 with k4
  subst k0 k1 k2 k3 k4
  exact ⟨z0, z1, z2, z3, z4, rfl, w0, w1, w2, w3, w4⟩
end

end Go.Proofs.YtjiikpmkedkbkaaGreat
