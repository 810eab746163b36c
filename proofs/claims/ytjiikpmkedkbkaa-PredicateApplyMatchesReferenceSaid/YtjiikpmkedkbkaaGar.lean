/-
  What records that can be applied one after the other make.
-/
import Derived.Test.YtjiikpmkedkbkaaGap
import Derived.Test.YtjiikpmkedkbkaaGal
import Derived.Test.YtjiikpmkedkbkaaGag
import Derived.Deep.QuietTactic
import Derived.OpenShut
import Derived.ChangeArms
import Derived.Deep.Slices
import Derived.Laws.IdiomArrays
import Derived.Test.YtjiikpmkedkbkaaGaf
import Derived.Test.YtjiikpmkedkbkaaGai
import Derived.Test.YtjiikpmkedkbkaaGae
namespace Go.Proofs.Ytjiikpmkedkbkaa
open Go.RowKit

/-- The value of a column: the row is boxed. -/
theorem value_any (r : RowV) (c : Int) (w : World) : Calls Try.prog 62 #[r.val, .int .i64 c] w fun e w' => e = .returned (.int .i64 (r.value c)) ∧ w' = w.alloc (.cells r.cells.toArray 57) := by
  obtain ⟨t, k, x, y, z⟩ := r
  unfold RowV.val
  dsimp only
  by_cases h0 : c = 0
  · subst h0
    go_enter Try.func62, Try.ntmps62
    go_wp2
    go_ret
    exact ⟨rfl, rfl⟩
  by_cases h1 : c = 1
  · subst h1
    go_enter Try.func62, Try.ntmps62
    go_wp2
    go_ret
    exact ⟨rfl, rfl⟩
  by_cases h2 : c = 2
  · subst h2
    go_enter Try.func62, Try.ntmps62
    go_wp2
    go_ret
    exact ⟨rfl, rfl⟩
  by_cases h3 : c = 3
  · subst h3
    go_enter Try.func62, Try.ntmps62
    go_wp2
    go_ret
    exact ⟨rfl, rfl⟩
  have HV : Hid (RowV.value ⟨t, k, x, y, z⟩ c = 0) := Lib.hid (by simp [RowV.value, h0, h1, h2, h3])
  have g0 : (c == 0) = false := by simpa using h0
  have g1 : (c == 1) = false := by simpa using h1
  have g2 : (c == 2) = false := by simpa using h2
  have g3 : (c == 3) = false := by simpa using h3
  clear h0 h1 h2 h3
  go_enter Try.func62, Try.ntmps62
  go_wp2
  go_ret
  exact ⟨by rw [HV.out]; rfl, rfl⟩
/-- 'cmp.Compare'. -/
def cmpI (x y : Int) : Int := if x < y then -1 else if y < x then 1 else 0
end Go.Proofs.Ytjiikpmkedkbkaa
namespace Go.Proofs.Ytjiikpmkedkbkaa
open Go.RowKit

theorem run_isAgg_v3' (w : World) : (isAgg 28).run Try.prog w = .ok true w := by kernel_rfl
theorem run_sizeOf_v3' (w : World) : (sizeOf 28).run Try.prog w = .ok 3 w := by kernel_rfl
theorem eqIn_row (d : Nat) (a b : RowV) (w : World) : (Op.equalIn (d + 3) 57 a.val b.val).run Try.prog w = .ok (decide (a = b)) w := by
  unfold RowV.val
  rw [run_equalIn_agg w (d + 2) 57 _ _ (by kernel_rfl) (by kernel_rfl)]
  simp only [Program.fieldsOf, Try.underlying57]
  obtain ⟨t, k, x, y, z⟩ := a
  obtain ⟨t', k', x', y', z'⟩ := b
  have hI : ∀ (a b : Int) (w : World), (Op.equalIn (d + 2) 3 (.int .i64 a) (.int .i64 b)).run Try.prog w = .ok (a == b) w := fun a b w => run_equalIn_int (P := Try.prog) w (d + 1) 3 .i64 .i64 a b Try.underlying3
  have hV := fun x y z a b c w => eqIn_v3 d x y z a b c w
  simp [Op.eqFields, Sem.run_bind, part, hI, hV]
  repeat' split
  all_goals simp_all
theorem neq_row (a b : RowV) (w : World) : (binOp .neq 57 a.val b.val).run Try.prog w = .ok (.bool (!decide (a = b))) w := by
  rw [run_neq_struct, show (10000 : Nat) = 9997 + 3 from rfl, eqIn_row]
  rfl
theorem eql_row (a b : RowV) (w : World) : (binOp .eql 57 a.val b.val).run Try.prog w = .ok (.bool (decide (a = b))) w := by
  rw [run_eql_struct, show (10000 : Nat) = 9997 + 3 from rfl, eqIn_row]
  rfl
theorem eqGuard_row (op : BinOp) (x y : Operand) (xs ys : Array Value) (w : World) : (eqGuard op 57 x y (.agg xs) (.agg ys)).run Try.prog w = .ok () w :=
  run_eqGuard_agg w op _ x y xs ys (by kernel_rfl)

/-- Rows at an address. -/
abbrev RowsAt (w : World) (A : Option Addr) (L : List RowV) : Prop := AtL RowV.cells 5 w A L
theorem sameRows_big (cs ds : List RowV) (A B : Option Addr) (ca cb : Nat) (w : World) (ha : RowsAt w A cs) (hb : RowsAt w B ds) (la : cs.length ≤ 9000) (_lb : ds.length ≤ 9000) :
    Calls Try.prog 39 #[.slice A cs.length ca, .slice B ds.length cb] w fun e w' => e = .returned (.bool (decide (cs = ds))) ∧ Fr [] w w' := by
  by_cases hl : cs.length = ds.length
  · go_enter Try.func39, Try.ntmps39
    have HL := Lib.hid hl
    have hd : ((cs.length : Int) != (ds.length : Int)) = false := by simp [hl]
    clear hl
    go_wp2_with fail
    have hf0 : Fr [] w w := Fr.refl _ _
    go_loopw [5] (fun i wr => ∃ k : Nat, i = .int .i64 k ∧ (k ≤ cs.length ∧ cs.take k = ds.take k) ∧ Fr [] w wr) (fun i _ => cs.length - (intOf i).toNat)
    case atStart => exact ⟨0, rfl, ⟨Nat.zero_le _, by simp⟩, hf0⟩
    case round =>
      clear hf0
      obtain ⟨k, rfl, ⟨hk, htk⟩, hf⟩ := hrel
      have HTK := Lib.hid htk
      clear htk
      by_cases hlt : k < cs.length
      · obtain ⟨b1, o1, e1, hb1, hc1⟩ := (ha.fr hf (by simp)) (by omega)
        obtain ⟨b2, o2, e2, hb2, hc2⟩ := (hb.fr hf (by simp)) (by have := HL.out; omega)
        subst e1 e2
        have hlt2 : k < ds.length := by have := HL.out; omega
        replace hc1 := Lib.hid (hc1 k hlt)
        replace hc2 := Lib.hid (hc2 k hlt2)
        have htake : cs[k] = ds[k] → cs.take (k + 1) = ds.take (k + 1) := fun e => by rw [List.take_succ_eq_append_getElem hlt, List.take_succ_eq_append_getElem hlt2, HTK.out, e]
        have hdiff : cs[k] ≠ ds[k] → cs ≠ ds := fun h e => h (by simp only [e])
        have hq := neq_row cs[k] ds[k]
        generalize cs[k] = c at *
        generalize ds[k] = d at *
        obtain ⟨t, kk, p0, p1, p2⟩ := c
        obtain ⟨t', kk', p0', p1', p2'⟩ := d
        unfold RowV.val at hq
        dsimp only at hq
        have hc1_0 : wr.cell? ⟨b1, o1 + k * 5, none⟩ = some (.int .i64 t) := hc1.out 0 (by decide)
        have hc1_1 : wr.cell? ⟨b1, o1 + k * 5 + 1, none⟩ = some (.int .i64 kk) := hc1.out 1 (by decide)
        have hc1_2 : wr.cell? ⟨b1, o1 + k * 5 + 2, none⟩ = some (.int .i64 p0) := hc1.out 2 (by decide)
        have hc1_3 : wr.cell? ⟨b1, o1 + k * 5 + 3, none⟩ = some (.int .i64 p1) := hc1.out 3 (by decide)
        have hc1_4 : wr.cell? ⟨b1, o1 + k * 5 + 4, none⟩ = some (.int .i64 p2) := hc1.out 4 (by decide)
        have hc2_0 : wr.cell? ⟨b2, o2 + k * 5, none⟩ = some (.int .i64 t') := hc2.out 0 (by decide)
        have hc2_1 : wr.cell? ⟨b2, o2 + k * 5 + 1, none⟩ = some (.int .i64 kk') := hc2.out 1 (by decide)
        have hc2_2 : wr.cell? ⟨b2, o2 + k * 5 + 2, none⟩ = some (.int .i64 p0') := hc2.out 2 (by decide)
        have hc2_3 : wr.cell? ⟨b2, o2 + k * 5 + 3, none⟩ = some (.int .i64 p1') := hc2.out 3 (by decide)
        have hc2_4 : wr.cell? ⟨b2, o2 + k * 5 + 4, none⟩ = some (.int .i64 p2') := hc2.out 4 (by decide)
        have hg := eqGuard_row
        clear hc1 hc2
        by_cases he : (⟨t, kk, p0, p1, p2⟩ : RowV) = ⟨t', kk', p0', p1', p2'⟩
        · have HT := Lib.hid (htake he)
          rw [decide_eq_true he] at hq
          clear htake hdiff he
          go_wp2_with fail
          go_quiet (fail)
          go_wp2_with fail
          have f1 : Fr [] w (wr.drewN nq) := hf.drewN _
          go_roundw
          case rel => exact ⟨k + 1, by go_num, ⟨by omega, HT.out⟩, f1⟩
          case measure => simp [intOf]; omega
        · have HD := Lib.hid (hdiff he)
          rw [decide_eq_false he] at hq
          clear htake hdiff he
          go_wp2_with fail
          go_quiet (fail)
          go_wp2_with fail
          go_ret
          exact ⟨by rw [decide_eq_false HD.out]; rfl, hf.drewN _⟩
      · go_wp2_with fail
        go_ret
        have HF : cs = ds := by
          have e1 := HTK.out
          have e2 := HL.out
          rwa [List.take_of_length_le (by omega), List.take_of_length_le (by omega)] at e1
        exact ⟨by rw [decide_eq_true HF]; rfl, hf⟩
  · have HF : Hid (decide (cs = ds) = false) := Lib.hid (decide_eq_false fun e => hl (by rw [e]))
    have hd : decide (cs.length = ds.length) = false := by simpa using hl
    go_enter Try.func39, Try.ntmps39
    go_wp2_with fail
    go_ret
    exact ⟨by rw [HF.out]; rfl, Fr.refl _ _⟩
theorem sameRows_any (cs ds : List RowV) (A B : Option Addr) (ca cb : Nat) (w : World) (ha : RowsAt w A cs) (hb : RowsAt w B ds) (la : cs.length ≤ 4000) (_lb : ds.length ≤ 4000) :
    Calls Try.prog 39 #[.slice A cs.length ca, .slice B ds.length cb] w fun e w' => e = .returned (.bool (decide (cs = ds))) ∧ Fr [] w w' :=
  sameRows_big cs ds A B ca cb w ha hb (Nat.le_trans la (by decide)) (Nat.le_trans _lb (by decide))
end Go.Proofs.Ytjiikpmkedkbkaa
namespace Go.Proofs.Ytjiikpmkedkbkaa
open Go.RowKit Go.WideShapes Go.ChangeShapes


/-- The integers of a query fit. -/
structure QryFit (q : Qry) : Prop where
  k : okI q.kind
  t : okI q.table
  c : okI q.column
  lo : okI q.low
  hi : okI q.high
  b : okI q.by_
  o : okI q.other
set_option maxRecDepth 100000 in
theorem qryCells : Try.prog.cellsOf 24 = 7 := by kernel_rfl
set_option maxRecDepth 100000 in
theorem qryInt : Try.prog.cellsOf 3 = 1 := by kernel_rfl
set_option maxRecDepth 100000 in
theorem open_query {H : Type} {enc : TypeId × Value → H} {W : World} {base : Nat} {v : Value} {d : DataW H} {p : List MemPlace} (hv : Value.okWide Try.prog W .any base 24 v)
    (h : DataW.Trod enc Try.prog W 0 (fun _ => true) true 24 v d p) : ∃ q : Qry, v = q.val ∧ QryFit q := by
  obtain ⟨arr, rfl, hs⟩ := okWide_struct Try.underlying24 hv
  rw [qryCells] at hs
  obtain ⟨c0, c1, c2, c3, c4, c5, c6, rfl⟩ : ∃ c0 c1 c2 c3 c4 c5 c6, arr = #[c0, c1, c2, c3, c4, c5, c6] := by
    obtain ⟨l⟩ := arr
    match l, hs with
    | [c0, c1, c2, c3, c4, c5, c6], _ => exact ⟨_, _, _, _, _, _, _, rfl⟩
  obtain ⟨fuel, hf⟩ := h
  obtain ⟨xs, m, _, _, hl, hxl, hat⟩ := DataW.trod_struct Try.underlying24 hf
  have hxs : xs.length = 7 := hxl
  have h0 : DataW.trod enc Try.prog W 0 (fun _ => true) true m 3 (([c0, c1, c2, c3, c4, c5, c6].drop 0).take (Try.prog.cellsOf 3)) = xs[0]? := hat 0 _ rfl
  have h1 : DataW.trod enc Try.prog W 0 (fun _ => true) true m 3 (([c0, c1, c2, c3, c4, c5, c6].drop 1).take (Try.prog.cellsOf 3)) = xs[1]? := hat 1 _ rfl
  have h2 : DataW.trod enc Try.prog W 0 (fun _ => true) true m 3 (([c0, c1, c2, c3, c4, c5, c6].drop 2).take (Try.prog.cellsOf 3)) = xs[2]? := hat 2 _ rfl
  have h3 : DataW.trod enc Try.prog W 0 (fun _ => true) true m 3 (([c0, c1, c2, c3, c4, c5, c6].drop 3).take (Try.prog.cellsOf 3)) = xs[3]? := hat 3 _ rfl
  have h4 : DataW.trod enc Try.prog W 0 (fun _ => true) true m 3 (([c0, c1, c2, c3, c4, c5, c6].drop 4).take (Try.prog.cellsOf 3)) = xs[4]? := hat 4 _ rfl
  have h5 : DataW.trod enc Try.prog W 0 (fun _ => true) true m 3 (([c0, c1, c2, c3, c4, c5, c6].drop 5).take (Try.prog.cellsOf 3)) = xs[5]? := hat 5 _ rfl
  have h6 : DataW.trod enc Try.prog W 0 (fun _ => true) true m 3 (([c0, c1, c2, c3, c4, c5, c6].drop 6).take (Try.prog.cellsOf 3)) = xs[6]? := hat 6 _ rfl
  rw [List.getElem?_eq_getElem (by omega), qryInt] at h0 h1 h2 h3 h4 h5 h6
  obtain ⟨z0, e0, _, w0⟩ := DataW.trod_int Try.underlying3 h0
  obtain ⟨z1, e1, _, w1⟩ := DataW.trod_int Try.underlying3 h1
  obtain ⟨z2, e2, _, w2⟩ := DataW.trod_int Try.underlying3 h2
  obtain ⟨z3, e3, _, w3⟩ := DataW.trod_int Try.underlying3 h3
  obtain ⟨z4, e4, _, w4⟩ := DataW.trod_int Try.underlying3 h4
  obtain ⟨z5, e5, _, w5⟩ := DataW.trod_int Try.underlying3 h5
  obtain ⟨z6, e6, _, w6⟩ := DataW.trod_int Try.underlying3 h6
  injection e0 with e0
  injection e1 with e1
  injection e2 with e2
  injection e3 with e3
  injection e4 with e4
  injection e5 with e5
  injection e6 with e6
  subst e0 e1 e2 e3 e4 e5 e6
  exact ⟨⟨z0, z1, z2, z3, z4, z5, z6⟩, rfl, ⟨w0, w1, w2, w3, w4, w5, w6⟩⟩

/-- The integers of a row fit. -/
structure RowFit (r : RowV) : Prop where
  t : okI r.t
  k : okI r.k
  x : okI r.x
  y : okI r.y
  z : okI r.z
set_option maxRecDepth 100000 in
theorem rowCells : Try.prog.cellsOf 57 = 5 := by kernel_rfl
set_option maxRecDepth 100000 in
theorem threeCells : Try.prog.cellsOf 28 = 3 := by kernel_rfl
set_option maxRecDepth 100000 in
theorem boolCells : Try.prog.cellsOf 4 = 1 := by kernel_rfl
set_option maxRecDepth 100000 in
theorem rowsCells : Try.prog.cellsOf 25 = 1 := by kernel_rfl
set_option maxRecDepth 100000 in
theorem rsCells : Try.prog.cellsOf 27 = 3 := by kernel_rfl
section
variable {H : Type} {enc : TypeId × Value → H} {W : World}
set_option maxRecDepth 100000 in
theorem open_rowc {n : Nat} {cs : List Value} {x : DataW H × List MemPlace} (h : DataW.trod enc Try.prog W 0 (fun _ => true) true n 57 cs = some x) : ∃ c : RowV, cs = c.cells ∧ RowFit c := by
  obtain ⟨xs, m, _, _, hl, hxl, hat⟩ := DataW.trod_struct Try.underlying57 h
  rw [rowCells] at hl
  obtain ⟨c0, c1, c2, c3, c4, rfl⟩ : ∃ c0 c1 c2 c3 c4, cs = [c0, c1, c2, c3, c4] := by
    match cs, hl with
    | [c0, c1, c2, c3, c4], _ => exact ⟨_, _, _, _, _, rfl⟩
  have hxs : xs.length = 3 := hxl
  have h0 : DataW.trod enc Try.prog W 0 (fun _ => true) true m 3 (([c0, c1, c2, c3, c4].drop 0).take (Try.prog.cellsOf 3)) = xs[0]? := hat 0 _ rfl
  have h1 : DataW.trod enc Try.prog W 0 (fun _ => true) true m 3 (([c0, c1, c2, c3, c4].drop 1).take (Try.prog.cellsOf 3)) = xs[1]? := hat 1 _ rfl
  have h2 : DataW.trod enc Try.prog W 0 (fun _ => true) true m 28 (([c0, c1, c2, c3, c4].drop 2).take (Try.prog.cellsOf 28)) = xs[2]? := hat 2 _ rfl
  rw [List.getElem?_eq_getElem (by omega)] at h0 h1 h2
  rw [qryInt] at h0 h1
  rw [threeCells] at h2
  obtain ⟨z0, e0, _, w0⟩ := DataW.trod_int Try.underlying3 h0
  obtain ⟨z1, e1, _, w1⟩ := DataW.trod_int Try.underlying3 h1
  obtain ⟨y2, y3, y4, n2, _, g2, g3, g4⟩ := trod_array3 (c0 := c2) (c1 := c3) (c2 := c4) Try.underlying28 qryInt h2
  obtain ⟨z2, e2, _, w2⟩ := DataW.trod_int Try.underlying3 g2
  obtain ⟨z3, e3, _, w3⟩ := DataW.trod_int Try.underlying3 g3
  obtain ⟨z4, e4, _, w4⟩ := DataW.trod_int Try.underlying3 g4
  have k0 : [c0] = [Value.int .i64 z0] := e0
  have k1 : [c1] = [Value.int .i64 z1] := e1
  injection k0 with k0
  injection k1 with k1
  injection e2 with k2
  injection e3 with k3
  injection e4 with k4
  subst k0 k1 k2 k3 k4
  exact ⟨⟨z0, z1, z2, z3, z4⟩, rfl, ⟨w0, w1, w2, w3, w4⟩⟩
theorem addr_add (b o j : Nat) : (⟨b, o, none⟩ : Addr).add j = ⟨b, o + j, none⟩ := by unfold Addr.add; split <;> simp_all
/-- Rows that were handed in. -/
theorem open_rowsv {n : Nat} {cv : Value} {x : DataW H × List MemPlace} (h : DataW.trod enc Try.prog W 0 (fun _ => true) true n 25 [cv] = some x) :
    ∃ A len cap cs, cv = .slice A len cap ∧ len ≤ cap ∧ cap ≤ maxLen ∧ cs.length = len ∧ RowsAt W A cs ∧ ∀ c ∈ cs, RowFit c := by
  rcases Go.Deep.open_slice Try.underlying25 h with ⟨hcs, _⟩ | ⟨a, len, cap, m, n, D, Pl, hcs, _, hl, hm, hmm, _, hi⟩
  · injection hcs with hcs
    subst hcs
    exact ⟨none, 0, 0, [], rfl, Nat.le_refl _, by simp [maxLen], rfl, fun h => absurd h (by simp), by simp⟩
  · injection hcs with hcs
    subst hcs
    simp only [if_true] at hmm
    subst hmm
    have each : ∀ i, i < len → ∃ c : RowV, (∀ j, j < 5 → W.cell? ((a.add (i * 5)).add j) = c.cells[j]?) ∧ RowFit c := fun i hil => by
      obtain ⟨cs', hc, ht⟩ := hi i (by omega)
      rw [rowCells] at hc
      obtain ⟨c, rfl, hf⟩ := open_rowc ht
      obtain ⟨_, hcl, hcell⟩ := World.cells?_some hc
      exact ⟨c, fun j hj => hcell j hj, hf⟩
    refine ⟨some a, len, _, (List.range len).map (fun i => if h : i < len then (each i h).choose else ⟨0, 0, 0, 0, 0⟩), rfl, hl, hm, by simp, fun hp => ?_, fun c hc => ?_⟩
    · have h0 : 0 < len := by simpa using hp
      obtain ⟨b, off, spot⟩ := a
      have hz := (each 0 h0).choose_spec.1 0 (by decide)
      generalize (each 0 h0).choose = c0 at hz
      have hz' : W.cell? ((({ block := b, off := off, spot := spot } : Addr).add (0 * 5)).add 0) = some (.int .i64 c0.t) := hz
      have hspot : spot = none := by simpa [Addr.add] using World.cell?_spot hz'
      subst hspot
      refine ⟨b, off, rfl, ?_, fun i hil j hj => ?_⟩
      · have h4 := World.block_lt_of_cell? W _ hz'
        simpa [Addr.add] using h4
      · have hil' : i < len := by simpa using hil
        have h5 := (each i hil').choose_spec.1 j hj
        have e5 : ((⟨b, off, none⟩ : Addr).add (i * 5)).add j = ⟨b, off + i * 5 + j, none⟩ := by rw [addr_add, addr_add]
        rw [← e5]
        refine h5.trans ?_
        simp only [List.getElem_map, List.getElem_range, dif_pos hil']
    · obtain ⟨i, hir, rfl⟩ := List.mem_map.1 hc
      have hil : i < len := by simpa using hir
      rw [dif_pos hil]
      exact (each i hil).choose_spec.2
set_option maxRecDepth 100000 in
theorem open_rows {base : Nat} {v : Value} {d : DataW H} {p : List MemPlace} (hv : Value.okWide Try.prog W .any base 25 v)
    (h : DataW.Trod enc Try.prog W 0 (fun _ => true) true 25 v d p) :
    ∃ A n cap L, v = .slice A n cap ∧ n ≤ cap ∧ cap ≤ maxLen ∧ L.length = n ∧ RowsAt W A L ∧ ∀ r ∈ L, RowFit r := by
  obtain ⟨a0, len, cap, rfl⟩ := okWide_slice Try.underlying25 hv
  obtain ⟨fuel, hf⟩ := h
  obtain ⟨A, n, c, cs, e, h1, h2, h3, h4, h5⟩ := open_rowsv (cv := .slice a0 len cap) hf
  exact ⟨A, n, c, cs, e, h1, h2, h3, h4, h5⟩
set_option maxRecDepth 100000 in
theorem open_result {base : Nat} {v : Value} {d : DataW H} {p : List MemPlace} (hv : Value.okWide Try.prog W .any base 27 v)
    (h : DataW.Trod enc Try.prog W 0 (fun _ => true) true 27 v d p) :
    ∃ A n cap L z f, v = .agg #[.slice A n cap, .int .i64 z, .bool f] ∧ n ≤ cap ∧ cap ≤ maxLen ∧ L.length = n ∧ RowsAt W A L ∧ okI z := by
  obtain ⟨arr, rfl, hs⟩ := okWide_struct Try.underlying27 hv
  rw [rsCells] at hs
  obtain ⟨c0, c1, c2, rfl⟩ : ∃ c0 c1 c2, arr = #[c0, c1, c2] := by
    obtain ⟨l⟩ := arr
    match l, hs with
    | [c0, c1, c2], _ => exact ⟨_, _, _, rfl⟩
  obtain ⟨fuel, hf⟩ := h
  obtain ⟨xs, m, _, _, hl, hxl, hat⟩ := DataW.trod_struct Try.underlying27 hf
  have hxs : xs.length = 3 := hxl
  have h0 : DataW.trod enc Try.prog W 0 (fun _ => true) true m 25 (([c0, c1, c2].drop 0).take (Try.prog.cellsOf 25)) = xs[0]? := hat 0 _ rfl
  have h1 : DataW.trod enc Try.prog W 0 (fun _ => true) true m 3 (([c0, c1, c2].drop 1).take (Try.prog.cellsOf 3)) = xs[1]? := hat 1 _ rfl
  have h2 : DataW.trod enc Try.prog W 0 (fun _ => true) true m 4 (([c0, c1, c2].drop 2).take (Try.prog.cellsOf 4)) = xs[2]? := hat 2 _ rfl
  rw [List.getElem?_eq_getElem (by omega)] at h0 h1 h2
  rw [rowsCells] at h0
  rw [qryInt] at h1
  rw [boolCells] at h2
  obtain ⟨A, n, c, cs, e, g1, g2, g3, g4, g5⟩ := open_rowsv (cv := c0) h0
  obtain ⟨z1, e1, _, w1⟩ := DataW.trod_int Try.underlying3 h1
  obtain ⟨z2, e2, _⟩ := DataW.trod_bool Try.underlying4 h2
  have k1 : [c1] = [Value.int .i64 z1] := e1
  have k2 : [c2] = [Value.bool z2] := e2
  injection k1 with k1
  injection k2 with k2
  subst e k1 k2
  exact ⟨A, n, c, cs, z1, z2, rfl, g1, g2, g3, g4, w1⟩
end
/-- The integers of a change fit. -/
structure ChgFit (c : Chg) : Prop where
  t : okI c.t
  k : okI c.k
  o0 : okI c.o0
  o1 : okI c.o1
  o2 : okI c.o2
  n0 : okI c.n0
  n1 : okI c.n1
  n2 : okI c.n2
set_option maxRecDepth 100000 in
theorem chgCells : Try.prog.cellsOf 30 = 10 := by kernel_rfl
section
variable {H : Type} {enc : TypeId × Value → H} {W : World}
set_option maxRecDepth 100000 in
theorem open_chg {n : Nat} {cs : List Value} {x : DataW H × List MemPlace} (h : DataW.trod enc Try.prog W 0 (fun _ => true) true n 30 cs = some x) : ∃ c : Chg, cs = c.cells ∧ ChgFit c := by
  obtain ⟨xs, m, _, _, hl, hxl, hat⟩ := DataW.trod_struct Try.underlying30 h
  rw [chgCells] at hl
  obtain ⟨c0, c1, c2, c3, c4, c5, c6, c7, c8, c9, rfl⟩ : ∃ c0 c1 c2 c3 c4 c5 c6 c7 c8 c9, cs = [c0, c1, c2, c3, c4, c5, c6, c7, c8, c9] := by
    match cs, hl with
    | [c0, c1, c2, c3, c4, c5, c6, c7, c8, c9], _ => exact ⟨_, _, _, _, _, _, _, _, _, _, rfl⟩
  have hxs : xs.length = 6 := hxl
  have h0 : DataW.trod enc Try.prog W 0 (fun _ => true) true m 3 (([c0, c1, c2, c3, c4, c5, c6, c7, c8, c9].drop 0).take (Try.prog.cellsOf 3)) = xs[0]? := hat 0 _ rfl
  have h1 : DataW.trod enc Try.prog W 0 (fun _ => true) true m 3 (([c0, c1, c2, c3, c4, c5, c6, c7, c8, c9].drop 1).take (Try.prog.cellsOf 3)) = xs[1]? := hat 1 _ rfl
  have h2 : DataW.trod enc Try.prog W 0 (fun _ => true) true m 4 (([c0, c1, c2, c3, c4, c5, c6, c7, c8, c9].drop 2).take (Try.prog.cellsOf 4)) = xs[2]? := hat 2 _ rfl
  have h3 : DataW.trod enc Try.prog W 0 (fun _ => true) true m 28 (([c0, c1, c2, c3, c4, c5, c6, c7, c8, c9].drop 3).take (Try.prog.cellsOf 28)) = xs[3]? := hat 3 _ rfl
  have h4 : DataW.trod enc Try.prog W 0 (fun _ => true) true m 4 (([c0, c1, c2, c3, c4, c5, c6, c7, c8, c9].drop 6).take (Try.prog.cellsOf 4)) = xs[4]? := hat 4 _ rfl
  have h5 : DataW.trod enc Try.prog W 0 (fun _ => true) true m 28 (([c0, c1, c2, c3, c4, c5, c6, c7, c8, c9].drop 7).take (Try.prog.cellsOf 28)) = xs[5]? := hat 5 _ rfl
  rw [List.getElem?_eq_getElem (by omega)] at h0 h1 h2 h3 h4 h5
  rw [qryInt] at h0 h1
  rw [boolCells] at h2 h4
  rw [threeCells] at h3 h5
  obtain ⟨z0, e0, _, w0⟩ := DataW.trod_int Try.underlying3 h0
  obtain ⟨z1, e1, _, w1⟩ := DataW.trod_int Try.underlying3 h1
  obtain ⟨z2, e2, _⟩ := DataW.trod_bool Try.underlying4 h2
  obtain ⟨z6, e6, _⟩ := DataW.trod_bool Try.underlying4 h4
  obtain ⟨y3, y4, y5, n3, _, g3, g4, g5⟩ := trod_array3 (c0 := c3) (c1 := c4) (c2 := c5) Try.underlying28 qryInt h3
  obtain ⟨y7, y8, y9, n7, _, g7, g8, g9⟩ := trod_array3 (c0 := c7) (c1 := c8) (c2 := c9) Try.underlying28 qryInt h5
  obtain ⟨z3, e3, _, w3⟩ := DataW.trod_int Try.underlying3 g3
  obtain ⟨z4, e4, _, w4⟩ := DataW.trod_int Try.underlying3 g4
  obtain ⟨z5, e5, _, w5⟩ := DataW.trod_int Try.underlying3 g5
  obtain ⟨z7, e7, _, w7⟩ := DataW.trod_int Try.underlying3 g7
  obtain ⟨z8, e8, _, w8⟩ := DataW.trod_int Try.underlying3 g8
  obtain ⟨z9, e9, _, w9⟩ := DataW.trod_int Try.underlying3 g9
  have k0 : [c0] = [Value.int .i64 z0] := e0
  have k1 : [c1] = [Value.int .i64 z1] := e1
  have k2 : [c2] = [Value.bool z2] := e2
  have k6 : [c6] = [Value.bool z6] := e6
  injection k0 with k0
  injection k1 with k1
  injection k2 with k2
  injection e3 with k3
  injection e4 with k4
  injection e5 with k5
  injection k6 with k6
  injection e7 with k7
  injection e8 with k8
  injection e9 with k9
  subst k0 k1 k2 k3 k4 k5 k6 k7 k8 k9
  exact ⟨⟨z0, z1, z2, z3, z4, z5, z6, z7, z8, z9⟩, rfl, ⟨w0, w1, w3, w4, w5, w7, w8, w9⟩⟩
set_option maxRecDepth 100000 in
theorem open_change {base : Nat} {v : Value} {d : DataW H} {p : List MemPlace} (hv : Value.okWide Try.prog W .any base 30 v)
    (h : DataW.Trod enc Try.prog W 0 (fun _ => true) true 30 v d p) : ∃ c : Chg, v = c.val ∧ ChgFit c := by
  obtain ⟨arr, rfl, hs⟩ := okWide_struct Try.underlying30 hv
  obtain ⟨fuel, hf⟩ := h
  obtain ⟨l⟩ := arr
  obtain ⟨c, hc, hfit⟩ := open_chg hf
  have hc' : l = c.cells := hc
  subst hc'
  exact ⟨c, rfl, hfit⟩
set_option maxRecDepth 100000 in
theorem fiveCells : Try.prog.cellsOf 22 = 5 := by kernel_rfl
set_option maxRecDepth 100000 in
theorem open_five {base : Nat} {v : Value} {d : DataW H} {p : List MemPlace} (hv : Value.okWide Try.prog W .any base 22 v)
    (h : DataW.Trod enc Try.prog W 0 (fun _ => true) true 22 v d p) :
    ∃ a b c e f, v = .agg #[.int .i64 a, .int .i64 b, .int .i64 c, .int .i64 e, .int .i64 f] ∧ okI a ∧ okI b ∧ okI c ∧ okI e ∧ okI f := by
  unfold Value.okWide at hv
  rw [Try.underlying22] at hv
  obtain ⟨cs, rfl, hs, _⟩ := hv
  rw [fiveCells] at hs
  obtain ⟨c0, c1, c2, c3, c4, rfl⟩ : ∃ c0 c1 c2 c3 c4, cs = #[c0, c1, c2, c3, c4] := by
    obtain ⟨l⟩ := cs
    match l, hs with
    | [c0, c1, c2, c3, c4], _ => exact ⟨c0, c1, c2, c3, c4, rfl⟩
  obtain ⟨fuel, ht⟩ := h
  obtain ⟨xs, q, _, _, hlen, hxl, hat⟩ := DataW.trod_array Try.underlying22 ht
  rw [qryInt] at hat
  have h0 := hat 0 (by omega)
  have h1 := hat 1 (by omega)
  have h2 := hat 2 (by omega)
  have h3 := hat 3 (by omega)
  have h4 := hat 4 (by omega)
  rw [List.getElem?_eq_getElem (by omega)] at h0 h1 h2 h3 h4
  obtain ⟨z0, e0, _, w0⟩ := DataW.trod_int Try.underlying3 h0
  obtain ⟨z1, e1, _, w1⟩ := DataW.trod_int Try.underlying3 h1
  obtain ⟨z2, e2, _, w2⟩ := DataW.trod_int Try.underlying3 h2
  obtain ⟨z3, e3, _, w3⟩ := DataW.trod_int Try.underlying3 h3
  obtain ⟨z4, e4, _, w4⟩ := DataW.trod_int Try.underlying3 h4
  have k0 : [c0] = [Value.int .i64 z0] := e0
  have k1 : [c1] = [Value.int .i64 z1] := e1
  have k2 : [c2] = [Value.int .i64 z2] := e2
  have k3 : [c3] = [Value.int .i64 z3] := e3
  have k4 : [c4] = [Value.int .i64 z4] := e4
  injection k0 with k0
  injection k1 with k1
  injection k2 with k2
  injection k3 with k3
  injection k4 with k4
  subst k0 k1 k2 k3 k4
  exact ⟨z0, z1, z2, z3, z4, rfl, w0, w1, w2, w3, w4⟩
end

end Go.Proofs.Ytjiikpmkedkbkaa
namespace Go.Proofs.Ytjiikpmkedkbkaa
open Go.RowKit

/-- Records at an address. -/
def RecsAt (w : World) (A : Option Addr) (l : List Rec) : Prop := ∃ us : List WRec, AtL WRec.cells 2 w A us ∧ us.map (·.r) = l ∧ ∀ u ∈ us, HoldsC w u.A u.r.cs ∧ u.r.cs.length ≤ 8
theorem OwnR.recs {w : World} {A : Option Addr} {n cap : Nat} {out : List Rec} (h : OwnR w (.slice A n cap) out) : RecsAt w A out ∧ n = out.length := by
  obtain ⟨us, h1, h2, h3⟩ := h
  obtain ⟨h4, h5⟩ := h1.at1 WRec.len
  exact ⟨⟨us, h4, h2, h3⟩, by rw [← h2, List.length_map]; exact h5⟩
/-- None of the blocks in S holds records. -/
def NoR (w : World) (S : List Nat) : Prop := ∀ s ∈ S, ∀ arr fz, w.heap[s]? ≠ some (.cells arr 38 fz)

end Go.Proofs.Ytjiikpmkedkbkaa
namespace Go.Proofs.Ytjiikpmkedkbkaa
namespace Lg

theorem run_ok (l : List Rec) : Sm.Ok (run l) := by
  have key : ∀ (l : List Rec) (s : Sm.Sta), Sm.Ok s → Sm.Ok (l.foldl Sm.apply s) := by
    intro l
    induction l with
    | nil => exact fun s h => h
    | cons r l ih => exact fun s h => ih _ (h.applied r)
  exact key l _ Sm.ok_new
theorem run_succ (l : List Rec) {i : Nat} (hi : i < l.length) : run (l.take (i + 1)) = Sm.apply (run (l.take i)) l[i] := by
  rw [List.take_succ_eq_append_getElem hi, run_snoc]
theorem fits_pos {s : Sm.Sta} {r : Rec} (h : Sm.fits s r = true) : r.p = s.pos + 1 ∧ Sm.apply s r = ⟨r.cs.foldl Sm.put1 s.M, r.p⟩ := by
  refine ⟨?_, by unfold Sm.apply; rw [if_pos h]⟩
  simp only [Sm.fits, Bool.and_eq_true, decide_eq_true_eq] at h
  exact h.1.2
theorem Ok.pos {l : List Rec} (h : Ok l) : ∀ i, i ≤ l.length → (run (l.take i)).pos = i
  | 0, _ => rfl
  | i + 1, hi => by
    have hf := h.fits i (by omega)
    obtain ⟨h1, h2⟩ := fits_pos hf
    rw [run_succ l (by omega), h2]
    dsimp only
    rw [h1, h.pos i (by omega)]
    omega
theorem Ok.at_ {l : List Rec} (h : Ok l) {i : Nat} (hi : i < l.length) : l[i].p = i + 1 := by
  rw [(fits_pos (h.fits i hi)).1, h.pos i (by omega)]
theorem Ok.valid {l : List Rec} (h : Ok l) {i : Nat} (hi : i < l.length) : Rw.valid l[i] = true := by
  have hf := h.fits i hi
  simp only [Sm.fits, Bool.and_eq_true, decide_eq_true_eq] at hf
  exact hf.1.1
theorem run_all (l : List Rec) : run (l.take l.length) = run l := by rw [List.take_length]
end Lg
theorem OwnR.cap {w : World} {A : Option Addr} {cap : Nat} {out : List Rec} (h : OwnR w (.slice A out.length cap) out) : out.length ≤ cap := by
  obtain ⟨us, h1, h2, _⟩ := h
  have hl : out.length = us.length := by rw [← h2, List.length_map]
  rw [hl] at h1 ⊢
  exact own_cap2 h1
theorem RecsAt.open_ {w : World} {A : Option Addr} {l : List Rec} (h : RecsAt w A l) {k : Nat} (hk : k < l.length) :
    ∃ bb off Ak ck, A = some ⟨bb, off, none⟩ ∧ bb < w.heap.size ∧ w.cell? ⟨bb, off + k * 2, none⟩ = some (.int .i64 l[k].p) ∧ w.cell? ⟨bb, off + k * 2 + 1, none⟩ = some (.slice Ak l[k].cs.length ck) ∧ HoldsC w Ak l[k].cs ∧ l[k].cs.length ≤ 8 := by
  obtain ⟨us, hat, hus, hhc⟩ := h
  subst hus
  have hku : k < us.length := by simpa using hk
  obtain ⟨bb, off, e, hbb, hc⟩ := hat (by omega)
  obtain ⟨h1, h2⟩ := hhc us[k] (List.getElem_mem hku)
  have e1 : (us.map (·.r))[k]'hk = us[k].r := by simp
  rw [e1]
  exact ⟨bb, off, us[k].A, us[k].cap, e, hbb, hc k hku 0 (by decide), hc k hku 1 (by decide), h1, h2⟩
/-- The same, and what the slice may hold. -/
theorem RecsAt.openC {w : World} {A : Option Addr} {l : List Rec} (h : RecsAt w A l) {k : Nat} (hk : k < l.length) :
    ∃ bb off Ak ck, A = some ⟨bb, off, none⟩ ∧ bb < w.heap.size ∧ w.cell? ⟨bb, off + k * 2, none⟩ = some (.int .i64 l[k].p) ∧ w.cell? ⟨bb, off + k * 2 + 1, none⟩ = some (.slice Ak l[k].cs.length ck) ∧ HoldsC w Ak l[k].cs ∧ l[k].cs.length ≤ 8 ∧ l[k].cs.length ≤ ck := by
  obtain ⟨us, hat, hus, hhc⟩ := h
  subst hus
  have hku : k < us.length := by simpa using hk
  obtain ⟨bb, off, e, hbb, hc⟩ := hat (by omega)
  obtain ⟨h1, h2⟩ := hhc us[k] (List.getElem_mem hku)
  have e1 : (us.map (·.r))[k]'hk = us[k].r := by simp
  rw [e1]
  exact ⟨bb, off, us[k].A, us[k].cap, e, hbb, hc k hku 0 (by decide), hc k hku 1 (by decide), h1, h2, us[k].le⟩
end Go.Proofs.Ytjiikpmkedkbkaa
