/-
  The order that chosen sorts by.
-/
import Derived.Test.YtjiikpmkedkbkaaGreatMai
import Derived.Test.YtjiikpmkedkbkaaGreatMak
import Derived.Test.YtjiikpmkedkbkaaGreatMaj
import Derived.Deep.QuietTactic
import Derived.Test.YtjiikpmkedkbkaaGreatMac
namespace Go.Proofs.YtjiikpmkedkbkaaGreat
open Go.RowKit

/-- The value of a column: the row is boxed. -/
theorem value_any (r : RowV) (c : Int) (w : World) : Calls Tryz.prog 54 #[r.val, .int .i64 c] w fun e w' => e = .returned (.int .i64 (r.value c)) ∧ w' = w.alloc (.cells r.cells.toArray 53) := by
  obtain ⟨t, k, x, y, z⟩ := r
  unfold RowV.val
  dsimp only
  by_cases h0 : c = 0
  · subst h0
    go_enter Tryz.func54, Tryz.ntmps54
    go_wp2
    go_ret
    exact ⟨rfl, rfl⟩
  by_cases h1 : c = 1
  · subst h1
    go_enter Tryz.func54, Tryz.ntmps54
    go_wp2
    go_ret
    exact ⟨rfl, rfl⟩
  by_cases h2 : c = 2
  · subst h2
    go_enter Tryz.func54, Tryz.ntmps54
    go_wp2
    go_ret
    exact ⟨rfl, rfl⟩
  by_cases h3 : c = 3
  · subst h3
    go_enter Tryz.func54, Tryz.ntmps54
    go_wp2
    go_ret
    exact ⟨rfl, rfl⟩
  have HV : Hid (RowV.value ⟨t, k, x, y, z⟩ c = 0) := Lib.hid (by simp [RowV.value, h0, h1, h2, h3])
  have g0 : (c == 0) = false := by simpa using h0
  have g1 : (c == 1) = false := by simpa using h1
  have g2 : (c == 2) = false := by simpa using h2
  have g3 : (c == 3) = false := by simpa using h3
  clear h0 h1 h2 h3
  go_enter Tryz.func54, Tryz.ntmps54
  go_wp2
  go_ret
  exact ⟨by rw [HV.out]; rfl, rfl⟩
theorem isNaN_any (x : Int) (w : World) : Calls Tryz.prog 91 #[.int .i64 x] w fun e w' => e = .returned (.bool false) ∧ w' = w := by
  go_enter Tryz.func91, Tryz.ntmps91
  go_wp2
  go_ret
  exact ⟨by simp, rfl⟩
/-- 'cmp.Compare'. -/
def cmpI (x y : Int) : Int := if x < y then -1 else if y < x then 1 else 0
theorem compare_any (x y : Int) (w : World) : Calls Tryz.prog 79 #[.int .i64 x, .int .i64 y] w fun e w' => e = .returned (.int .i64 (cmpI x y)) ∧ w' = w := by
  have HN := Lib.hid isNaN_any
  have HC : Hid (cmpI x y = if x < y then -1 else if y < x then 1 else 0) := Lib.hid rfl
  by_cases h1 : x < y
  · have HC2 : Hid (cmpI x y = -1) := Lib.hid (by rw [HC.out, if_pos h1])
    go_enter Tryz.func79, Tryz.ntmps79
    go_wp2_with (go_at_call 91; refine (HN.out _ _).mono ?_; rintro e w' ⟨rfl, rfl⟩)
    go_ret
    exact ⟨by rw [HC2.out]; rfl, rfl⟩
  by_cases h2 : y < x
  · have HC2 : Hid (cmpI x y = 1) := Lib.hid (by rw [HC.out, if_neg h1, if_pos h2])
    go_enter Tryz.func79, Tryz.ntmps79
    go_wp2_with (go_at_call 91; refine (HN.out _ _).mono ?_; rintro e w' ⟨rfl, rfl⟩)
    go_ret
    exact ⟨by rw [HC2.out]; rfl, rfl⟩
  have HC2 : Hid (cmpI x y = 0) := Lib.hid (by rw [HC.out, if_neg h1, if_neg h2])
  go_enter Tryz.func79, Tryz.ntmps79
  go_wp2_with (go_at_call 91; refine (HN.out _ _).mono ?_; rintro e w' ⟨rfl, rfl⟩)
  go_ret
  exact ⟨by rw [HC2.out]; rfl, rfl⟩
/-- 'cmp.Or' of two. -/
theorem or_any (x y : Int) (b cap : Nat) (w : World) (h0 : w.cell? ⟨b, 0, none⟩ = some (.int .i64 x)) (h1 : w.cell? ⟨b, 1, none⟩ = some (.int .i64 y)) :
    Calls Tryz.prog 78 #[.slice (some ⟨b, 0, none⟩) 2 cap] w fun e w' => e = .returned (.int .i64 (if x = 0 then y else x)) ∧ w' = w := by
  by_cases hx : x = 0
  · subst hx
    by_cases hy : y = 0
    · subst hy
      go_enter Tryz.func78, Tryz.ntmps78
      go_wp2_with fail
      refine wp_loop_rounds 3 ?_
      rw [rounds_succ]
      go_wp2_with fail
      (try (rw [rounds_succ]; go_wp2_with fail))
      (try (rw [rounds_succ]; go_wp2_with fail))
      go_ret
      exact ⟨by simp, rfl⟩
    · have hy' : (y != 0) = true := by simpa using hy
      have HY := Lib.hid hy
      clear hy
      go_enter Tryz.func78, Tryz.ntmps78
      go_wp2_with fail
      refine wp_loop_rounds 3 ?_
      rw [rounds_succ]
      go_wp2_with fail
      (try (rw [rounds_succ]; go_wp2_with fail))
      go_ret
      exact ⟨by simp, rfl⟩
  · have hx' : (x != 0) = true := by simpa using hx
    have HX := Lib.hid hx
    clear hx
    go_enter Tryz.func78, Tryz.ntmps78
    go_wp2_with fail
    refine wp_loop_rounds 3 ?_
    rw [rounds_succ]
    go_wp2_with fail
    go_ret
    exact ⟨rfl, rfl⟩
end Go.Proofs.YtjiikpmkedkbkaaGreat
namespace Go.Proofs.YtjiikpmkedkbkaaGreat
open Go.RowKit

theorem run_isAgg_v3' (w : World) : (isAgg 43).run Tryz.prog w = .ok true w := by kernel_rfl
theorem run_sizeOf_v3' (w : World) : (sizeOf 43).run Tryz.prog w = .ok 3 w := by kernel_rfl
theorem eqIn_row (d : Nat) (a b : RowV) (w : World) : (Op.equalIn (d + 3) 53 a.val b.val).run Tryz.prog w = .ok (decide (a = b)) w := by
  unfold RowV.val
  rw [run_equalIn_agg w (d + 2) 53 _ _ (by kernel_rfl) (by kernel_rfl)]
  simp only [Program.fieldsOf, Tryz.underlying53]
  obtain ⟨t, k, x, y, z⟩ := a
  obtain ⟨t', k', x', y', z'⟩ := b
  have hI : ∀ (a b : Int) (w : World), (Op.equalIn (d + 2) 3 (.int .i64 a) (.int .i64 b)).run Tryz.prog w = .ok (a == b) w := fun a b w => run_equalIn_int (P := Tryz.prog) w (d + 1) 3 .i64 .i64 a b Tryz.underlying3
  have hV := fun x y z a b c w => eqIn_v3 d x y z a b c w
  simp [Op.eqFields, Sem.run_bind, part, hI, hV]
  repeat' split
  all_goals simp_all
theorem neq_row (a b : RowV) (w : World) : (binOp .neq 53 a.val b.val).run Tryz.prog w = .ok (.bool (!decide (a = b))) w := by
  rw [run_neq_struct, show (10000 : Nat) = 9997 + 3 from rfl, eqIn_row]
  rfl
theorem eql_row (a b : RowV) (w : World) : (binOp .eql 53 a.val b.val).run Tryz.prog w = .ok (.bool (decide (a = b))) w := by
  rw [run_eql_struct, show (10000 : Nat) = 9997 + 3 from rfl, eqIn_row]
  rfl
theorem eqGuard_row (op : BinOp) (x y : Operand) (xs ys : Array Value) (w : World) : (eqGuard op 53 x y (.agg xs) (.agg ys)).run Tryz.prog w = .ok () w :=
  run_eqGuard_agg w op _ x y xs ys (by kernel_rfl)

/-- Rows at an address. -/
abbrev RowsAt (w : World) (A : Option Addr) (L : List RowV) : Prop := AtL RowV.cells 5 w A L
theorem sameRows_big (cs ds : List RowV) (A B : Option Addr) (ca cb : Nat) (w : World) (ha : RowsAt w A cs) (hb : RowsAt w B ds) (la : cs.length ≤ 9000) (_lb : ds.length ≤ 9000) :
    Calls Tryz.prog 36 #[.slice A cs.length ca, .slice B ds.length cb] w fun e w' => e = .returned (.bool (decide (cs = ds))) ∧ Fr [] w w' := by
  by_cases hl : cs.length = ds.length
  · go_enter Tryz.func36, Tryz.ntmps36
    have HL := Lib.hid hl
    have hd : ((cs.length : Int) != (ds.length : Int)) = false := by simp [hl]
    clear hl
    go_wp2_with fail
    have hf0 : Fr [] w w := Fr.refl _ _
    go_loopw [5] (fun i wr => ∃ k : Nat, i = .int .i64 k ∧ (k ≤ cs.length ∧ cs.take k = ds.take k) ∧ Fr [] w wr) (fun i _ => cs.length - (intOf i).toNat)
    case atStart => exact ⟨0, rfl, ⟨Nat.zero_le _, by simp⟩, hf0⟩
    case round =>
      clear hf0
      obtain ⟨k, rfl, ⟨hk, htk⟩, hf⟩ := hrel
      have HTK := Lib.hid htk
      clear htk
      by_cases hlt : k < cs.length
      · obtain ⟨b1, o1, e1, hb1, hc1⟩ := (ha.fr hf (by simp)) (by omega)
        obtain ⟨b2, o2, e2, hb2, hc2⟩ := (hb.fr hf (by simp)) (by have := HL.out; omega)
        subst e1 e2
        have hlt2 : k < ds.length := by have := HL.out; omega
        replace hc1 := Lib.hid (hc1 k hlt)
        replace hc2 := Lib.hid (hc2 k hlt2)
        have htake : cs[k] = ds[k] → cs.take (k + 1) = ds.take (k + 1) := fun e => by rw [List.take_succ_eq_append_getElem hlt, List.take_succ_eq_append_getElem hlt2, HTK.out, e]
        have hdiff : cs[k] ≠ ds[k] → cs ≠ ds := fun h e => h (by simp only [e])
        have hq := neq_row cs[k] ds[k]
        generalize cs[k] = c at *
        generalize ds[k] = d at *
        obtain ⟨t, kk, p0, p1, p2⟩ := c
        obtain ⟨t', kk', p0', p1', p2'⟩ := d
        unfold RowV.val at hq
        dsimp only at hq
        have hc1_0 : wr.cell? ⟨b1, o1 + k * 5, none⟩ = some (.int .i64 t) := hc1.out 0 (by decide)
        have hc1_1 : wr.cell? ⟨b1, o1 + k * 5 + 1, none⟩ = some (.int .i64 kk) := hc1.out 1 (by decide)
        have hc1_2 : wr.cell? ⟨b1, o1 + k * 5 + 2, none⟩ = some (.int .i64 p0) := hc1.out 2 (by decide)
        have hc1_3 : wr.cell? ⟨b1, o1 + k * 5 + 3, none⟩ = some (.int .i64 p1) := hc1.out 3 (by decide)
        have hc1_4 : wr.cell? ⟨b1, o1 + k * 5 + 4, none⟩ = some (.int .i64 p2) := hc1.out 4 (by decide)
        have hc2_0 : wr.cell? ⟨b2, o2 + k * 5, none⟩ = some (.int .i64 t') := hc2.out 0 (by decide)
        have hc2_1 : wr.cell? ⟨b2, o2 + k * 5 + 1, none⟩ = some (.int .i64 kk') := hc2.out 1 (by decide)
        have hc2_2 : wr.cell? ⟨b2, o2 + k * 5 + 2, none⟩ = some (.int .i64 p0') := hc2.out 2 (by decide)
        have hc2_3 : wr.cell? ⟨b2, o2 + k * 5 + 3, none⟩ = some (.int .i64 p1') := hc2.out 3 (by decide)
        have hc2_4 : wr.cell? ⟨b2, o2 + k * 5 + 4, none⟩ = some (.int .i64 p2') := hc2.out 4 (by decide)
        have hg := eqGuard_row
        clear hc1 hc2
        by_cases he : (⟨t, kk, p0, p1, p2⟩ : RowV) = ⟨t', kk', p0', p1', p2'⟩
        · have HT := Lib.hid (htake he)
          rw [decide_eq_true he] at hq
          clear htake hdiff he
          go_wp2_with fail
          go_quiet (fail)
          go_wp2_with fail
          have f1 : Fr [] w (wr.drewN nq) := hf.drewN _
          go_roundw
          case rel => exact ⟨k + 1, by go_num, ⟨by omega, HT.out⟩, f1⟩
          case measure => simp [intOf]; omega
        · have HD := Lib.hid (hdiff he)
          rw [decide_eq_false he] at hq
          clear htake hdiff he
          go_wp2_with fail
          go_quiet (fail)
          go_wp2_with fail
          go_ret
          exact ⟨by rw [decide_eq_false HD.out]; rfl, hf.drewN _⟩
      · go_wp2_with fail
        go_ret
        have HF : cs = ds := by
          have e1 := HTK.out
          have e2 := HL.out
          rwa [List.take_of_length_le (by omega), List.take_of_length_le (by omega)] at e1
        exact ⟨by rw [decide_eq_true HF]; rfl, hf⟩
  · have HF : Hid (decide (cs = ds) = false) := Lib.hid (decide_eq_false fun e => hl (by rw [e]))
    have hd : decide (cs.length = ds.length) = false := by simpa using hl
    go_enter Tryz.func36, Tryz.ntmps36
    go_wp2_with fail
    go_ret
    exact ⟨by rw [HF.out]; rfl, Fr.refl _ _⟩
theorem sameRows_any (cs ds : List RowV) (A B : Option Addr) (ca cb : Nat) (w : World) (ha : RowsAt w A cs) (hb : RowsAt w B ds) (la : cs.length ≤ 4000) (_lb : ds.length ≤ 4000) :
    Calls Tryz.prog 36 #[.slice A cs.length ca, .slice B ds.length cb] w fun e w' => e = .returned (.bool (decide (cs = ds))) ∧ Fr [] w w' :=
  sameRows_big cs ds A B ca cb w ha hb (Nat.le_trans la (by decide)) (Nat.le_trans _lb (by decide))
end Go.Proofs.YtjiikpmkedkbkaaGreat
namespace Go.Proofs.YtjiikpmkedkbkaaGreat
open Go.RowKit Go.Sort

/-- How two rows stand to each other: by the column, then by the key. -/
def cmpRow (c : Int) (a b : RowV) : Int := if cmpI (a.value c) (b.value c) = 0 then cmpI a.k b.k else cmpI (a.value c) (b.value c)

theorem grown3 {W W2 : World} (nq : Nat) (osq : Array Obj) (o : Obj) (h : ∃ q os, W2 = grow (W.drewN q) os) : ∃ q os, (grow (W2.drewN nq) osq).alloc o = grow (W.drewN q) os := by
  obtain ⟨q, os, rfl⟩ := h
  refine ⟨q + nq, os ++ osq ++ #[o], ?_⟩
  rw [alloc_eq_grow]
  show grow (grow (grow ((W.drewN q).drewN nq) os) osq) _ = _
  rw [grow_grow, grow_grow, World.drewN_drewN, Array.append_assoc]
theorem value5 (t k x y z c : Int) (w : World) : Calls Tryz.prog 54 #[.agg #[.int .i64 t, .int .i64 k, .int .i64 x, .int .i64 y, .int .i64 z], .int .i64 c] w fun e w' => e = .returned (.int .i64 (RowV.value ⟨t, k, x, y, z⟩ c)) ∧ w' = w.alloc (.cells #[.int .i64 t, .int .i64 k, .int .i64 x, .int .i64 y, .int .i64 z] 53) := value_any ⟨t, k, x, y, z⟩ c w

set_option maxRecDepth 100000 in
set_option maxHeartbeats 2000000 in
theorem cmp_any (c : Int) (r1 r2 : RowV) (gc : Nat) (W : World) (hc : W.cell? ⟨gc, 0, none⟩ = some (.int .i64 c)) :
    Calls Tryz.prog 77 #[r1.val, r2.val, .pointer (some ⟨gc, 0, none⟩)] W fun e w' => e = .returned (.int .i64 (cmpRow c r1 r2)) ∧ ∃ q os, w' = grow (W.drewN q) os := by
  have hgl := World.block_lt_of_cell? W _ hc
  have HV := Lib.hid value5
  have HCM := Lib.hid compare_any
  have hb1 := (Blk.new W 53 r1.cells.toArray).alloc (.cells r2.cells.toArray 53)
  have hb2 := Blk.new (W.alloc (.cells r1.cells.toArray 53)) 53 r2.cells.toArray
  have hc2 : ((W.alloc (.cells r1.cells.toArray 53)).alloc (.cells r2.cells.toArray 53)).cell? ⟨gc, 0, none⟩ = some (.int .i64 c) := by
    rw [World.cell?_alloc_lt _ _ _ (by simpa using Nat.lt_succ_of_lt hgl), World.cell?_alloc_lt _ _ _ (by simpa using hgl)]
    exact hc
  have hW : ∃ q os, (W.alloc (.cells r1.cells.toArray 53)).alloc (.cells r2.cells.toArray 53) = grow (W.drewN q) os := ⟨0, _, by rw [alloc_eq_grow, alloc_eq_grow, grow_grow]; rfl⟩
  have HW := Lib.hid hW
  clear hW hc
  unfold cmpRow
  go_enter Tryz.func77, Tryz.ntmps77
  go_wp2_with fail
  rw [World.size_alloc] at hb2
  generalize (W.alloc (.cells r1.cells.toArray 53)).alloc (.cells r2.cells.toArray 53) = W2 at *
  obtain ⟨t1, k1, x1, y1, z1⟩ := r1
  obtain ⟨t2, k2, x2, y2, z2⟩ := r2
  have hl1 := hb1.lt
  have hl2 := hb2.lt
  have hl0 := World.block_lt_of_cell? W2 _ hc2
  have q0 : ∀ n os, (grow (W2.drewN n) os).cell? ⟨gc, 0, none⟩ = some (.int .i64 c) := cell_grown hl0 hc2
  have a0 : ∀ n os, (grow (W2.drewN n) os).cell? ⟨W.heap.size, 0, none⟩ = some (.int .i64 t1) := cell_grown hl1 (hb1.cell 0)
  have a1 : ∀ n os, (grow (W2.drewN n) os).cell? ⟨W.heap.size, 1, none⟩ = some (.int .i64 k1) := cell_grown hl1 (hb1.cell 1)
  have a2 : ∀ n os, (grow (W2.drewN n) os).cell? ⟨W.heap.size, 2, none⟩ = some (.int .i64 x1) := cell_grown hl1 (hb1.cell 2)
  have a3 : ∀ n os, (grow (W2.drewN n) os).cell? ⟨W.heap.size, 3, none⟩ = some (.int .i64 y1) := cell_grown hl1 (hb1.cell 3)
  have a4 : ∀ n os, (grow (W2.drewN n) os).cell? ⟨W.heap.size, 4, none⟩ = some (.int .i64 z1) := cell_grown hl1 (hb1.cell 4)
  have b0 : ∀ n os, (grow (W2.drewN n) os).cell? ⟨W.heap.size + 1, 0, none⟩ = some (.int .i64 t2) := cell_grown hl2 (hb2.cell 0)
  have b1 : ∀ n os, (grow (W2.drewN n) os).cell? ⟨W.heap.size + 1, 1, none⟩ = some (.int .i64 k2) := cell_grown hl2 (hb2.cell 1)
  have b2 : ∀ n os, (grow (W2.drewN n) os).cell? ⟨W.heap.size + 1, 2, none⟩ = some (.int .i64 x2) := cell_grown hl2 (hb2.cell 2)
  have b3 : ∀ n os, (grow (W2.drewN n) os).cell? ⟨W.heap.size + 1, 3, none⟩ = some (.int .i64 y2) := cell_grown hl2 (hb2.cell 3)
  have b4 : ∀ n os, (grow (W2.drewN n) os).cell? ⟨W.heap.size + 1, 4, none⟩ = some (.int .i64 z2) := cell_grown hl2 (hb2.cell 4)
  clear hb1 hb2 hc2 hgl hl0 hl1 hl2
  refine wp_region_quiet_tail (C := fun w' => ∃ p : GrownBy, w' = grow (W2.drewN p.n) p.os) 12 (by kernel_rfl) (by kernel_rfl) ⟨⟨1, #[]⟩, by rw [grow_empty]; rfl⟩ ?_
  simp only [List.take_succ_cons, List.take_zero, List.drop_succ_cons, List.drop_zero]
  repeat (quiet_step (first
    | exact Calls.grown_of ((HV.out _ _ _ _ _ _ _).mono fun e w'' h => ⟨h.1, 0, _, h.2.trans (alloc_eq_grow _ _)⟩)
    | exact Calls.grown_of ((HCM.out _ _ _).mono fun e w'' h => ⟨h.1, 0, #[], h.2.trans (grow_empty _).symm⟩)))
  refine wpQuiet_nil ?_
  intro w' hw'
  obtain ⟨⟨nq, osq⟩, rfl⟩ := hw'
  dsimp only
  go_wp2_with fail
  have hsz : (grow (W2.drewN nq) osq).heap.size = W2.heap.size + osq.size := by simp [grow]
  have hnb := Blk.new (grow (W2.drewN nq) osq) 3 #[.int .i64 (cmpI (RowV.value ⟨t1, k1, x1, y1, z1⟩ c) (RowV.value ⟨t2, k2, x2, y2, z2⟩ c)), .int .i64 (cmpI k1 k2)]
  rw [hsz] at hnb
  refine (or_any (cmpI (RowV.value ⟨t1, k1, x1, y1, z1⟩ c) (RowV.value ⟨t2, k2, x2, y2, z2⟩ c)) (cmpI k1 k2) (W2.heap.size + osq.size) 2 _ (hnb.cell 0) (hnb.cell 1)).mono ?_
  rintro e w'' ⟨rfl, rfl⟩
  go_wp2_with fail
  all_goals
    go_ret
    exact ⟨rfl, grown3 _ _ _ HW.out⟩
end Go.Proofs.YtjiikpmkedkbkaaGreat
