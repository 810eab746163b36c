/-
  Law 07's sane: the fixed examples, in plain Lean.
-/
import Derived.Test.YtjiikpmkedkbkaaFe
import Derived.Test.YtjiikpmkedkbkaaFl
import Derived.Deep.QuietTactic
namespace Go.Proofs.Ytjiikpmkedkbkaa
open Go.RowKit

theorem run_isAgg_v3' (w : World) : (isAgg 28).run Try.prog w = .ok true w := by kernel_rfl
theorem run_sizeOf_v3' (w : World) : (sizeOf 28).run Try.prog w = .ok 3 w := by kernel_rfl
theorem eqIn_row (d : Nat) (a b : RowV) (w : World) : (Op.equalIn (d + 3) 57 a.val b.val).run Try.prog w = .ok (decide (a = b)) w := by
  unfold RowV.val
  rw [run_equalIn_agg w (d + 2) 57 _ _ (by kernel_rfl) (by kernel_rfl)]
  simp only [Program.fieldsOf, Try.underlying57]
  obtain ⟨t, k, x, y, z⟩ := a
  obtain ⟨t', k', x', y', z'⟩ := b
  have hI : ∀ (a b : Int) (w : World), (Op.equalIn (d + 2) 3 (.int .i64 a) (.int .i64 b)).run Try.prog w = .ok (a == b) w := fun a b w => run_equalIn_int (P := Try.prog) w (d + 1) 3 .i64 .i64 a b Try.underlying3
  have hV := fun x y z a b c w => eqIn_v3 d x y z a b c w
  simp [Op.eqFields, Sem.run_bind, part, hI, hV]
  repeat' split
  all_goals simp_all
theorem neq_row (a b : RowV) (w : World) : (binOp .neq 57 a.val b.val).run Try.prog w = .ok (.bool (!decide (a = b))) w := by
  rw [run_neq_struct, show (10000 : Nat) = 9997 + 3 from rfl, eqIn_row]
  rfl
theorem eql_row (a b : RowV) (w : World) : (binOp .eql 57 a.val b.val).run Try.prog w = .ok (.bool (decide (a = b))) w := by
  rw [run_eql_struct, show (10000 : Nat) = 9997 + 3 from rfl, eqIn_row]
  rfl
theorem eqGuard_row (op : BinOp) (x y : Operand) (xs ys : Array Value) (w : World) : (eqGuard op 57 x y (.agg xs) (.agg ys)).run Try.prog w = .ok () w :=
  run_eqGuard_agg w op _ x y xs ys (by kernel_rfl)

/-- Rows at an address. -/
abbrev RowsAt (w : World) (A : Option Addr) (L : List RowV) : Prop := AtL RowV.cells 5 w A L
theorem sameRows_any (cs ds : List RowV) (A B : Option Addr) (ca cb : Nat) (w : World) (ha : RowsAt w A cs) (hb : RowsAt w B ds) (la : cs.length ≤ 4000) (_lb : ds.length ≤ 4000) :
    Calls Try.prog 39 #[.slice A cs.length ca, .slice B ds.length cb] w fun e w' => e = .returned (.bool (decide (cs = ds))) ∧ Fr [] w w' := by
  by_cases hl : cs.length = ds.length
  · go_enter Try.func39, Try.ntmps39
    have HL := Lib.hid hl
    have hd : ((cs.length : Int) != (ds.length : Int)) = false := by simp [hl]
    clear hl
    go_wp2_with fail
    have hf0 : Fr [] w w := Fr.refl _ _
    go_loopw [5] (fun i wr => ∃ k : Nat, i = .int .i64 k ∧ (k ≤ cs.length ∧ cs.take k = ds.take k) ∧ Fr [] w wr) (fun i _ => cs.length - (intOf i).toNat)
    case atStart => exact ⟨0, rfl, ⟨Nat.zero_le _, by simp⟩, hf0⟩
    case round =>
      clear hf0
      obtain ⟨k, rfl, ⟨hk, htk⟩, hf⟩ := hrel
      have HTK := Lib.hid htk
      clear htk
      by_cases hlt : k < cs.length
      · obtain ⟨b1, o1, e1, hb1, hc1⟩ := (ha.fr hf (by simp)) (by omega)
        obtain ⟨b2, o2, e2, hb2, hc2⟩ := (hb.fr hf (by simp)) (by have := HL.out; omega)
        subst e1 e2
        have hlt2 : k < ds.length := by have := HL.out; omega
        replace hc1 := Lib.hid (hc1 k hlt)
        replace hc2 := Lib.hid (hc2 k hlt2)
        have htake : cs[k] = ds[k] → cs.take (k + 1) = ds.take (k + 1) := fun e => by rw [List.take_succ_eq_append_getElem hlt, List.take_succ_eq_append_getElem hlt2, HTK.out, e]
        have hdiff : cs[k] ≠ ds[k] → cs ≠ ds := fun h e => h (by simp only [e])
        have hq := neq_row cs[k] ds[k]
        generalize cs[k] = c at *
        generalize ds[k] = d at *
        obtain ⟨t, kk, p0, p1, p2⟩ := c
        obtain ⟨t', kk', p0', p1', p2'⟩ := d
        unfold RowV.val at hq
        dsimp only at hq
        have hc1_0 : wr.cell? ⟨b1, o1 + k * 5, none⟩ = some (.int .i64 t) := hc1.out 0 (by decide)
        have hc1_1 : wr.cell? ⟨b1, o1 + k * 5 + 1, none⟩ = some (.int .i64 kk) := hc1.out 1 (by decide)
        have hc1_2 : wr.cell? ⟨b1, o1 + k * 5 + 2, none⟩ = some (.int .i64 p0) := hc1.out 2 (by decide)
        have hc1_3 : wr.cell? ⟨b1, o1 + k * 5 + 3, none⟩ = some (.int .i64 p1) := hc1.out 3 (by decide)
        have hc1_4 : wr.cell? ⟨b1, o1 + k * 5 + 4, none⟩ = some (.int .i64 p2) := hc1.out 4 (by decide)
        have hc2_0 : wr.cell? ⟨b2, o2 + k * 5, none⟩ = some (.int .i64 t') := hc2.out 0 (by decide)
        have hc2_1 : wr.cell? ⟨b2, o2 + k * 5 + 1, none⟩ = some (.int .i64 kk') := hc2.out 1 (by decide)
        have hc2_2 : wr.cell? ⟨b2, o2 + k * 5 + 2, none⟩ = some (.int .i64 p0') := hc2.out 2 (by decide)
        have hc2_3 : wr.cell? ⟨b2, o2 + k * 5 + 3, none⟩ = some (.int .i64 p1') := hc2.out 3 (by decide)
        have hc2_4 : wr.cell? ⟨b2, o2 + k * 5 + 4, none⟩ = some (.int .i64 p2') := hc2.out 4 (by decide)
        have hg := eqGuard_row
        clear hc1 hc2
        by_cases he : (⟨t, kk, p0, p1, p2⟩ : RowV) = ⟨t', kk', p0', p1', p2'⟩
        · have HT := Lib.hid (htake he)
          rw [decide_eq_true he] at hq
          clear htake hdiff he
          go_wp2_with fail
          go_quiet (fail)
          go_wp2_with fail
          have f1 : Fr [] w (wr.drewN nq) := hf.drewN _
          go_roundw
          case rel => exact ⟨k + 1, by go_num, ⟨by omega, HT.out⟩, f1⟩
          case measure => simp [intOf]; omega
        · have HD := Lib.hid (hdiff he)
          rw [decide_eq_false he] at hq
          clear htake hdiff he
          go_wp2_with fail
          go_quiet (fail)
          go_wp2_with fail
          go_ret
          exact ⟨by rw [decide_eq_false HD.out]; rfl, hf.drewN _⟩
      · go_wp2_with fail
        go_ret
        have HF : cs = ds := by
          have e1 := HTK.out
          have e2 := HL.out
          rwa [List.take_of_length_le (by omega), List.take_of_length_le (by omega)] at e1
        exact ⟨by rw [decide_eq_true HF]; rfl, hf⟩
  · have HF : Hid (decide (cs = ds) = false) := Lib.hid (decide_eq_false fun e => hl (by rw [e]))
    have hd : decide (cs.length = ds.length) = false := by simpa using hl
    go_enter Try.func39, Try.ntmps39
    go_wp2_with fail
    go_ret
    exact ⟨by rw [HF.out]; rfl, Fr.refl _ _⟩
end Go.Proofs.Ytjiikpmkedkbkaa
namespace Go.Proofs.Ytjiikpmkedkbkaa
open Go.RowKit

/-- A result in a block of its own. -/
def R7At (w : World) (g : Nat) (v : Value) (n : Int) (f : Bool) : Prop := Blk w g 27 #[v, .int .i64 n, .bool f]
section
variable {w w' : World} {g : Nat} {v : Value} {n : Int} {f : Bool}
theorem R7At.c0 (h : R7At w g v n f) : w.cell? ⟨g, 0, none⟩ = some v := Blk.cell h 0
theorem R7At.c1 (h : R7At w g v n f) : w.cell? ⟨g, 1, none⟩ = some (.int .i64 n) := Blk.cell h 1
theorem R7At.c2 (h : R7At w g v n f) : w.cell? ⟨g, 2, none⟩ = some (.bool f) := Blk.cell h 2
theorem R7At.z (h : R7At w g v n f) (k : Nat) : w.frozen? ⟨g, k, none⟩ = false := Blk.frozen h k
theorem R7At.new (w : World) (v : Value) (n : Int) (f : Bool) : R7At (w.alloc (.cells #[v, .int .i64 n, .bool f] 27)) w.heap.size v n f := Blk.new _ _ _
theorem R7At.fr {S : List Nat} (h : R7At w g v n f) (hf : Fr S w w') (hs : g ∉ S) : R7At w' g v n f := Blk.fr h hf hs
end

set_option maxRecDepth 100000 in
set_option maxHeartbeats 4000000 in
theorem same7_any (A : Option Addr) (n ca : Nat) (x : Int) (f : Bool) (l1 : List RowV) (B : Option Addr) (m cb : Nat) (y : Int) (g : Bool) (l2 : List RowV) (w : World) (ha : RowsAt w A l1) (hn : n = l1.length) (hb : RowsAt w B l2) (hm : m = l2.length) (la : n ≤ 4000) (_lb : m ≤ 4000) :
    Calls Try.prog 15 #[.agg #[.slice A n ca, .int .i64 x, .bool f], .agg #[.slice B m cb, .int .i64 y, .bool g]] w fun e w' => e = .returned (.bool (decide ((⟨l1, x, f⟩ : Res) = ⟨l2, y, g⟩))) ∧ Fr [] w w' := by
  have ra := (R7At.new w (.slice A n ca) x f).fr ((Fr.refl [] _).alloc (.cells #[.slice B m cb, .int .i64 y, .bool g] 27)) (by simp)
  have rb := R7At.new (w.alloc (.cells #[.slice A n ca, .int .i64 x, .bool f] 27)) (.slice B m cb) y g
  rw [World.size_alloc] at rb
  have F0 := Lib.hid (((Fr.refl [] w).alloc (.cells #[.slice A n ca, .int .i64 x, .bool f] 27)).alloc (.cells #[.slice B m cb, .int .i64 y, .bool g] 27))
  have HE := Lib.hid (sameRows_any l1 l2 A B ca cb ((w.alloc (.cells #[.slice A n ca, .int .i64 x, .bool f] 27)).alloc (.cells #[.slice B m cb, .int .i64 y, .bool g] 27)) (ha.fr F0.out (by simp)) (hb.fr F0.out (by simp)) (by omega) (by omega))
  rw [← hn, ← hm] at HE
  obtain ⟨p, HP⟩ : ∃ p, Hid (decide (l1 = l2) = p) := ⟨_, Lib.hid rfl⟩
  rw [HP.out] at HE
  obtain ⟨r, HR⟩ : ∃ r, Hid (decide ((⟨l1, x, f⟩ : Res) = ⟨l2, y, g⟩) = r) := ⟨_, Lib.hid rfl⟩
  rw [HR.out]
  have HPR : Hid (∀ v, (decide (x = y) && decide (f = g) && p) = v → r = v) := Lib.hid (fun v hv => by rw [← hv, ← HR.out, ← HP.out]; simp only [Res.mk.injEq, Bool.decide_and]; cases decide (l1 = l2) <;> cases decide (x = y) <;> cases decide (f = g) <;> rfl)
  clear ha hb hn hm la _lb
  go_enter Try.func15, Try.ntmps15
  go_upto_region 1 with (fail)
  generalize (w.alloc (.cells #[.slice A n ca, .int .i64 x, .bool f] 27)).alloc (.cells #[.slice B m cb, .int .i64 y, .bool g] 27) = w2 at *
  have a0 := ra.c0
  have a1 := ra.c1
  have a2 := ra.c2
  have b0 := rb.c0
  have b1 := rb.c1
  have b2 := rb.c2
  have HA := Lib.hid ra
  have HB := Lib.hid rb
  clear ra rb
  by_cases hxy : x = y
  · have HXY := Lib.hid hxy
    have e1 : (x == y) = true := by simpa using hxy
    clear hxy
    cases hf : f <;> cases hg : g <;> subst hf <;> subst hg
    all_goals
      go_wp2_with (go_at_call 39; refine HE.out.mono ?_; rintro e w3 ⟨rfl, f3⟩; have A3 := HA.out.fr f3 (by simp); have B3 := HB.out.fr f3 (by simp); have a1 := A3.c1; have a2 := A3.c2; have b1 := B3.c1; have b2 := B3.c2; have G3 := Lib.hid (F0.out.trans f3); clear f3 A3 B3)
      go_ret
      exact ⟨by rw [HPR.out _ rfl]; simp [HXY.out] <;> rfl, by first | exact G3.out | exact F0.out⟩
  · have HXY := Lib.hid hxy
    have e1 : (x == y) = false := by simpa using hxy
    clear hxy
    go_wp2_with (go_at_call 39; refine HE.out.mono ?_; rintro e w3 ⟨rfl, f3⟩; have A3 := HA.out.fr f3 (by simp); have B3 := HB.out.fr f3 (by simp); have a1 := A3.c1; have a2 := A3.c2; have b1 := B3.c1; have b2 := B3.c2; have G3 := Lib.hid (F0.out.trans f3); clear f3 A3 B3)
    go_ret
    exact ⟨by rw [HPR.out false (by simp [HXY.out])]; rfl, F0.out⟩
end Go.Proofs.Ytjiikpmkedkbkaa
namespace Go.Proofs.Ytjiikpmkedkbkaa
open Go.RowKit

/-- near's two blocks. -/
structure NearAt (w wn : World) (v : Value) (x : Int) (f : Bool) : Prop where
  r : R7At wn w.heap.size v x f
  z : R7At wn (w.heap.size + 1) (.slice none 0 0) 0 false
  fr : Fr [] w wn

theorem NearAt.row {w wn : World} {v : Value} {x : Int} {f : Bool} (h : NearAt w wn v x f) (v' : Value) : NearAt w (wn.setCell ⟨w.heap.size, 0, none⟩ v') v' x f :=
  ⟨Blk.set_ h.r 0 v', h.z.fr ((Fr.refl [w.heap.size] wn).setCell (.inl (by simp)) _) (by simp), h.fr.trans' ((Fr.refl [w.heap.size] wn).setCell (.inl (by simp)) _) (fun i hi => .inr (by rw [List.mem_singleton] at hi; omega))⟩
theorem NearAt.val {w wn : World} {v : Value} {x : Int} {f : Bool} (h : NearAt w wn v x f) (x' : Int) : NearAt w (wn.setCell ⟨w.heap.size, 1, none⟩ (.int .i64 x')) v x' f :=
  ⟨Blk.set_ h.r 1 (.int .i64 x'), h.z.fr ((Fr.refl [w.heap.size] wn).setCell (.inl (by simp)) _) (by simp), h.fr.trans' ((Fr.refl [w.heap.size] wn).setCell (.inl (by simp)) _) (fun i hi => .inr (by rw [List.mem_singleton] at hi; omega))⟩

set_option maxRecDepth 100000 in
set_option maxHeartbeats 2000000 in
theorem near_any (A : Option Addr) (n ca : Nat) (x : Int) (f : Bool) (w : World) (hn : n ≤ ca) (hl : n ≤ 9223372036854775807) :
    Calls Try.prog 8 #[.agg #[.slice A n ca, .int .i64 x, .bool f]] w fun e w' => e = .returned (.agg #[.slice A (min n 20) ca, .int .i64 (min (max x (-1000000000000000000)) 1000000000000000000), .bool f]) ∧ Fr [] w w' := by
  have R1 : Hid (NearAt w ((w.alloc (.cells #[.slice A n ca, .int .i64 x, .bool f] 27)).alloc (.cells #[.slice none 0 0, .int .i64 0, .bool false] 27)) (.slice A n ca) x f) := Lib.hid ⟨(R7At.new w (.slice A n ca) x f).fr ((Fr.refl [] _).alloc (.cells #[.slice none 0 0, .int .i64 0, .bool false] 27)) (by simp), by
      have h := R7At.new (w.alloc (.cells #[.slice A n ca, .int .i64 x, .bool f] 27)) (.slice none 0 0) 0 false
      rw [World.size_alloc] at h
      exact h, ((Fr.refl [] w).alloc (.cells #[.slice A n ca, .int .i64 x, .bool f] 27)).alloc (.cells #[.slice none 0 0, .int .i64 0, .bool false] 27)⟩
  obtain ⟨k, HK⟩ : ∃ k : Nat, Hid (k = min n 20) := ⟨_, Lib.hid rfl⟩
  obtain ⟨y, HY⟩ : ∃ y : Int, Hid (y = min (max x (-1000000000000000000)) 1000000000000000000) := ⟨_, Lib.hid rfl⟩
  rw [← HK.out, ← HY.out]
  go_enter Try.func8, Try.ntmps8
  go_upto_region 1 with (fail)
  generalize (w.alloc (.cells #[.slice A n ca, .int .i64 x, .bool f] 27)).alloc (.cells #[.slice none 0 0, .int .i64 0, .bool false] 27) = w2 at *
  have c0 := R1.out.r.c0
  have z0 := R1.out.r.z 0
  go_cut [] (fun wn => Hid (NearAt w wn (.slice A k ca) x f))
  case first =>
    go_wp2_with fail
    all_goals
      go_meet
      have hk := HK.out
      first
        | (obtain rfl : k = 20 := by omega
           exact Lib.hid (R1.out.row _))
        | (obtain rfl : k = n := by omega
           exact Lib.hid (R1.out.row _))
  case rest =>
  have R2 := hcut
  clear hcut R1 c0 z0
  have c1 := R2.out.r.c1
  have z1 := R2.out.r.z 1
  go_upto_region 2 with (fail)
  go_cut [] (fun wn => Hid (NearAt w wn (.slice A k ca) y f))
  case first =>
    go_wp2_with fail
    all_goals
      go_meet
      have hy := HY.out
      first
        | (obtain rfl : y = -1000000000000000000 := by omega
           exact Lib.hid (R2.out.val _))
        | (obtain rfl : y = 1000000000000000000 := by omega
           exact Lib.hid (R2.out.val _))
        | (obtain rfl : y = x := by omega
           exact Lib.hid (R2.out.val _))
  case rest =>
  have R3 := hcut
  clear hcut R2 c1 z1
  have HR : Blk wc w.heap.size 27 #[.slice A k ca, .int .i64 y, .bool f] := R3.out.r
  have HZ : Blk wc (w.heap.size + 1) 27 #[.slice none 0 0, .int .i64 0, .bool false] := R3.out.z
  go_wp2_with (first
    | (refine wpList_load_row rfl _ _ rfl w.heap.size rfl 27 _ (0, 0) _ HR Try.underlying27 rfl (by kernel_rfl) ?_)
    | (refine wpList_store_blk rfl _ _ _ rfl (w.heap.size + 1) #[.slice A k ca, .int .i64 y, .bool f] rfl rfl 27 _ HZ (by kernel_rfl) rfl rfl ?_; intro w9 hb9 hf9; have HB9 := Lib.hid hb9; have HF9 := Lib.hid hf9; clear hb9 hf9))
  have r0 := HB9.out.cell 0
  have r1 := HB9.out.cell 1
  have r2 := HB9.out.cell 2
  refine bodyPost_ret (v := .agg #[.slice A k ca, .int .i64 y, .bool f]) (by simp [results, Try.results8, go_sem, r0, r1, r2]) rfl ⟨rfl, R3.out.fr.trans' HF9.out (fun i hi => .inr (by rw [List.mem_singleton] at hi; omega))⟩
end Go.Proofs.Ytjiikpmkedkbkaa
namespace Go.Proofs.Ytjiikpmkedkbkaa
open Go.RowKit

namespace Sane7
def q : Qry := ⟨5, 0, 1, 10, 19, 2, 0⟩
def qc : Qry := ⟨3, 0, 1, 10, 19, 0, 0⟩
def qr : Qry := ⟨1, 0, 0, 5, 5, 0, 0⟩
def add : Chg := ⟨0, 5, false, 0, 0, 0, true, 12, 3, 0⟩
def far : Chg := ⟨0, 5, false, 0, 0, 0, true, 25, 3, 0⟩
def gone : Chg := ⟨0, 6, true, 12, 7, 0, false, 0, 0, 0⟩
def less : Chg := ⟨0, 6, true, 12, 7, 0, true, 12, 5, 0⟩
def moved : Chg := ⟨0, 6, true, 12, 9, 1, true, 13, 9, 1⟩
theorem one : (Pm.patch q ⟨[], 7, true⟩ add).map (fun r => r.value) = some 3 := by decide
theorem two : (Pm.patch q ⟨[], 7, true⟩ far).map (fun r => r.value) = some 7 := by decide
theorem three : Pm.patch q ⟨[], 7, true⟩ gone = none := by decide
theorem four : (Pm.patch q ⟨[], 7, true⟩ less).map (fun r => r.value) = some 5 := by decide
theorem five : (Pm.apply qc ⟨[], 4, false⟩ [add, gone]).map (fun x => (x.1.value, x.2)) = some (4, true) := by decide
theorem six : (Pm.apply qr ⟨[], 0, false⟩ [add]).map (fun x => (x.1.rows, x.2)) = some ([⟨0, 5, 12, 3, 0⟩], true) := by decide
theorem t1 : Pm.touches q add = true := by decide
theorem t2 : Pm.touches q far = false := by decide
theorem t3 : Pm.touches q gone = true := by decide
theorem t4 : Pm.touches q moved = false := by decide
end Sane7
end Go.Proofs.Ytjiikpmkedkbkaa
