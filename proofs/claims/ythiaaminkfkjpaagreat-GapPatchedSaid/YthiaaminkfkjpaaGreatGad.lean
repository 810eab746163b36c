/-
  Contracts of package row: within, Valid, half, sound, ValidChange.
-/
import Derived.Test.YthiaaminkfkjpaaGreatChecked
import Derived.Test.YthiaaminkfkjpaaGreatGac
import Derived.Test.YthiaaminkfkjpaaGreatGab
import Derived.Outline
import Derived.Handy
import Derived.Deep.RegionHeld3
import Derived.Deep.DrawnRows
import Derived.Deep.QuietTactic
import Derived.BigQuiet
import Derived.Laws.StructEq
namespace Go.Proofs.YthiaaminkfkjpaaGreat
open Go.RowKit

theorem within1_any (x lo hi : Int) (gl gh : Nat) (w : World) (h0 : w.cell? ⟨gl, 0, none⟩ = some (.int .i64 lo)) (h1 : w.cell? ⟨gh, 0, none⟩ = some (.int .i64 hi)) :
    Calls Tryz.prog 73 #[.int .i64 x, .pointer (some ⟨gl, 0, none⟩), .pointer (some ⟨gh, 0, none⟩)] w fun e w' => e = .returned (.bool (!Rw.inI lo hi x)) ∧ w = w' := by
  go_enter Tryz.func73, Tryz.ntmps73
  go_wp2
  all_goals
    go_ret
    refine ⟨?_, rfl⟩
    refine congrArg (fun b => Ending.returned (.bool b)) ?_
    unfold Rw.inI
    rw [Bool.eq_iff_iff]
    simp
    try omega

/-- 'slices.IndexFunc' with the closure of 'within'. -/
theorem indexFunc_any (xs : List Int) (lo hi : Int) (b off cap gl gh : Nat) (w : World) (hl : xs.length ≤ 1000) (hx : ∀ i (h : i < xs.length), w.cell? ⟨b, off + i, none⟩ = some (.int .i64 xs[i]))
    (h0 : w.cell? ⟨gl, 0, none⟩ = some (.int .i64 lo)) (h1 : w.cell? ⟨gh, 0, none⟩ = some (.int .i64 hi)) :
    Calls Tryz.prog 95 #[.slice (some ⟨b, off, none⟩) xs.length cap, .func (.func 73) #[] #[.pointer (some ⟨gl, 0, none⟩), .pointer (some ⟨gh, 0, none⟩)]] w
      fun e w' => ∃ r : Int, (e = .returned (.int .i64 r) ∧ w = w') ∧ decide (0 ≤ r) = xs.any (fun x => !Rw.inI lo hi x) := by
  go_enter Tryz.func95, Tryz.ntmps95
  go_wp2
  go_loop [8] (fun i => ∃ k : Nat, k ≤ xs.length ∧ i = .int .i64 k ∧ (xs.take k).any (fun x => !Rw.inI lo hi x) = false) (fun i => xs.length - (intOf i).toNat)
  case atStart => exact ⟨0, Nat.zero_le _, rfl, rfl⟩
  case round =>
    obtain ⟨k, hk, rfl, hno⟩ := hrel
    have Hno := Lib.hid hno
    clear hno
    by_cases hlt : k < xs.length
    · have hc := hx k hlt
      cases hin : Rw.inI lo hi xs[k]
      · have Hin := Lib.hid hin
        go_wp2_with (go_at_call 73; refine (within1_any _ _ _ _ _ _ h0 h1).mono ?_; rintro e w' ⟨rfl, rfl⟩)
        go_ret
        refine ⟨_, ⟨rfl, rfl⟩, ?_⟩
        symm
        rw [decide_eq_true (by omega), List.any_eq_true]
        exact ⟨xs[k], List.getElem_mem _, by rw [Hin.out]; rfl⟩
      · have Hin := Lib.hid hin
        go_wp2_with (go_at_call 73; refine (within1_any _ _ _ _ _ _ h0 h1).mono ?_; rintro e w' ⟨rfl, rfl⟩)
        go_round
        case rel =>
          refine ⟨k + 1, by omega, by go_num, ?_⟩
          rw [List.take_succ_eq_append_getElem hlt, List.any_append, Hno.out]
          simp [Hin.out]
        case measure => simp [intOf]; omega
    · go_wp2
      go_ret
      refine ⟨_, ⟨rfl, rfl⟩, ?_⟩
      have := Hno.out
      rw [List.take_of_length_le (by omega)] at this
      rw [this]
      rfl

theorem containsFunc_any (xs : List Int) (lo hi : Int) (b off cap gl gh : Nat) (w : World) (hl : xs.length ≤ 1000) (hx : ∀ i (h : i < xs.length), w.cell? ⟨b, off + i, none⟩ = some (.int .i64 xs[i]))
    (h0 : w.cell? ⟨gl, 0, none⟩ = some (.int .i64 lo)) (h1 : w.cell? ⟨gh, 0, none⟩ = some (.int .i64 hi)) :
    Calls Tryz.prog 72 #[.slice (some ⟨b, off, none⟩) xs.length cap, .func (.func 73) #[] #[.pointer (some ⟨gl, 0, none⟩), .pointer (some ⟨gh, 0, none⟩)]] w
      fun e w' => e = .returned (.bool (xs.any (fun x => !Rw.inI lo hi x))) ∧ w = w' := by
  have hc := Lib.hid hx
  clear hx
  go_enter Tryz.func72, Tryz.ntmps72
  go_wp2_with (go_at_call 95; refine (indexFunc_any xs lo hi b off cap gl gh _ hl hc.out h0 h1).mono ?_; rintro e w' ⟨r, ⟨rfl, rfl⟩, hr⟩; have Hr := Lib.hid hr; clear hr)
  go_ret
  exact ⟨by rw [← Hr.out]; rfl, rfl⟩

/-- 'within'. -/
theorem within_any (xs : List Int) (lo hi : Int) (b off cap : Nat) (w : World) (hl : xs.length ≤ 1000) (hb : b < w.heap.size) (hx : ∀ i (h : i < xs.length), w.cell? ⟨b, off + i, none⟩ = some (.int .i64 xs[i])) :
    Calls Tryz.prog 59 #[.int .i64 lo, .int .i64 hi, .slice (some ⟨b, off, none⟩) xs.length cap] w fun e w' => e = .returned (.bool (xs.all (Rw.inI lo hi))) ∧ Fr [] w w' := by
  have hc := Lib.hid hx
  clear hx
  have hall : (!xs.any fun x => !Rw.inI lo hi x) = xs.all (Rw.inI lo hi) := by
    rw [List.all_eq_not_any_not]
  have Hall := Lib.hid hall
  clear hall
  go_enter Tryz.func59, Tryz.ntmps59
  go_wp2_with (go_at_call 72; refine (containsFunc_any xs lo hi b off cap w.heap.size (w.heap.size + 1) _ hl (fun i hi => by rw [World.cell?_alloc_lt _ _ _ (by simp; omega), World.cell?_alloc_lt _ _ _ (by simpa using hb)]; exact hc.out i hi) (by simp [go_sem]) (by simp [go_sem])).mono ?_; rintro e w' ⟨rfl, rfl⟩)
  go_ret
  exact ⟨by rw [Hall.out]; rfl, ((Fr.refl _ _).alloc _).alloc _⟩
/-- 'within' of one number in a block of its own. -/
theorem within_one (x lo hi : Int) (b : Nat) (w : World) (hx : w.cell? ⟨b, 0, none⟩ = some (.int .i64 x)) :
    Calls Tryz.prog 59 #[.int .i64 lo, .int .i64 hi, .slice (some ⟨b, 0, none⟩) 1 1] w fun e w' => e = .returned (.bool (Rw.inI lo hi x)) ∧ Fr [] w w' :=
  (within_any [x] lo hi b 0 1 w (by simp) (World.block_lt_of_cell? w _ hx) (fun i hi => by
    have : i = 0 := by simpa using hi
    subst this
    exact hx)).mono fun e w' ⟨h, hf⟩ => ⟨by rw [h]; simp, hf⟩
/-- 'within' of three numbers. -/
theorem within_three (x y z lo hi : Int) (b off cap : Nat) (w : World) (hx : w.cell? ⟨b, off, none⟩ = some (.int .i64 x)) (hy : w.cell? ⟨b, off + 1, none⟩ = some (.int .i64 y)) (hz : w.cell? ⟨b, off + 2, none⟩ = some (.int .i64 z)) :
    Calls Tryz.prog 59 #[.int .i64 lo, .int .i64 hi, .slice (some ⟨b, off, none⟩) 3 cap] w fun e w' => e = .returned (.bool (Rw.inI lo hi x && Rw.inI lo hi y && Rw.inI lo hi z)) ∧ Fr [] w w' :=
  (within_any [x, y, z] lo hi b off cap w (by simp) (World.block_lt_of_cell? w _ hx) (fun i hi => by
    match i, hi with
    | 0, _ => exact hx
    | 1, _ => exact hy
    | 2, _ => exact hz)).mono fun e w' ⟨h, hf⟩ => ⟨by rw [h]; simp [Bool.and_assoc], hf⟩

/-- 'Valid'. -/
theorem rowValid_any (t k x y z : Int) (w : World) : Calls Tryz.prog 96 #[.agg #[.int .i64 t, .int .i64 k, .int .i64 x, .int .i64 y, .int .i64 z]] w fun e w' => e = .returned (.bool (Rw.row t k x y z)) ∧ Fr [] w w' := by
  have HR : Hid (Rw.row t k x y z = (Rw.inI 0 3 t && Rw.inI 1 1000000 k && (Rw.inI (-1000000000) 1000000000 x && Rw.inI (-1000000000) 1000000000 y && Rw.inI (-1000000000) 1000000000 z))) := Lib.hid rfl
  go_enter Tryz.func96, Tryz.ntmps96
  go_wp2_with fail
  refine (within_one t 0 3 (w.heap.size + 1) _ (by simp [go_sem])).mono ?_
  rintro e w1 ⟨rfl, f1⟩
  have F1 : Fr [] w w1 := (((Fr.refl _ _).alloc _).alloc _).trans f1
  have hB := (((Blk.new w 67 #[.int .i64 t, .int .i64 k, .int .i64 x, .int .i64 y, .int .i64 z]).alloc _).fr f1 (by simp))
  clear f1
  cases ht : Rw.inI 0 3 t
  · have Ht := Lib.hid ht
    go_wp2_with fail
    go_ret
    exact ⟨by rw [HR.out, Ht.out]; rfl, F1⟩
  have Ht := Lib.hid ht
  clear ht
  have hc1 := hB.cell 1
  have hlt := hB.lt
  go_wp2_with fail
  refine (within_one k 1 1000000 w1.heap.size _ (by simp [go_sem])).mono ?_
  rintro e w2 ⟨rfl, f2⟩
  have F2 : Fr [] w w2 := F1.trans (((Fr.refl _ _).alloc _).trans f2)
  replace hB := (hB.alloc _).fr f2 (by simp)
  clear hc1 hlt f2 F1
  cases hk : Rw.inI 1 1000000 k
  · have Hk := Lib.hid hk
    go_wp2_with fail
    go_ret
    exact ⟨by rw [HR.out, Ht.out, Hk.out]; rfl, F2⟩
  have Hk := Lib.hid hk
  clear hk
  go_wp2_with fail
  refine (within_three x y z (-1000000000) 1000000000 w.heap.size 2 3 _ (hB.cell 2) (hB.cell 3) (hB.cell 4)).mono ?_
  rintro e w3 ⟨rfl, f3⟩
  have HV : Hid ((Rw.inI (-1000000000) 1000000000 x && Rw.inI (-1000000000) 1000000000 y && Rw.inI (-1000000000) 1000000000 z) = Rw.row t k x y z) := Lib.hid (by rw [HR.out, Ht.out, Hk.out]; rfl)
  rw [HV.out]
  go_wp2_with fail
  go_ret
  exact ⟨rfl, F2.trans f3⟩

/-- A change as a value. -/
abbrev Chg.val (c : Chg) : Value := .agg #[.int .i64 c.t, .int .i64 c.k, .bool c.had, .int .i64 c.o0, .int .i64 c.o1, .int .i64 c.o2, .bool c.has, .int .i64 c.n0, .int .i64 c.n1, .int .i64 c.n2]
abbrev rowVal (t k x y z : Int) : Value := .agg #[.int .i64 t, .int .i64 k, .int .i64 x, .int .i64 y, .int .i64 z]

theorem half_yes (c : Chg) (x y z : Int) (w : World) : Calls Tryz.prog 64 #[c.val, .bool true, .agg #[.int .i64 x, .int .i64 y, .int .i64 z]] w fun e w' =>
    e = .returned (.tuple #[rowVal c.t c.k x y z, .bool true]) ∧ Fr [] w w' := by
  unfold Chg.val rowVal
  go_enter Tryz.func64, Tryz.ntmps64
  go_wp2
  exact bodyPost_ret (v := .tuple #[.agg #[.int .i64 c.t, .int .i64 c.k, .int .i64 x, .int .i64 y, .int .i64 z], .bool true]) (by simp [results, Tryz.results64, go_sem]) rfl ⟨rfl, (((Fr.refl _ _).alloc _).alloc _).alloc _⟩
theorem half_no (c : Chg) (x y z : Int) (w : World) : Calls Tryz.prog 64 #[c.val, .bool false, .agg #[.int .i64 x, .int .i64 y, .int .i64 z]] w fun e w' =>
    e = .returned (.tuple #[rowVal 0 0 0 0 0, .bool false]) ∧ Fr [] w w' := by
  unfold Chg.val rowVal
  go_enter Tryz.func64, Tryz.ntmps64
  go_wp2
  exact bodyPost_ret (v := .tuple #[.agg #[.int .i64 0, .int .i64 0, .int .i64 0, .int .i64 0, .int .i64 0], .bool false]) (by simp [results, Tryz.results64, go_sem]) rfl ⟨rfl, (((Fr.refl _ _).alloc _).alloc _).alloc _⟩

/-! ### Arrays of three numbers compared -/
theorem run_isAgg_int (w : World) : (isAgg 3).run Tryz.prog w = .ok false w := by kernel_rfl
theorem run_sizeOf_int (w : World) : (sizeOf 3).run Tryz.prog w = .ok 1 w := by kernel_rfl
theorem eqIn_v3 (d : Nat) (x y z a b c : Int) (w : World) : (Op.equalIn (d + 2) 63 (.agg #[.int .i64 x, .int .i64 y, .int .i64 z]) (.agg #[.int .i64 a, .int .i64 b, .int .i64 c])).run Tryz.prog w = .ok (decide (x = a ∧ y = b ∧ z = c)) w := by
  rw [Op.equalIn]
  simp only [Sem.run_bind, run_underlying Tryz.underlying63, Result.andThen_ok, run_sizeOf_int]
  simp [Std.Legacy.Range.forIn_eq_forIn_range', List.range', part, Op.equalIn, run_underlying Tryz.underlying3]
  repeat' split
  all_goals simp_all
theorem eql_v3 (x y z a b c : Int) (w : World) : (binOp .eql 63 (.agg #[.int .i64 x, .int .i64 y, .int .i64 z]) (.agg #[.int .i64 a, .int .i64 b, .int .i64 c])).run Tryz.prog w = .ok (.bool (decide (x = a ∧ y = b ∧ z = c))) w := by
  rw [run_eql_struct, show (10000 : Nat) = 9998 + 2 from rfl, eqIn_v3]
  rfl
theorem neq_v3 (x y z a b c : Int) (w : World) : (binOp .neq 63 (.agg #[.int .i64 x, .int .i64 y, .int .i64 z]) (.agg #[.int .i64 a, .int .i64 b, .int .i64 c])).run Tryz.prog w = .ok (.bool (!decide (x = a ∧ y = b ∧ z = c))) w := by
  rw [run_neq_struct, show (10000 : Nat) = 9998 + 2 from rfl, eqIn_v3]
  rfl
theorem eqGuard_v3 (op : BinOp) (x y : Operand) (xs ys : Array Value) (w : World) : (eqGuard op 63 x y (.agg xs) (.agg ys)).run Tryz.prog w = .ok () w :=
  run_eqGuard_agg w op _ x y xs ys (by kernel_rfl)

/-- 'sound'. -/
theorem sound_any (c : Chg) (there : Bool) (x y z : Int) (w : World) : Calls Tryz.prog 74 #[c.val, .bool there, .agg #[.int .i64 x, .int .i64 y, .int .i64 z]] w fun e w' =>
    e = .returned (.bool (Rw.sound c.t c.k there x y z)) ∧ Fr [] w w' := by
  cases there
  · have H0 : Hid (Rw.sound c.t c.k false x y z = decide (x = 0 ∧ y = 0 ∧ z = 0)) := Lib.hid rfl
    unfold Chg.val
    go_enter Tryz.func74, Tryz.ntmps74
    go_wp2_with fail
    refine (half_no c x y z _).mono ?_
    rintro e w1 ⟨rfl, f1⟩
    have F1 : Fr [] w w1 := (((Fr.refl _ _).alloc _).alloc _).trans f1
    have hB := ((Blk.new (w.alloc (.cells #[.int .i64 c.t, .int .i64 c.k, .bool c.had, .int .i64 c.o0, .int .i64 c.o1, .int .i64 c.o2, .bool c.has, .int .i64 c.n0, .int .i64 c.n1, .int .i64 c.n2] 65)) 63 #[.int .i64 x, .int .i64 y, .int .i64 z]).fr f1 (by simp))
    rw [World.size_alloc] at hB
    have h0 := hB.cell 0
    have h1 := hB.cell 1
    have h2 := hB.cell 2
    have hlt := hB.lt
    clear f1 hB
    have hq := eql_v3 x y z 0 0 0
    have hg := eqGuard_v3
    go_wp2_with fail
    go_ret
    exact ⟨congrArg (fun b => Ending.returned (.bool b)) (by rw [H0.out]; simp [Bool.decide_and]), F1.alloc _⟩
  · have H1 : Hid (Rw.sound c.t c.k true x y z = Rw.row c.t c.k x y z) := Lib.hid rfl
    unfold Chg.val
    go_enter Tryz.func74, Tryz.ntmps74
    go_wp2_with fail
    refine (half_yes c x y z _).mono ?_
    rintro e w1 ⟨rfl, f1⟩
    have F1 : Fr [] w w1 := (((Fr.refl _ _).alloc _).alloc _).trans f1
    clear f1
    go_wp2_with fail
    refine (rowValid_any c.t c.k x y z _).mono ?_
    rintro e w2 ⟨rfl, f2⟩
    have F2 : Fr [] w w2 := F1.trans (((Fr.refl _ _).alloc _).trans f2)
    clear f2
    cases hr : Rw.row c.t c.k x y z
    all_goals
      have Hr := Lib.hid hr
      go_wp2_with fail
      go_ret
      exact ⟨by rw [H1.out, Hr.out]; rfl, F2⟩

end Go.Proofs.YthiaaminkfkjpaaGreat
