/-
  Package predicate in plain Lean.
-/
import Derived.Test.YtjiikpmkedkbkaaChecked
import Derived.Test.YtjiikpmkedkbkaaFa
import Derived.Outline
import Derived.Handy
import Derived.Deep.RegionHeld3
import Derived.Deep.DrawnRows
import Derived.Deep.QuietTactic
import Derived.BigQuiet
import Derived.Laws.StructEq
import Derived.Test.YtjiikpmkedkbkaaRows
import Derived.ProofKit
import Derived.OpenShut
import Derived.SizedLaws
import Derived.Deep.Slices
import Derived.Deep.Fields
import Derived.Deep.DeepCutAuto
namespace Go.Proofs.Ytjiikpmkedkbkaa
open Go.RowKit

theorem within1_any (x lo hi : Int) (gl gh : Nat) (w : World) (h0 : w.cell? ⟨gl, 0, none⟩ = some (.int .i64 lo)) (h1 : w.cell? ⟨gh, 0, none⟩ = some (.int .i64 hi)) :
    Calls Try.prog 96 #[.int .i64 x, .pointer (some ⟨gl, 0, none⟩), .pointer (some ⟨gh, 0, none⟩)] w fun e w' => e = .returned (.bool (!Rw.inI lo hi x)) ∧ w = w' := by
  go_enter Try.func96, Try.ntmps96
  go_wp2
  all_goals
    go_ret
    refine ⟨?_, rfl⟩
    refine congrArg (fun b => Ending.returned (.bool b)) ?_
    unfold Rw.inI
    rw [Bool.eq_iff_iff]
    simp
    try omega

/-- 'slices.IndexFunc' with the closure of 'within'. -/
theorem indexFunc_any (xs : List Int) (lo hi : Int) (b off cap gl gh : Nat) (w : World) (hl : xs.length ≤ 1000) (hx : ∀ i (h : i < xs.length), w.cell? ⟨b, off + i, none⟩ = some (.int .i64 xs[i]))
    (h0 : w.cell? ⟨gl, 0, none⟩ = some (.int .i64 lo)) (h1 : w.cell? ⟨gh, 0, none⟩ = some (.int .i64 hi)) :
    Calls Try.prog 100 #[.slice (some ⟨b, off, none⟩) xs.length cap, .func (.func 96) #[] #[.pointer (some ⟨gl, 0, none⟩), .pointer (some ⟨gh, 0, none⟩)]] w
      fun e w' => ∃ r : Int, (e = .returned (.int .i64 r) ∧ w = w') ∧ decide (0 ≤ r) = xs.any (fun x => !Rw.inI lo hi x) := by
  go_enter Try.func100, Try.ntmps100
  go_wp2
  go_loop [8] (fun i => ∃ k : Nat, k ≤ xs.length ∧ i = .int .i64 k ∧ (xs.take k).any (fun x => !Rw.inI lo hi x) = false) (fun i => xs.length - (intOf i).toNat)
  case atStart => exact ⟨0, Nat.zero_le _, rfl, rfl⟩
  case round =>
    obtain ⟨k, hk, rfl, hno⟩ := hrel
    have Hno := Lib.hid hno
    clear hno
    by_cases hlt : k < xs.length
    · have hc := hx k hlt
      cases hin : Rw.inI lo hi xs[k]
      · have Hin := Lib.hid hin
        go_wp2_with (go_at_call 96; refine (within1_any _ _ _ _ _ _ h0 h1).mono ?_; rintro e w' ⟨rfl, rfl⟩)
        go_ret
        refine ⟨_, ⟨rfl, rfl⟩, ?_⟩
        symm
        rw [decide_eq_true (by omega), List.any_eq_true]
        exact ⟨xs[k], List.getElem_mem _, by rw [Hin.out]; rfl⟩
      · have Hin := Lib.hid hin
        go_wp2_with (go_at_call 96; refine (within1_any _ _ _ _ _ _ h0 h1).mono ?_; rintro e w' ⟨rfl, rfl⟩)
        go_round
        case rel =>
          refine ⟨k + 1, by omega, by go_num, ?_⟩
          rw [List.take_succ_eq_append_getElem hlt, List.any_append, Hno.out]
          simp [Hin.out]
        case measure => simp [intOf]; omega
    · go_wp2
      go_ret
      refine ⟨_, ⟨rfl, rfl⟩, ?_⟩
      have := Hno.out
      rw [List.take_of_length_le (by omega)] at this
      rw [this]
      rfl

theorem containsFunc_any (xs : List Int) (lo hi : Int) (b off cap gl gh : Nat) (w : World) (hl : xs.length ≤ 1000) (hx : ∀ i (h : i < xs.length), w.cell? ⟨b, off + i, none⟩ = some (.int .i64 xs[i]))
    (h0 : w.cell? ⟨gl, 0, none⟩ = some (.int .i64 lo)) (h1 : w.cell? ⟨gh, 0, none⟩ = some (.int .i64 hi)) :
    Calls Try.prog 95 #[.slice (some ⟨b, off, none⟩) xs.length cap, .func (.func 96) #[] #[.pointer (some ⟨gl, 0, none⟩), .pointer (some ⟨gh, 0, none⟩)]] w
      fun e w' => e = .returned (.bool (xs.any (fun x => !Rw.inI lo hi x))) ∧ w = w' := by
  have hc := Lib.hid hx
  clear hx
  go_enter Try.func95, Try.ntmps95
  go_wp2_with (go_at_call 100; refine (indexFunc_any xs lo hi b off cap gl gh _ hl hc.out h0 h1).mono ?_; rintro e w' ⟨r, ⟨rfl, rfl⟩, hr⟩; have Hr := Lib.hid hr; clear hr)
  go_ret
  exact ⟨by rw [← Hr.out]; rfl, rfl⟩

/-- 'within'. -/
theorem within_any (xs : List Int) (lo hi : Int) (b off cap : Nat) (w : World) (hl : xs.length ≤ 1000) (hb : b < w.heap.size) (hx : ∀ i (h : i < xs.length), w.cell? ⟨b, off + i, none⟩ = some (.int .i64 xs[i])) :
    Calls Try.prog 89 #[.int .i64 lo, .int .i64 hi, .slice (some ⟨b, off, none⟩) xs.length cap] w fun e w' => e = .returned (.bool (xs.all (Rw.inI lo hi))) ∧ Fr [] w w' := by
  have hc := Lib.hid hx
  clear hx
  have hall : (!xs.any fun x => !Rw.inI lo hi x) = xs.all (Rw.inI lo hi) := by
    rw [List.all_eq_not_any_not]
  have Hall := Lib.hid hall
  clear hall
  go_enter Try.func89, Try.ntmps89
  go_wp2_with (go_at_call 95; refine (containsFunc_any xs lo hi b off cap w.heap.size (w.heap.size + 1) _ hl (fun i hi => by rw [World.cell?_alloc_lt _ _ _ (by simp; omega), World.cell?_alloc_lt _ _ _ (by simpa using hb)]; exact hc.out i hi) (by simp [go_sem]) (by simp [go_sem])).mono ?_; rintro e w' ⟨rfl, rfl⟩)
  go_ret
  exact ⟨by rw [Hall.out]; rfl, ((Fr.refl _ _).alloc _).alloc _⟩
/-- 'within' of one number in a block of its own. -/
theorem within_one (x lo hi : Int) (b : Nat) (w : World) (hx : w.cell? ⟨b, 0, none⟩ = some (.int .i64 x)) :
    Calls Try.prog 89 #[.int .i64 lo, .int .i64 hi, .slice (some ⟨b, 0, none⟩) 1 1] w fun e w' => e = .returned (.bool (Rw.inI lo hi x)) ∧ Fr [] w w' :=
  (within_any [x] lo hi b 0 1 w (by simp) (World.block_lt_of_cell? w _ hx) (fun i hi => by
    have : i = 0 := by simpa using hi
    subst this
    exact hx)).mono fun e w' ⟨h, hf⟩ => ⟨by rw [h]; simp, hf⟩
/-- 'within' of three numbers. -/
theorem within_three (x y z lo hi : Int) (b off cap : Nat) (w : World) (hx : w.cell? ⟨b, off, none⟩ = some (.int .i64 x)) (hy : w.cell? ⟨b, off + 1, none⟩ = some (.int .i64 y)) (hz : w.cell? ⟨b, off + 2, none⟩ = some (.int .i64 z)) :
    Calls Try.prog 89 #[.int .i64 lo, .int .i64 hi, .slice (some ⟨b, off, none⟩) 3 cap] w fun e w' => e = .returned (.bool (Rw.inI lo hi x && Rw.inI lo hi y && Rw.inI lo hi z)) ∧ Fr [] w w' :=
  (within_any [x, y, z] lo hi b off cap w (by simp) (World.block_lt_of_cell? w _ hx) (fun i hi => by
    match i, hi with
    | 0, _ => exact hx
    | 1, _ => exact hy
    | 2, _ => exact hz)).mono fun e w' ⟨h, hf⟩ => ⟨by rw [h]; simp [Bool.and_assoc], hf⟩

/-- 'Valid'. -/
theorem rowValid_any (t k x y z : Int) (w : World) : Calls Try.prog 77 #[.agg #[.int .i64 t, .int .i64 k, .int .i64 x, .int .i64 y, .int .i64 z]] w fun e w' => e = .returned (.bool (Rw.row t k x y z)) ∧ Fr [] w w' := by
  have HR : Hid (Rw.row t k x y z = (Rw.inI 0 3 t && Rw.inI 1 1000000 k && (Rw.inI (-1000000000) 1000000000 x && Rw.inI (-1000000000) 1000000000 y && Rw.inI (-1000000000) 1000000000 z))) := Lib.hid rfl
  go_enter Try.func77, Try.ntmps77
  go_wp2_with fail
  refine (within_one t 0 3 (w.heap.size + 1) _ (by simp [go_sem])).mono ?_
  rintro e w1 ⟨rfl, f1⟩
  have F1 : Fr [] w w1 := (((Fr.refl _ _).alloc _).alloc _).trans f1
  have hB := (((Blk.new w 57 #[.int .i64 t, .int .i64 k, .int .i64 x, .int .i64 y, .int .i64 z]).alloc _).fr f1 (by simp))
  clear f1
  cases ht : Rw.inI 0 3 t
  · have Ht := Lib.hid ht
    go_wp2_with fail
    go_ret
    exact ⟨by rw [HR.out, Ht.out]; rfl, F1⟩
  have Ht := Lib.hid ht
  clear ht
  have hc1 := hB.cell 1
  have hlt := hB.lt
  go_wp2_with fail
  refine (within_one k 1 1000000 w1.heap.size _ (by simp [go_sem])).mono ?_
  rintro e w2 ⟨rfl, f2⟩
  have F2 : Fr [] w w2 := F1.trans (((Fr.refl _ _).alloc _).trans f2)
  replace hB := (hB.alloc _).fr f2 (by simp)
  clear hc1 hlt f2 F1
  cases hk : Rw.inI 1 1000000 k
  · have Hk := Lib.hid hk
    go_wp2_with fail
    go_ret
    exact ⟨by rw [HR.out, Ht.out, Hk.out]; rfl, F2⟩
  have Hk := Lib.hid hk
  clear hk
  go_wp2_with fail
  refine (within_three x y z (-1000000000) 1000000000 w.heap.size 2 3 _ (hB.cell 2) (hB.cell 3) (hB.cell 4)).mono ?_
  rintro e w3 ⟨rfl, f3⟩
  have HV : Hid ((Rw.inI (-1000000000) 1000000000 x && Rw.inI (-1000000000) 1000000000 y && Rw.inI (-1000000000) 1000000000 z) = Rw.row t k x y z) := Lib.hid (by rw [HR.out, Ht.out, Hk.out]; rfl)
  rw [HV.out]
  go_wp2_with fail
  go_ret
  exact ⟨rfl, F2.trans f3⟩

/-- A change as a value. -/
abbrev Chg.val (c : Chg) : Value := .agg #[.int .i64 c.t, .int .i64 c.k, .bool c.had, .int .i64 c.o0, .int .i64 c.o1, .int .i64 c.o2, .bool c.has, .int .i64 c.n0, .int .i64 c.n1, .int .i64 c.n2]
abbrev rowVal (t k x y z : Int) : Value := .agg #[.int .i64 t, .int .i64 k, .int .i64 x, .int .i64 y, .int .i64 z]

theorem half_yes (c : Chg) (x y z : Int) (w : World) : Calls Try.prog 76 #[c.val, .bool true, .agg #[.int .i64 x, .int .i64 y, .int .i64 z]] w fun e w' =>
    e = .returned (.tuple #[rowVal c.t c.k x y z, .bool true]) ∧ Fr [] w w' := by
  unfold Chg.val rowVal
  go_enter Try.func76, Try.ntmps76
  go_wp2
  exact bodyPost_ret (v := .tuple #[.agg #[.int .i64 c.t, .int .i64 c.k, .int .i64 x, .int .i64 y, .int .i64 z], .bool true]) (by simp [results, Try.results76, go_sem]) rfl ⟨rfl, (((Fr.refl _ _).alloc _).alloc _).alloc _⟩
theorem half_no (c : Chg) (x y z : Int) (w : World) : Calls Try.prog 76 #[c.val, .bool false, .agg #[.int .i64 x, .int .i64 y, .int .i64 z]] w fun e w' =>
    e = .returned (.tuple #[rowVal 0 0 0 0 0, .bool false]) ∧ Fr [] w w' := by
  unfold Chg.val rowVal
  go_enter Try.func76, Try.ntmps76
  go_wp2
  exact bodyPost_ret (v := .tuple #[.agg #[.int .i64 0, .int .i64 0, .int .i64 0, .int .i64 0, .int .i64 0], .bool false]) (by simp [results, Try.results76, go_sem]) rfl ⟨rfl, (((Fr.refl _ _).alloc _).alloc _).alloc _⟩

/-! ### Arrays of three numbers compared -/
theorem run_isAgg_int (w : World) : (isAgg 3).run Try.prog w = .ok false w := by kernel_rfl
theorem run_sizeOf_int (w : World) : (sizeOf 3).run Try.prog w = .ok 1 w := by kernel_rfl
theorem eqIn_v3 (d : Nat) (x y z a b c : Int) (w : World) : (Op.equalIn (d + 2) 28 (.agg #[.int .i64 x, .int .i64 y, .int .i64 z]) (.agg #[.int .i64 a, .int .i64 b, .int .i64 c])).run Try.prog w = .ok (decide (x = a ∧ y = b ∧ z = c)) w := by
  rw [Op.equalIn]
  simp only [Sem.run_bind, run_underlying Try.underlying28, Result.andThen_ok, run_sizeOf_int]
  simp [Std.Legacy.Range.forIn_eq_forIn_range', List.range', part, Op.equalIn, run_underlying Try.underlying3]
  repeat' split
  all_goals simp_all
theorem eql_v3 (x y z a b c : Int) (w : World) : (binOp .eql 28 (.agg #[.int .i64 x, .int .i64 y, .int .i64 z]) (.agg #[.int .i64 a, .int .i64 b, .int .i64 c])).run Try.prog w = .ok (.bool (decide (x = a ∧ y = b ∧ z = c))) w := by
  rw [run_eql_struct, show (10000 : Nat) = 9998 + 2 from rfl, eqIn_v3]
  rfl
theorem neq_v3 (x y z a b c : Int) (w : World) : (binOp .neq 28 (.agg #[.int .i64 x, .int .i64 y, .int .i64 z]) (.agg #[.int .i64 a, .int .i64 b, .int .i64 c])).run Try.prog w = .ok (.bool (!decide (x = a ∧ y = b ∧ z = c))) w := by
  rw [run_neq_struct, show (10000 : Nat) = 9998 + 2 from rfl, eqIn_v3]
  rfl
theorem eqGuard_v3 (op : BinOp) (x y : Operand) (xs ys : Array Value) (w : World) : (eqGuard op 28 x y (.agg xs) (.agg ys)).run Try.prog w = .ok () w :=
  run_eqGuard_agg w op _ x y xs ys (by kernel_rfl)

/-- 'sound'. -/
theorem sound_any (c : Chg) (there : Bool) (x y z : Int) (w : World) : Calls Try.prog 68 #[c.val, .bool there, .agg #[.int .i64 x, .int .i64 y, .int .i64 z]] w fun e w' =>
    e = .returned (.bool (Rw.sound c.t c.k there x y z)) ∧ Fr [] w w' := by
  cases there
  · have H0 : Hid (Rw.sound c.t c.k false x y z = decide (x = 0 ∧ y = 0 ∧ z = 0)) := Lib.hid rfl
    unfold Chg.val
    go_enter Try.func68, Try.ntmps68
    go_wp2_with fail
    refine (half_no c x y z _).mono ?_
    rintro e w1 ⟨rfl, f1⟩
    have F1 : Fr [] w w1 := (((Fr.refl _ _).alloc _).alloc _).trans f1
    have hB := ((Blk.new (w.alloc (.cells #[.int .i64 c.t, .int .i64 c.k, .bool c.had, .int .i64 c.o0, .int .i64 c.o1, .int .i64 c.o2, .bool c.has, .int .i64 c.n0, .int .i64 c.n1, .int .i64 c.n2] 30)) 28 #[.int .i64 x, .int .i64 y, .int .i64 z]).fr f1 (by simp))
    rw [World.size_alloc] at hB
    have h0 := hB.cell 0
    have h1 := hB.cell 1
    have h2 := hB.cell 2
    have hlt := hB.lt
    clear f1 hB
    have hq := eql_v3 x y z 0 0 0
    have hg := eqGuard_v3
    go_wp2_with fail
    go_ret
    exact ⟨congrArg (fun b => Ending.returned (.bool b)) (by rw [H0.out]; simp [Bool.decide_and]), F1.alloc _⟩
  · have H1 : Hid (Rw.sound c.t c.k true x y z = Rw.row c.t c.k x y z) := Lib.hid rfl
    unfold Chg.val
    go_enter Try.func68, Try.ntmps68
    go_wp2_with fail
    refine (half_yes c x y z _).mono ?_
    rintro e w1 ⟨rfl, f1⟩
    have F1 : Fr [] w w1 := (((Fr.refl _ _).alloc _).alloc _).trans f1
    clear f1
    go_wp2_with fail
    refine (rowValid_any c.t c.k x y z _).mono ?_
    rintro e w2 ⟨rfl, f2⟩
    have F2 : Fr [] w w2 := F1.trans (((Fr.refl _ _).alloc _).trans f2)
    clear f2
    cases hr : Rw.row c.t c.k x y z
    all_goals
      have Hr := Lib.hid hr
      go_wp2_with fail
      go_ret
      exact ⟨by rw [H1.out, Hr.out]; rfl, F2⟩

end Go.Proofs.Ytjiikpmkedkbkaa
namespace Go.Proofs.Ytjiikpmkedkbkaa
open Go.RowKit

/-- 'ValidChange'. -/
theorem validChange_any (c : Chg) (w : World) : Calls Try.prog 38 #[c.val] w fun e w' => e = .returned (.bool (Rw.chg c)) ∧ Fr [] w w' := by
  have HC : Hid (Rw.chg c = (Rw.turns c && Rw.sound c.t c.k c.had c.o0 c.o1 c.o2 && Rw.sound c.t c.k c.has c.n0 c.n1 c.n2)) := Lib.hid rfl
  have HT : Hid (Rw.turns c = (c.had != c.has || c.had && Rw.differs c)) := Lib.hid rfl
  have hq : ∀ w, (binOp .neq 28 (.agg #[.int .i64 c.o0, .int .i64 c.o1, .int .i64 c.o2]) (.agg #[.int .i64 c.n0, .int .i64 c.n1, .int .i64 c.n2])).run Try.prog w = .ok (.bool (Rw.differs c)) w := by
    intro w
    rw [neq_v3]
    unfold Rw.differs
    congr 2
    rw [Bool.eq_iff_iff]
    simp
  have hg := eqGuard_v3
  have Hx1 : Hid (∀ w, Calls Try.prog 68 #[c.val, .bool c.had, .agg #[.int .i64 c.o0, .int .i64 c.o1, .int .i64 c.o2]] w fun e w' => e = .returned (.bool (Rw.sound c.t c.k c.had c.o0 c.o1 c.o2)) ∧ Fr [] w w') := Lib.hid fun w => sound_any c c.had _ _ _ w
  have Hx2 : Hid (∀ w, Calls Try.prog 68 #[c.val, .bool c.has, .agg #[.int .i64 c.n0, .int .i64 c.n1, .int .i64 c.n2]] w fun e w' => e = .returned (.bool (Rw.sound c.t c.k c.has c.n0 c.n1 c.n2)) ∧ Fr [] w w') := Lib.hid fun w => sound_any c c.has _ _ _ w
  obtain ⟨t, k, had, o0, o1, o2, has, n0, n1, n2⟩ := c
  generalize hs1 : Rw.sound t k had o0 o1 o2 = s1 at *
  generalize hs2 : Rw.sound t k has n0 n1 n2 = s2 at *
  generalize hd : Rw.differs ⟨t, k, had, o0, o1, o2, has, n0, n1, n2⟩ = d at *
  clear hs1 hs2 hd
  unfold Chg.val at Hx1 Hx2 ⊢
  dsimp only at Hx1 Hx2 HC HT hq ⊢
  cases ht : (had != has || had && d)
  · rw [ht] at HT
    have HF : Hid (Rw.chg ⟨t, k, had, o0, o1, o2, has, n0, n1, n2⟩ = false) := Lib.hid (by rw [HC.out, HT.out]; rfl)
    cases had <;> cases has <;> cases d <;> (first | cases ht | skip)
    all_goals
      clear Hx1 Hx2 HC HT
      go_enter Try.func38, Try.ntmps38
      go_wp2_with fail
      go_ret
      exact ⟨by rw [HF.out]; rfl, (Fr.refl _ _).alloc _⟩
  · rw [ht] at HT
    have HF : Hid (Rw.chg ⟨t, k, had, o0, o1, o2, has, n0, n1, n2⟩ = (s1 && s2)) := Lib.hid (by rw [HC.out, HT.out]; simp)
    cases had <;> cases has <;> cases d <;> (first | cases ht | skip)
    all_goals
      clear HC HT
      go_enter Try.func38, Try.ntmps38
      go_wp2_with fail
      refine (Hx1.out _).mono ?_
      rintro e w1 ⟨rfl, f1⟩
      have F1 : Fr [] w w1 := ((Fr.refl _ _).alloc _).trans f1
      have hB := (Blk.new w 30 _).fr f1 (by simp)
      clear f1 Hx1
      cases s1
      · go_wp2_with fail
        go_ret
        exact ⟨by rw [HF.out]; rfl, F1⟩
      have c0 := hB.cell 0
      have c1 := hB.cell 1
      have c2 := hB.cell 2
      have c3 := hB.cell 3
      have c4 := hB.cell 4
      have c5 := hB.cell 5
      have c6 := hB.cell 6
      have c7 := hB.cell 7
      have c8 := hB.cell 8
      have c9 := hB.cell 9
      clear hB
      go_wp2_with fail
      refine (Hx2.out _).mono ?_
      rintro e w2 ⟨rfl, f2⟩
      have F2 : Fr [] w w2 := F1.trans f2
      clear f2 Hx2 F1
      cases s2
      all_goals
        go_wp2_with fail
        go_ret
        exact ⟨by rw [HF.out]; rfl, F2⟩
end Go.Proofs.Ytjiikpmkedkbkaa
namespace Go.Proofs.Ytjiikpmkedkbkaa
open Go.RowKit Go.WideShapes Go.ChangeShapes Go.ChangeAt

section
variable {H : Type} {enc : TypeId × Value → H} {P : Program} {w : World} {base : Nat} {spare : Nat → Bool} {held : Bool}
open Go.Deep
theorem open_slice_fields {t e : TypeId} {fs : Array Field} {fuel : Nat} {cs : List Value} {x : DataW H × List MemPlace} (ht : P.underlying t = some (.slice e)) (he : P.underlying e = some (.struct fs))
    (hone : oneCellFields P fs = true) (hC : P.cellsOf e = fs.size) (h : DataW.trod enc P w base spare held fuel t cs = some x) :
    (cs = [.slice none 0 0] ∧ x = (.nil, [])) ∨
    ∃ (a : Addr) (len cap m : Nat) (D : Nat → DataW H) (Pl : Nat → List MemPlace), cs = [.slice (some a) len cap] ∧ base ≤ a.block ∧ len ≤ cap ∧ cap ≤ maxLen ∧ m = (if spare a.block then cap else len) ∧
      x = (.slice ((List.range len).map D) ((List.range (m - len)).map fun j => D (len + j)), MemPlace.row a (m * fs.size) ++ (List.range m).flatMap Pl) ∧
      ∀ i, i < m → ∃ (ys : List (DataW H × List MemPlace)) (n : Nat), D i = .agg (ys.map (·.1)) ∧ Pl i = ys.flatMap (·.2) ∧ ys.length = fs.size ∧
        ∀ (j : Nat) (f : Field), fs[j]? = some f → ∃ (v : Value) (y : DataW H × List MemPlace), w.cell? (a.add (i * fs.size + j)) = some v ∧ ys[j]? = some y ∧ DataW.trod enc P w base spare held n f.type [v] = some y := by
  rcases open_slice ht h with h0 | ⟨a, len, cap, m, n, D, Pl, hcs, hb, hl, hm, hmm, hx, hi⟩
  · exact .inl h0
  · refine .inr ⟨a, len, cap, m, D, Pl, hcs, hb, hl, hm, hmm, by rw [hC] at hx; exact hx, fun i him => ?_⟩
    obtain ⟨cs', hc, ht'⟩ := hi i him
    rw [hC] at hc
    obtain ⟨ys, n', hn', hy, hlen, hyl, hf⟩ := DataW.trod_struct he ht'
    obtain ⟨_, hcl, hat⟩ := World.cells?_some hc
    simp only [Prod.mk.injEq] at hy
    refine ⟨ys, n', hy.1, hy.2, hyl, fun j f hj => ?_⟩
    obtain ⟨ho, hk⟩ := hone_of hone j f hj
    have hjl : j < fs.size := (Array.getElem?_eq_some_iff.1 hj).1
    have hcell := hat j hjl
    have hv : cs'[j]? = some (cs'[j]'(by omega)) := List.getElem?_eq_getElem (by omega)
    have h1 := hf j f hj
    rw [ho, hk] at h1
    have hone' : (cs'.drop j).take 1 = [cs'[j]'(by omega)] := by
      rw [List.drop_eq_getElem_cons (by omega)]
      rfl
    rw [hone'] at h1
    have hys : ys[j]? = some (ys[j]'(by omega)) := List.getElem?_eq_getElem (by omega)
    refine ⟨_, _, ?_, hys, h1.trans hys⟩
    rw [← Go.Deep.add_add, hcell, hv]
end

section
variable {H : Type} {enc : TypeId × Value → H} {P : Program}
theorem post_of_below {f : Func} {s : ChangeSpec} {apart fresh handsOn again : Bool} {W W' : World} {args : Array Value} {v : Value} {ds gs : List (DataW H)} {before pa pv : List MemPlace}
    (hW : DataW.Whole enc P f.params.toList s.vars apart W args.toList ds gs before)
    (hres : ∀ (b : Nat) (sp : Nat → Bool) (hd : Bool), DataW.TrodAll enc P W' b sp hd f.resultTypes.toList (v.resultList f.resultTypes.size) (s.fn H (ds ++ gs)).results [])
    (hargs : ∀ sp : Nat → Bool, (∀ p ∈ before, sp p.block = true) → DataW.TrodAll enc P W' 0 sp true f.params.toList args.toList (s.fn H (ds ++ gs)).args pa)
    (hvars : ∀ sp : Nat → Bool, (∀ p ∈ before, sp p.block = true) → DataW.TrodVars enc P W' sp s.vars (s.fn H (ds ++ gs)).vars pv)
    (hps : before = pa ++ pv) (hb : Below W.heap.size W W')
    (hok : ∀ (j : Nat) (t : TypeId) (r : Value), f.resultTypes[j]? = some t → (v.resultList f.resultTypes.size)[j]? = some r → Value.okWide P W' .any 0 t r) :
    s.post enc P f apart fresh handsOn again W args v W' := by
  have hlt : ∀ p ∈ before, p.block < W.heap.size := fun p hp => hW.lt p hp
  have hold : ∀ p ∈ before, (fun b => decide (b < W.heap.size)) p.block = true := fun p hp => by simpa using hlt p hp
  refine ⟨ds, gs, before, [], pa, pv, hW, hres _ _ _, hargs _ hold, hvars _ hold, World.keptBut_mono (fun p hp => ⟨hp, ?_⟩) (hb.frame (· ∈ before)), fun _ => ?_⟩
  · rw [hps, List.mem_append] at hp
    exact Or.inr hp
  · obtain ⟨_, _, _, _, _, hz, hn⟩ := hW
    refine ⟨hok, _, _, ([] ++ pa) ++ pv, ⟨[] ++ pa, pv, trodAll_append (hargs _ (fun _ _ => rfl)) (hres _ _ _), hvars _ (fun _ _ => rfl), rfl, ?_, ?_⟩, ?_⟩
    · intro b off hp
      have hin : MemPlace.cell b off ∈ before := by rw [hps]; simpa using hp
      rw [hb.frozen (hlt _ hin)]
      exact hz b off hin
    · intro ha
      have := hn ha
      rw [hps] at this
      simpa using this
    · intro p hp _
      rw [hps]
      simpa using hp
end

/-- Arguments read as before. -/
theorem trodAll_below {H : Type} {enc : TypeId × Value → H} {P : Program} (hl : laidOutB P = true) {W W' : World} (hb : Below W.heap.size W W') {sp : Nat → Bool} : ∀ (ts : List TypeId) (vs : List Value) (ds : List (DataW H)) (ps : List MemPlace),
    (∀ t ∈ ts, P.readableRec t = true ∧ t < P.types.size) → DataW.TrodAll enc P W 0 (fun _ => true) true ts vs ds ps → (∀ x ∈ ps, x.block < W.heap.size) → (∀ x ∈ ps, sp x.block = true) → DataW.TrodAll enc P W' 0 sp true ts vs ds ps
  | [], vs, ds, ps, _, h, _, _ => by
    cases vs <;> cases ds <;> simp_all [DataW.TrodAll]
  | t :: ts, vs, ds, ps, ht, h, hlt, hsp => by
    obtain ⟨v, vs', d, ds', p, q, rfl, rfl, rfl, h1, h2⟩ := trodAll_cons h
    exact trodAll_cons_mk (WideElems.Trod_stays hl (ht t (by simp)).1 (ht t (by simp)).2 h1 (fun x hx => hb.same (hlt x (by simp [hx]))) (fun x hx => hsp x (by simp [hx])))
      (trodAll_below hl hb ts vs' ds' q (fun t' h' => ht t' (by simp [h'])) h2 (fun x hx => hlt x (by simp [hx])) (fun x hx => hsp x (by simp [hx])))

theorem trodAll_length {H : Type} {enc : TypeId × Value → H} {P : Program} {W : World} {b : Nat} {sp : Nat → Bool} {hd : Bool} : ∀ (ts : List TypeId) (vs : List Value) (ds : List (DataW H)) (ps : List MemPlace), DataW.TrodAll enc P W b sp hd ts vs ds ps → ds.length = ts.length
  | [], vs, ds, _, h => by cases vs <;> cases ds <;> simp_all [DataW.TrodAll]
  | t :: ts, vs, ds, ps, h => by
    obtain ⟨v, vs', d, ds', p, q, rfl, rfl, rfl, _, h2⟩ := trodAll_cons h
    simp [trodAll_length ts vs' ds' q h2]

set_option maxRecDepth 100000 in
theorem own : ownKnob Try.prog.godebug = none := by kernel_rfl
set_option maxRecDepth 100000 in
theorem laidOut : laidOutB Try.prog = true := by kernel_rfl

/-- What a law's walk owes: from the arguments' readings to 'true', what was there as it was. -/
def LawWalk (f : FuncId) (fn : Func) : Prop := ∀ (H : Type) (enc : TypeId × Value → H) (W : World) (base : Nat) (args : Array Value) (ds : List (DataW H)) (p : List MemPlace),
  (∀ (j : Nat) t v, fn.params[j]? = some t → args[j]? = some v → Value.okWide Try.prog W .any base t v) → DataW.TrodAll enc Try.prog W 0 (fun _ => true) true fn.params.toList args.toList ds p →
  (∀ x ∈ p, x.block < W.heap.size) → (DataW.weightsEach Try.prog fn.params.toList ds).all (· ≤ reachBytes) = true →
  Calls Try.prog f args W fun e W' => e = .returned (.bool true) ∧ Below W.heap.size W W'

set_option maxRecDepth 100000 in
theorem law_lifted {f : FuncId} {fn : Func} {s : ChangeSpec} {conds : List PathCond} (hfn : Try.prog.funcs[f]? = some fn) (noInit : Try.prog.inits.idxOf? f = none) (hvars : s.vars = [])
    (hrt : fn.resultTypes = #[4]) (hts : ∀ t ∈ fn.params.toList, Try.prog.readableRec t = true ∧ t < Try.prog.types.size)
    (hs : ∀ (H : Type) (ds : List (DataW H)), ds.length = fn.params.toList.length → (s.fn H (ds ++ [])).results = [.lit (.bool true)] ∧ (s.fn H (ds ++ [])).args = ds ∧ (s.fn H (ds ++ [])).vars = [])
    (walk : LawWalk f fn) (os : Os) (started : os.Started) (H : Type) (enc : TypeId × Value → H)
    (witness : ∃ (w : World) (tape : Tape) (i : Input), w.os = os ∧ (w.forCall tape i).Shaped Try.prog ∧ i.vars = [] ∧ Input.okWide Try.prog (w.forCall tape i) .any w.heap.size f i ∧
      s.pre6 enc Try.prog fn conds false (w.forCall tape i).memory i.args ∧ ({} : Assume).holds Try.prog (lone (Frame.enter Try.prog f i.args .normal) [] (w.forCall tape i))) :
    ReturnsInHanded {} Try.checked os f .any (s.pre6 enc Try.prog fn conds false) (s.post enc Try.prog fn false true false false) := by
  refine returnsInHanded_of_change_sized (C := Try.checked) own started noInit hfn witness ?_
  intro W base args ds gs before hval hW _ hsz _
  have hW' := hW
  obtain ⟨p, q, hA, hV, rfl, hfz, hnd⟩ := hW
  rw [hvars] at hV
  obtain ⟨rfl, rfl⟩ := trodVars_none hV
  rw [List.append_nil] at hW' hfz hnd
  have hlt : ∀ x ∈ p, x.block < W.heap.size := fun x hx => hW'.lt x hx
  have hvt : s.plain.varTypes Try.prog = [] := by
    simp [DataSpec.varTypes, ChangeSpec.plain, hvars]
  have hsz' : (DataW.weightsEach Try.prog fn.params.toList ds).all (· ≤ reachBytes) = true := by
    have := hsz
    rw [show s.plain.varTypes Try.checked.prog = [] from hvt, List.append_nil, List.append_nil] at this
    exact this
  refine (walk H enc W base args ds p hval hA hlt hsz').mono fun e W' ⟨he, hb⟩ => ?_
  subst he
  have hlen : ds.length = fn.params.toList.length := trodAll_length _ _ _ _ hA
  obtain ⟨s1, s2, s3⟩ := hs H ds hlen
  refine ⟨_, rfl, post_of_below (pa := p) (pv := []) hW' (fun b sp hd => ?_) (fun sp hsp => ?_) (fun sp _ => ?_) (by simp) hb ?_⟩
  · rw [s1, hrt]
    exact trodAll_mk1 (shut_bool Try.underlying4 _)
  · rw [s2]
    exact trodAll_below laidOut hb _ _ _ _ hts hA hlt hsp
  · rw [hvars, s3]; rfl
  · rw [hrt]
    intro j t r hj hr
    match j, hj, hr with
    | 0, hj, hr =>
      simp only [List.getElem?_toArray, List.getElem?_cons_zero, Option.some.injEq] at hj
      subst hj
      have hr' : some (Value.bool true) = some r := hr
      cases hr'
      exact okWide_bool_mk Try.underlying4 true
    | j + 1, hj, _ => simp at hj

/-- A list from what holds at each index. -/
theorem list_of_all {α : Type} {P : Nat → α → Prop} : ∀ (n : Nat), (∀ i, i < n → ∃ x, P i x) → ∃ xs : List α, xs.length = n ∧ ∀ i (h : i < xs.length), P i xs[i]
  | 0, _ => ⟨[], rfl, fun i h => by simp at h⟩
  | n + 1, h => by
    obtain ⟨xs, hl, hx⟩ := list_of_all n (fun i hi => h i (by omega))
    obtain ⟨x, hp⟩ := h n (by omega)
    refine ⟨xs ++ [x], by simp [hl], fun i hi => ?_⟩
    rcases Nat.lt_or_ge i xs.length with h1 | h1
    · rw [List.getElem_append_left h1]; exact hx i h1
    · have e : i = n := by simp at hi; omega
      subst e
      rw [List.getElem_append_right (by omega)]
      simpa using hp
end Go.Proofs.Ytjiikpmkedkbkaa
namespace Go.Proofs.Ytjiikpmkedkbkaa
open Go.RowKit Go.WideShapes Go.ChangeShapes

def okI (x : Int) : Prop := (Lit.int .i64 x).wf = true
theorem okI_mk {x : Int} (h1 : -9223372036854775808 ≤ x) (h2 : x ≤ 9223372036854775807) : okI x := WalkArith.wf_i64 ⟨h1, h2⟩
theorem okI_bounds {x : Int} (h : okI x) : -9223372036854775808 ≤ x ∧ x ≤ 9223372036854775807 := by
  have h1 : IntKind.i64.min ≤ x ∧ x ≤ IntKind.i64.max := by simpa [okI, Lit.wf] using h
  exact h1

/-- The elements of a slice of integers. -/
structure IntsAt (w : World) (b off : Nat) (xs : List Int) : Prop where
  cell : ∀ i (h : i < xs.length), w.cell? ⟨b, off + i, none⟩ = some (.int .i64 xs[i])
  wf : ∀ x ∈ xs, okI x
  lt : 0 < xs.length → b < w.heap.size
theorem IntsAt.fr {w w' : World} {b off : Nat} {xs : List Int} (h : IntsAt w b off xs) (hf : Fr [] w w') : IntsAt w' b off xs :=
  ⟨fun i hi => (hf.rules.1 b _ (h.lt (by omega))).trans (h.cell i hi), h.wf, fun hl => Nat.lt_of_lt_of_le (h.lt hl) hf.size⟩
set_option maxRecDepth 100000 in
theorem intCells : Try.prog.cellsOf 3 = 1 := by kernel_rfl
set_option maxRecDepth 100000 in
theorem open_intsAt {H : Type} {enc : TypeId × Value → H} {W : World} {base : Nat} {v : Value} {d : DataW H} {p : List MemPlace} (hv : Value.okWide Try.prog W .any base 117 v)
    (h : DataW.Trod enc Try.prog W 0 (fun _ => true) true 117 v d p) :
    ∃ A n cap xs, v = .slice A n cap ∧ xs.length = n ∧ n ≤ maxLen ∧ (n = 0 ∨ ∃ b off, A = some ⟨b, off, none⟩ ∧ IntsAt W b off xs) := by
  obtain ⟨a0, len, cap, rfl⟩ := okWide_slice Try.underlying117 hv
  obtain ⟨fuel, hf⟩ := h
  rcases open_ints Try.underlying117 Try.underlying3 intCells hf with ⟨hcs, hx⟩ | ⟨a, len', cap', zs, hcs, _, hl, hm, hz, hx, hcell, hwz⟩
  · simp [Value.cells] at hcs
    obtain ⟨rfl, rfl, rfl⟩ := hcs
    exact ⟨_, _, _, [], rfl, rfl, by simp [maxLen], .inl rfl⟩
  · simp [Value.cells] at hcs
    obtain ⟨rfl, rfl, rfl⟩ := hcs
    simp only [if_true] at hz
    have hlen : (zs.take len).length = len := by rw [List.length_take]; omega
    refine ⟨_, _, _, zs.take len, rfl, hlen, by omega, ?_⟩
    rcases Nat.eq_zero_or_pos len with h0 | h0
    · exact .inl h0
    · right
      obtain ⟨b, off, spot⟩ := a
      have hspot : spot = none := by simpa [Addr.add] using World.cell?_spot (hcell 0 (by omega))
      subst hspot
      have hadd : ∀ j, (⟨b, off, none⟩ : Addr).add j = ⟨b, off + j, none⟩ := fun j => by unfold Addr.add; split <;> simp_all
      refine ⟨b, off, rfl, fun i hi => ?_, fun x hx => hwz x (List.mem_of_mem_take hx), fun _ => World.block_lt_of_cell? W _ (hcell 0 (by omega))⟩
      have := hcell i (by omega)
      rw [hadd] at this
      rw [this, List.getElem_take]
      simp [List.getD_eq_getElem?_getD, List.getElem?_eq_getElem (show i < zs.length by omega)]
end Go.Proofs.Ytjiikpmkedkbkaa
namespace Go.Proofs.Ytjiikpmkedkbkaa

/-- A row. -/
structure RowV where
  t : Int
  k : Int
  x : Int
  y : Int
  z : Int
  deriving DecidableEq
@[reducible] def RowV.val (r : RowV) : Value := .agg #[.int .i64 r.t, .int .i64 r.k, .int .i64 r.x, .int .i64 r.y, .int .i64 r.z]
/-- What identifies a row: integers that fit. -/
abbrev IdK := { x : Int × Int // okI x.1 ∧ okI x.2 }
@[reducible] def IdK.val (x : IdK) : Value := .agg #[.int .i64 x.1.1, .int .i64 x.1.2]

instance (x : Int) : Decidable (okI x) := inferInstanceAs (Decidable ((Lit.int .i64 x).wf = true))
/-- The key that a change is about. -/
def idOf (t k : Int) : IdK := if h : okI t ∧ okI k then ⟨(t, k), h⟩ else ⟨(0, 0), okI_mk (by decide) (by decide), okI_mk (by decide) (by decide)⟩
theorem idOf_val {t k : Int} (h1 : okI t) (h2 : okI k) : (idOf t k).1 = (t, k) := by
  unfold idOf
  rw [dif_pos ⟨h1, h2⟩]

namespace Sm
structure Sta where
  M : List (IdK × RowV)
  pos : Int

def new : Sta := ⟨[], 0⟩
/-- Whether a change meets what is there. -/
def meets (M : List (IdK × RowV)) (c : Chg) : Bool := match mget M (idOf c.t c.k) with
  | some r => c.had && decide (r.x = c.o0 ∧ r.y = c.o1 ∧ r.z = c.o2)
  | none => !c.had
def grow (n : Int) (c : Chg) : Int := (if c.had = true then n - 1 else n) + (if c.has = true then 1 else 0)
def after (c : Chg) : RowV := ⟨c.t, c.k, c.n0, c.n1, c.n2⟩
def put1 (M : List (IdK × RowV)) (c : Chg) : List (IdK × RowV) := if c.has = true then mput M (idOf c.t c.k) (after c) else mdel M (idOf c.t c.k)
/-- The changes' part of 'fits', from a size on. -/
def fitsGo (M : List (IdK × RowV)) (n : Int) : List Chg → Bool
  | [] => decide (n ≤ 2000)
  | c :: cs => meets M c && fitsGo M (grow n c) cs
def fits (s : Sta) (r : Rec) : Bool := Rw.valid r && decide (r.p = s.pos + 1) && fitsGo s.M s.M.length r.cs
def apply (s : Sta) (r : Rec) : Sta := if fits s r = true then ⟨r.cs.foldl put1 s.M, r.p⟩ else s
def code (s : Sta) (r : Rec) : Int := if fits s r = true then 0 else 40
/-- What a state keeps to. -/
structure Ok (s : Sta) : Prop where
  p0 : 0 ≤ s.pos
  p1 : s.pos ≤ 10000
  nd : Nd s.M
  key : ∀ e ∈ s.M, e.1.1 = (e.2.t, e.2.k)
  len : s.M.length ≤ 2000
end Sm
end Go.Proofs.Ytjiikpmkedkbkaa
namespace Go.Proofs.Ytjiikpmkedkbkaa
open Go.RowKit

theorem rfWithin_any (n lo hi : Int) (w : World) : Calls Try.prog 45 #[.int .i64 n, .int .i64 lo, .int .i64 hi] w fun e w' => e = .returned (.bool (Rw.inI lo hi n)) ∧ w = w' := by
  by_cases h : lo ≤ n ∧ n ≤ hi
  · have H : Hid (Rw.inI lo hi n = true) := Lib.hid (by unfold Rw.inI; exact decide_eq_true h)
    obtain ⟨h1, h2⟩ := h
    go_enter Try.func45, Try.ntmps45
    go_wp2
    go_ret
    exact ⟨by rw [H.out]; simp, rfl⟩
  · have H : Hid (Rw.inI lo hi n = false) := Lib.hid (by unfold Rw.inI; exact decide_eq_false h)
    go_enter Try.func45, Try.ntmps45
    go_wp2
    all_goals
      go_ret
      refine ⟨?_, rfl⟩
      rw [H.out]
      refine congrArg (fun b => Ending.returned (.bool b)) ?_
      (first | rfl | (simp; omega))

theorem rfValid_any (t k x y z : Int) (w : World) : Calls Try.prog 46 #[rowVal t k x y z] w fun e w' => e = .returned (.bool (Rw.row t k x y z)) ∧ Fr [] w w' := by
  have HR : Hid (Rw.row t k x y z = (Rw.inI 0 3 t && Rw.inI 1 1000000 k && (Rw.inI (-1000000000) 1000000000 x && Rw.inI (-1000000000) 1000000000 y && Rw.inI (-1000000000) 1000000000 z))) := Lib.hid rfl
  have f0 : Fr [] w (w.alloc (.cells #[.int .i64 t, .int .i64 k, .int .i64 x, .int .i64 y, .int .i64 z] 57)) := (Fr.refl _ _).alloc _
  have C := rfWithin_any
  have HC := Lib.hid C
  clear C
  unfold rowVal
  cases hx : Rw.inI (-1000000000) 1000000000 x <;> cases hy : Rw.inI (-1000000000) 1000000000 y <;> cases hz : Rw.inI (-1000000000) 1000000000 z <;> cases ht : Rw.inI 0 3 t
  all_goals
    have HX := Lib.hid hx
    have HY := Lib.hid hy
    have HZ := Lib.hid hz
    have HT := Lib.hid ht
    clear hx hy hz ht
    go_enter Try.func46, Try.ntmps46
    go_wp2_with fail
    refine wp_loop_rounds 4 ?_
    rw [rounds_succ]
    go_wp2_with (go_at_call 45; refine (HC.out _ _ _ _).mono ?_; rintro e w' ⟨he, rfl⟩; (first | rw [HX.out] at he | rw [HY.out] at he | rw [HZ.out] at he | rw [HT.out] at he | skip); subst he)
    (try (rw [rounds_succ]; go_wp2_with (go_at_call 45; refine (HC.out _ _ _ _).mono ?_; rintro e w' ⟨he, rfl⟩; (first | rw [HX.out] at he | rw [HY.out] at he | rw [HZ.out] at he | rw [HT.out] at he | skip); subst he)))
    (try (rw [rounds_succ]; go_wp2_with (go_at_call 45; refine (HC.out _ _ _ _).mono ?_; rintro e w' ⟨he, rfl⟩; (first | rw [HX.out] at he | rw [HY.out] at he | rw [HZ.out] at he | rw [HT.out] at he | skip); subst he)))
    (try (rw [rounds_succ]; go_wp2_with (go_at_call 45; refine (HC.out _ _ _ _).mono ?_; rintro e w' ⟨he, rfl⟩; (first | rw [HX.out] at he | rw [HY.out] at he | rw [HZ.out] at he | rw [HT.out] at he | skip); subst he)))
    go_ret
    exact ⟨by rw [HR.out, HX.out, HY.out, HZ.out, HT.out]; simp, f0⟩

theorem rfBefore_any (c : Chg) (w : World) : Calls Try.prog 21 #[c.val] w fun e w' => e = .returned (.tuple #[if c.had = true then rowVal c.t c.k c.o0 c.o1 c.o2 else rowVal 0 0 0 0 0, .bool c.had]) ∧ Fr [] w w' := by
  obtain ⟨t, k, had, o0, o1, o2, has, n0, n1, n2⟩ := c
  unfold Chg.val rowVal
  cases had
  all_goals
    go_enter Try.func21, Try.ntmps21
    go_wp2
    first
      | exact bodyPost_ret (v := .tuple #[.agg #[.int .i64 t, .int .i64 k, .int .i64 o0, .int .i64 o1, .int .i64 o2], .bool true]) (by simp [results, Try.results21, go_sem]) rfl ⟨rfl, (((Fr.refl _ _).alloc _).alloc _).alloc _⟩
      | exact bodyPost_ret (v := .tuple #[.agg #[.int .i64 t, .int .i64 k, .int .i64 o0, .int .i64 o1, .int .i64 o2], .bool true]) (by simp [results, Try.results21, go_sem]) rfl ⟨rfl, ((Fr.refl _ _).alloc _).alloc _⟩
      | exact bodyPost_ret (v := .tuple #[.agg #[.int .i64 0, .int .i64 0, .int .i64 0, .int .i64 0, .int .i64 0], .bool false]) (by simp [results, Try.results21, go_sem]) rfl ⟨rfl, (((Fr.refl _ _).alloc _).alloc _).alloc _⟩
      | exact bodyPost_ret (v := .tuple #[.agg #[.int .i64 0, .int .i64 0, .int .i64 0, .int .i64 0, .int .i64 0], .bool false]) (by simp [results, Try.results21, go_sem]) rfl ⟨rfl, ((Fr.refl _ _).alloc _).alloc _⟩
      | fail "x"
theorem rfAfter_any (c : Chg) (w : World) : Calls Try.prog 22 #[c.val] w fun e w' => e = .returned (.tuple #[if c.has = true then rowVal c.t c.k c.n0 c.n1 c.n2 else rowVal 0 0 0 0 0, .bool c.has]) ∧ Fr [] w w' := by
  obtain ⟨t, k, had, o0, o1, o2, has, n0, n1, n2⟩ := c
  unfold Chg.val rowVal
  cases has
  all_goals
    go_enter Try.func22, Try.ntmps22
    go_wp2
    first
      | exact bodyPost_ret (v := .tuple #[.agg #[.int .i64 t, .int .i64 k, .int .i64 n0, .int .i64 n1, .int .i64 n2], .bool true]) (by simp [results, Try.results22, go_sem]) rfl ⟨rfl, (((Fr.refl _ _).alloc _).alloc _).alloc _⟩
      | exact bodyPost_ret (v := .tuple #[.agg #[.int .i64 t, .int .i64 k, .int .i64 n0, .int .i64 n1, .int .i64 n2], .bool true]) (by simp [results, Try.results22, go_sem]) rfl ⟨rfl, ((Fr.refl _ _).alloc _).alloc _⟩
      | exact bodyPost_ret (v := .tuple #[.agg #[.int .i64 0, .int .i64 0, .int .i64 0, .int .i64 0, .int .i64 0], .bool false]) (by simp [results, Try.results22, go_sem]) rfl ⟨rfl, (((Fr.refl _ _).alloc _).alloc _).alloc _⟩
      | exact bodyPost_ret (v := .tuple #[.agg #[.int .i64 0, .int .i64 0, .int .i64 0, .int .i64 0, .int .i64 0], .bool false]) (by simp [results, Try.results22, go_sem]) rfl ⟨rfl, ((Fr.refl _ _).alloc _).alloc _⟩
      | fail "x"
end Go.Proofs.Ytjiikpmkedkbkaa
namespace Go.Proofs.Ytjiikpmkedkbkaa
open Go.RowKit

/-- A row's value in a column. -/
def RowV.value (r : RowV) (c : Int) : Int := if c = 0 then r.k else if c = 1 then r.x else if c = 2 then r.y else if c = 3 then r.z else 0

theorem rfValue_any (r : RowV) (c : Int) (w : World) : Calls Try.prog 23 #[r.val, .int .i64 c] w fun e w' => e = .returned (.int .i64 (r.value c)) ∧ Fr [] w w' := by
  obtain ⟨t, k, x, y, z⟩ := r
  have f0 : Fr [] w (w.alloc (.cells #[.int .i64 t, .int .i64 k, .int .i64 x, .int .i64 y, .int .i64 z] 57)) := (Fr.refl _ _).alloc _
  have HC := Lib.hid rfWithin_any
  unfold RowV.val
  dsimp only
  by_cases h0 : c = 0
  · subst h0
    go_enter Try.func23, Try.ntmps23
    go_wp2
    go_ret
    exact ⟨rfl, f0⟩
  by_cases h1 : c = 1
  · subst h1
    go_enter Try.func23, Try.ntmps23
    go_wp2_with (go_at_call 45; refine (HC.out _ _ _ _).mono ?_; rintro e w' ⟨he, rfl⟩; rw [show Rw.inI 1 3 1 = true from rfl] at he; subst he)
    go_ret
    exact ⟨rfl, f0⟩
  by_cases h2 : c = 2
  · subst h2
    go_enter Try.func23, Try.ntmps23
    go_wp2_with (go_at_call 45; refine (HC.out _ _ _ _).mono ?_; rintro e w' ⟨he, rfl⟩; rw [show Rw.inI 1 3 2 = true from rfl] at he; subst he)
    go_ret
    exact ⟨rfl, f0⟩
  by_cases h3 : c = 3
  · subst h3
    go_enter Try.func23, Try.ntmps23
    go_wp2_with (go_at_call 45; refine (HC.out _ _ _ _).mono ?_; rintro e w' ⟨he, rfl⟩; rw [show Rw.inI 1 3 3 = true from rfl] at he; subst he)
    go_ret
    exact ⟨rfl, f0⟩
  have HV : Hid (RowV.value ⟨t, k, x, y, z⟩ c = 0) := Lib.hid (by simp [RowV.value, h0, h1, h2, h3])
  have HI : Hid (Rw.inI 1 3 c = false) := Lib.hid (by unfold Rw.inI; simp; omega)
  have h0' : (c == 0) = false := by simpa using h0
  go_enter Try.func23, Try.ntmps23
  go_wp2_with (go_at_call 45; refine (HC.out _ _ _ _).mono ?_; rintro e w' ⟨he, rfl⟩; rw [HI.out] at he; subst he)
  go_ret
  exact ⟨by rw [HV.out]; rfl, f0⟩

set_option maxHeartbeats 1000000 in
theorem rfChange_ff (t k o0 o1 o2 n0 n1 n2 : Int) (w : World) : Calls Try.prog 24 #[.agg #[.int .i64 t, .int .i64 k, .bool false, .int .i64 o0, .int .i64 o1, .int .i64 o2, .bool false, .int .i64 n0, .int .i64 n1, .int .i64 n2]] w fun e w' => e = .returned (.bool (Rw.chg ⟨t, k, false, o0, o1, o2, false, n0, n1, n2⟩)) ∧ Fr [] w w' := by
  have HB := Lib.hid (rfBefore_any ⟨t, k, false, o0, o1, o2, false, n0, n1, n2⟩)
  have HA := Lib.hid (rfAfter_any ⟨t, k, false, o0, o1, o2, false, n0, n1, n2⟩)
  have HV := Lib.hid rfValid_any
  have hg := eqGuard_v3
  unfold Chg.val rowVal at *
  simp only [Bool.false_eq_true, if_false] at HB HA
  have HF : Hid (Rw.chg ⟨t, k, false, o0, o1, o2, false, n0, n1, n2⟩ = false) := Lib.hid rfl
  go_enter Try.func24, Try.ntmps24
  go_wp2_with fail
  refine (HB.out _).mono ?_
  rintro e w1 ⟨rfl, f1⟩
  have F1 : Fr [] w w1 := ((Fr.refl _ _).alloc _).trans f1
  have hc := (Blk.new w 30 _).fr f1 (by simp)
  have c0 := hc.cell 0
  have c1 := hc.cell 1
  have c2 := hc.cell 2
  have c3 := hc.cell 3
  have c4 := hc.cell 4
  have c5 := hc.cell 5
  have c6 := hc.cell 6
  have c7 := hc.cell 7
  have c8 := hc.cell 8
  have c9 := hc.cell 9
  have hlt := hc.lt
  clear f1
  go_wp2_with fail
  refine (HA.out _).mono ?_
  rintro e w2 ⟨rfl, f2⟩
  have F2 : Fr [] w w2 := F1.trans (((Fr.refl _ _).alloc _).trans f2)
  have hc2 := (hc.alloc _).fr f2 (by simp)
  have hb2 := (Blk.new w1 57 _).fr f2 (by simp)
  clear c0 c1 c2 c3 c4 c5 c6 c7 c8 c9 hlt hc F1 f2
  have c3 := hc2.cell 3
  have c4 := hc2.cell 4
  have c5 := hc2.cell 5
  have c7 := hc2.cell 7
  have c8 := hc2.cell 8
  have c9 := hc2.cell 9
  have b0 := hb2.cell 0
  have b1 := hb2.cell 1
  have b2 := hb2.cell 2
  have b3 := hb2.cell 3
  have b4 := hb2.cell 4
  have hlt := hc2.lt
  have hlt2 := hb2.lt
  go_wp2_with fail
  go_ret
  exact ⟨by rw [HF.out]; rfl, F2.alloc _⟩
set_option maxHeartbeats 1000000 in
theorem rfChange_tt (t k o0 o1 o2 n0 n1 n2 : Int) (w : World) : Calls Try.prog 24 #[.agg #[.int .i64 t, .int .i64 k, .bool true, .int .i64 o0, .int .i64 o1, .int .i64 o2, .bool true, .int .i64 n0, .int .i64 n1, .int .i64 n2]] w fun e w' => e = .returned (.bool (Rw.chg ⟨t, k, true, o0, o1, o2, true, n0, n1, n2⟩)) ∧ Fr [] w w' := by
  have HB := Lib.hid (rfBefore_any ⟨t, k, true, o0, o1, o2, true, n0, n1, n2⟩)
  have HA := Lib.hid (rfAfter_any ⟨t, k, true, o0, o1, o2, true, n0, n1, n2⟩)
  have HV := Lib.hid rfValid_any
  have hg := eqGuard_v3
  unfold Chg.val rowVal at *
  simp only [if_true] at HB HA
  by_cases hd : o0 = n0 ∧ o1 = n1 ∧ o2 = n2
  · have hq := eql_v3 o0 o1 o2 n0 n1 n2
    rw [decide_eq_true hd] at hq
    have HF : Hid (Rw.chg ⟨t, k, true, o0, o1, o2, true, n0, n1, n2⟩ = false) := Lib.hid (by simp [Rw.chg, Rw.turns, Rw.differs, hd.1, hd.2.1, hd.2.2])
    clear hd
    go_enter Try.func24, Try.ntmps24
    go_wp2_with fail
    refine (HB.out _).mono ?_
    rintro e w1 ⟨rfl, f1⟩
    have F1 : Fr [] w w1 := ((Fr.refl _ _).alloc _).trans f1
    have hc := (Blk.new w 30 _).fr f1 (by simp)
    have c0 := hc.cell 0
    have c1 := hc.cell 1
    have c2 := hc.cell 2
    have c3 := hc.cell 3
    have c4 := hc.cell 4
    have c5 := hc.cell 5
    have c6 := hc.cell 6
    have c7 := hc.cell 7
    have c8 := hc.cell 8
    have c9 := hc.cell 9
    have hlt := hc.lt
    clear f1
    go_wp2_with fail
    refine (HA.out _).mono ?_
    rintro e w2 ⟨rfl, f2⟩
    have F2 : Fr [] w w2 := F1.trans (((Fr.refl _ _).alloc _).trans f2)
    have hc2 := (hc.alloc _).fr f2 (by simp)
    have hb2 := (Blk.new w1 57 _).fr f2 (by simp)
    clear c0 c1 c2 c3 c4 c5 c6 c7 c8 c9 hlt hc F1 f2
    have c3 := hc2.cell 3
    have c4 := hc2.cell 4
    have c5 := hc2.cell 5
    have c7 := hc2.cell 7
    have c8 := hc2.cell 8
    have c9 := hc2.cell 9
    have b0 := hb2.cell 0
    have b1 := hb2.cell 1
    have b2 := hb2.cell 2
    have b3 := hb2.cell 3
    have b4 := hb2.cell 4
    have hlt := hc2.lt
    have hlt2 := hb2.lt
    go_wp2_with fail
    go_ret
    exact ⟨by rw [HF.out]; rfl, F2.alloc _⟩
  · have hq := eql_v3 o0 o1 o2 n0 n1 n2
    rw [decide_eq_false hd] at hq
    have HF : Hid (Rw.chg ⟨t, k, true, o0, o1, o2, true, n0, n1, n2⟩ = (Rw.row t k o0 o1 o2 && Rw.row t k n0 n1 n2)) := Lib.hid (by
      have : Rw.differs ⟨t, k, true, o0, o1, o2, true, n0, n1, n2⟩ = true := by
        unfold Rw.differs
        simp only [decide_eq_true_eq]
        omega
      simp [Rw.chg, Rw.turns, Rw.sound, this])
    clear hd
    generalize hr1 : Rw.row t k o0 o1 o2 = r1 at *
    generalize hr2 : Rw.row t k n0 n1 n2 = r2 at *
    have HR1 := Lib.hid hr1
    have HR2 := Lib.hid hr2
    clear hr1 hr2
    go_enter Try.func24, Try.ntmps24
    go_wp2_with fail
    refine (HB.out _).mono ?_
    rintro e w1 ⟨rfl, f1⟩
    have F1 : Fr [] w w1 := ((Fr.refl _ _).alloc _).trans f1
    have hc := (Blk.new w 30 _).fr f1 (by simp)
    have c0 := hc.cell 0
    have c1 := hc.cell 1
    have c2 := hc.cell 2
    have c3 := hc.cell 3
    have c4 := hc.cell 4
    have c5 := hc.cell 5
    have c6 := hc.cell 6
    have c7 := hc.cell 7
    have c8 := hc.cell 8
    have c9 := hc.cell 9
    have hlt := hc.lt
    clear f1
    go_wp2_with fail
    refine (HA.out _).mono ?_
    rintro e w2 ⟨rfl, f2⟩
    have F2 : Fr [] w w2 := F1.trans (((Fr.refl _ _).alloc _).trans f2)
    have hc2 := (hc.alloc _).fr f2 (by simp)
    have hb2 := (Blk.new w1 57 _).fr f2 (by simp)
    clear c0 c1 c2 c3 c4 c5 c6 c7 c8 c9 hlt hc F1 f2
    have c3 := hc2.cell 3
    have c4 := hc2.cell 4
    have c5 := hc2.cell 5
    have c7 := hc2.cell 7
    have c8 := hc2.cell 8
    have c9 := hc2.cell 9
    have b0 := hb2.cell 0
    have b1 := hb2.cell 1
    have b2 := hb2.cell 2
    have b3 := hb2.cell 3
    have b4 := hb2.cell 4
    have hlt := hc2.lt
    have hlt2 := hb2.lt
    have hn2 := Blk.new w2 57 #[.int .i64 t, .int .i64 k, .int .i64 n0, .int .i64 n1, .int .i64 n2]
    go_wp2_with fail
    refine (HV.out t k o0 o1 o2 _).mono ?_
    rintro e w3 ⟨he, f3⟩
    rw [HR1.out] at he
    subst he
    have F3 := (F2.alloc (.cells #[.int .i64 t, .int .i64 k, .int .i64 n0, .int .i64 n1, .int .i64 n2] 57)).trans f3
    have hn3 := hn2.fr f3 (by simp)
    clear c3 c4 c5 c7 c8 c9 b0 b1 b2 b3 b4 hlt hlt2 f3 F2 hn2
    cases r1
    · go_wp2_with fail
      go_ret
      exact ⟨by rw [HF.out]; rfl, F3⟩
    have d0 := hn3.cell 0
    have d1 := hn3.cell 1
    have d2 := hn3.cell 2
    have d3 := hn3.cell 3
    have d4 := hn3.cell 4
    go_wp2_with fail
    refine (HV.out t k n0 n1 n2 _).mono ?_
    rintro e w4 ⟨he, f4⟩
    rw [HR2.out] at he
    subst he
    have F4 := F3.trans f4
    clear d0 d1 d2 d3 d4 f4 F3
    cases r2
    all_goals
      go_wp2_with fail
      go_ret
      exact ⟨by rw [HF.out]; rfl, F4⟩
set_option maxHeartbeats 1000000 in
theorem rfChange_ft (t k o0 o1 o2 n0 n1 n2 : Int) (w : World) : Calls Try.prog 24 #[.agg #[.int .i64 t, .int .i64 k, .bool false, .int .i64 o0, .int .i64 o1, .int .i64 o2, .bool true, .int .i64 n0, .int .i64 n1, .int .i64 n2]] w fun e w' => e = .returned (.bool (Rw.chg ⟨t, k, false, o0, o1, o2, true, n0, n1, n2⟩)) ∧ Fr [] w w' := by
  have HB := Lib.hid (rfBefore_any ⟨t, k, false, o0, o1, o2, true, n0, n1, n2⟩)
  have HA := Lib.hid (rfAfter_any ⟨t, k, false, o0, o1, o2, true, n0, n1, n2⟩)
  have HV := Lib.hid rfValid_any
  have hg := eqGuard_v3
  unfold Chg.val rowVal at *
  simp only [Bool.false_eq_true, if_false, if_true] at HB HA
  have HF : Hid (Rw.chg ⟨t, k, false, o0, o1, o2, true, n0, n1, n2⟩ = (Rw.row t k n0 n1 n2 && decide (o0 = 0 ∧ o1 = 0 ∧ o2 = 0))) := Lib.hid (by simp [Rw.chg, Rw.turns, Rw.sound, Bool.and_comm])
  have hq := eql_v3 o0 o1 o2 0 0 0
  generalize hdd : decide (o0 = 0 ∧ o1 = 0 ∧ o2 = 0) = d at *
  generalize hr1 : Rw.row t k n0 n1 n2 = r1 at *
  have HR1 := Lib.hid hr1
  clear hr1 hdd
  go_enter Try.func24, Try.ntmps24
  go_wp2_with fail
  refine (HB.out _).mono ?_
  rintro e w1 ⟨rfl, f1⟩
  have F1 : Fr [] w w1 := ((Fr.refl _ _).alloc _).trans f1
  have hc := (Blk.new w 30 _).fr f1 (by simp)
  have c0 := hc.cell 0
  have c1 := hc.cell 1
  have c2 := hc.cell 2
  have c3 := hc.cell 3
  have c4 := hc.cell 4
  have c5 := hc.cell 5
  have c6 := hc.cell 6
  have c7 := hc.cell 7
  have c8 := hc.cell 8
  have c9 := hc.cell 9
  have hlt := hc.lt
  clear f1
  go_wp2_with fail
  refine (HA.out _).mono ?_
  rintro e w2 ⟨rfl, f2⟩
  have F2 : Fr [] w w2 := F1.trans (((Fr.refl _ _).alloc _).trans f2)
  have hc2 := (hc.alloc _).fr f2 (by simp)
  have hb2 := (Blk.new w1 57 _).fr f2 (by simp)
  clear c0 c1 c2 c3 c4 c5 c6 c7 c8 c9 hlt hc F1 f2
  have c3 := hc2.cell 3
  have c4 := hc2.cell 4
  have c5 := hc2.cell 5
  have c7 := hc2.cell 7
  have c8 := hc2.cell 8
  have c9 := hc2.cell 9
  have b0 := hb2.cell 0
  have b1 := hb2.cell 1
  have b2 := hb2.cell 2
  have b3 := hb2.cell 3
  have b4 := hb2.cell 4
  have hlt := hc2.lt
  have hlt2 := hb2.lt
  go_wp2_with fail
  refine (HV.out t k n0 n1 n2 _).mono ?_
  rintro e w3 ⟨he, f3⟩
  rw [HR1.out] at he
  subst he
  have F3 := (F2.alloc (.cells #[.int .i64 t, .int .i64 k, .int .i64 n0, .int .i64 n1, .int .i64 n2] 57)).trans f3
  have hc3 := (hc2.alloc _).fr f3 (by simp)
  clear c3 c4 c5 c7 c8 c9 b0 b1 b2 b3 b4 hlt hlt2 f3 F2 hc2
  cases r1
  · go_wp2_with fail
    go_ret
    exact ⟨by rw [HF.out]; rfl, F3⟩
  have c3 := hc3.cell 3
  have c4 := hc3.cell 4
  have c5 := hc3.cell 5
  have c7 := hc3.cell 7
  have c8 := hc3.cell 8
  have c9 := hc3.cell 9
  cases d
  all_goals
    go_wp2_with fail
    go_ret
    exact ⟨by rw [HF.out]; rfl, F3⟩
set_option maxHeartbeats 1000000 in
theorem rfChange_tf (t k o0 o1 o2 n0 n1 n2 : Int) (w : World) : Calls Try.prog 24 #[.agg #[.int .i64 t, .int .i64 k, .bool true, .int .i64 o0, .int .i64 o1, .int .i64 o2, .bool false, .int .i64 n0, .int .i64 n1, .int .i64 n2]] w fun e w' => e = .returned (.bool (Rw.chg ⟨t, k, true, o0, o1, o2, false, n0, n1, n2⟩)) ∧ Fr [] w w' := by
  have HB := Lib.hid (rfBefore_any ⟨t, k, true, o0, o1, o2, false, n0, n1, n2⟩)
  have HA := Lib.hid (rfAfter_any ⟨t, k, true, o0, o1, o2, false, n0, n1, n2⟩)
  have HV := Lib.hid rfValid_any
  have hg := eqGuard_v3
  unfold Chg.val rowVal at *
  simp only [Bool.false_eq_true, if_false, if_true] at HB HA
  have HF : Hid (Rw.chg ⟨t, k, true, o0, o1, o2, false, n0, n1, n2⟩ = (Rw.row t k o0 o1 o2 && decide (n0 = 0 ∧ n1 = 0 ∧ n2 = 0))) := Lib.hid (by simp [Rw.chg, Rw.turns, Rw.sound])
  have hq := eql_v3 n0 n1 n2 0 0 0
  generalize hdd : decide (n0 = 0 ∧ n1 = 0 ∧ n2 = 0) = d at *
  generalize hr1 : Rw.row t k o0 o1 o2 = r1 at *
  have HR1 := Lib.hid hr1
  clear hr1 hdd
  go_enter Try.func24, Try.ntmps24
  go_wp2_with fail
  refine (HB.out _).mono ?_
  rintro e w1 ⟨rfl, f1⟩
  have F1 : Fr [] w w1 := ((Fr.refl _ _).alloc _).trans f1
  have hc := (Blk.new w 30 _).fr f1 (by simp)
  have c0 := hc.cell 0
  have c1 := hc.cell 1
  have c2 := hc.cell 2
  have c3 := hc.cell 3
  have c4 := hc.cell 4
  have c5 := hc.cell 5
  have c6 := hc.cell 6
  have c7 := hc.cell 7
  have c8 := hc.cell 8
  have c9 := hc.cell 9
  have hlt := hc.lt
  clear f1
  go_wp2_with fail
  refine (HA.out _).mono ?_
  rintro e w2 ⟨rfl, f2⟩
  have F2 : Fr [] w w2 := F1.trans (((Fr.refl _ _).alloc _).trans f2)
  have hc2 := (hc.alloc _).fr f2 (by simp)
  have hb2 := (Blk.new w1 57 _).fr f2 (by simp)
  clear c0 c1 c2 c3 c4 c5 c6 c7 c8 c9 hlt hc F1 f2
  have c3 := hc2.cell 3
  have c4 := hc2.cell 4
  have c5 := hc2.cell 5
  have c7 := hc2.cell 7
  have c8 := hc2.cell 8
  have c9 := hc2.cell 9
  have b0 := hb2.cell 0
  have b1 := hb2.cell 1
  have b2 := hb2.cell 2
  have b3 := hb2.cell 3
  have b4 := hb2.cell 4
  have hlt := hc2.lt
  have hlt2 := hb2.lt
  go_wp2_with fail
  refine (HV.out t k o0 o1 o2 _).mono ?_
  rintro e w3 ⟨he, f3⟩
  rw [HR1.out] at he
  subst he
  have F3 := (F2.alloc (.cells #[.int .i64 0, .int .i64 0, .int .i64 0, .int .i64 0, .int .i64 0] 57)).trans f3
  have hc3 := (hc2.alloc _).fr f3 (by simp)
  clear c3 c4 c5 c7 c8 c9 b0 b1 b2 b3 b4 hlt hlt2 f3 F2 hc2
  cases r1
  · go_wp2_with fail
    go_ret
    exact ⟨by rw [HF.out]; rfl, F3⟩
  have c3 := hc3.cell 3
  have c4 := hc3.cell 4
  have c5 := hc3.cell 5
  have c7 := hc3.cell 7
  have c8 := hc3.cell 8
  have c9 := hc3.cell 9
  cases d
  all_goals
    go_wp2_with fail
    go_ret
    exact ⟨by rw [HF.out]; rfl, F3⟩
/-- 'ValidChange'. -/
theorem rfChange_any (c : Chg) (w : World) : Calls Try.prog 24 #[c.val] w fun e w' => e = .returned (.bool (Rw.chg c)) ∧ Fr [] w w' := by
  obtain ⟨t, k, had, o0, o1, o2, has, n0, n1, n2⟩ := c
  cases had <;> cases has
  · exact rfChange_ff t k o0 o1 o2 n0 n1 n2 w
  · exact rfChange_ft t k o0 o1 o2 n0 n1 n2 w
  · exact rfChange_tf t k o0 o1 o2 n0 n1 n2 w
  · exact rfChange_tt t k o0 o1 o2 n0 n1 n2 w
end Go.Proofs.Ytjiikpmkedkbkaa
namespace Go.Proofs.Ytjiikpmkedkbkaa

/-- A query. -/
structure Qry where
  kind : Int
  table : Int
  column : Int
  low : Int
  high : Int
  by_ : Int
  other : Int
  deriving DecidableEq
@[reducible] def Qry.val (q : Qry) : Value := .agg #[.int .i64 q.kind, .int .i64 q.table, .int .i64 q.column, .int .i64 q.low, .int .i64 q.high, .int .i64 q.by_, .int .i64 q.other]
/-- A result. -/
structure Res where
  rows : List RowV
  value : Int
  found : Bool
  deriving DecidableEq
namespace Em

def within (n a b : Int) : Bool := decide (a ≤ n) && decide (n ≤ b)
def base (q : Qry) : Bool := within q.table 0 3 && (within q.column 0 3 && (within q.low (-1000000000) q.high && decide (q.high ≤ 1000000000)))
def valid (q : Qry) : Bool :=
  if q.kind = 1 then base q && (decide (q.column = 0) && (decide (q.low = q.high) && (within q.low 1 1000000 && (decide (q.by_ = 0) && decide (q.other = 0)))))
  else if q.kind = 7 then base q && (within q.other 0 3 && within q.by_ 1 3)
  else if q.kind = 4 ∨ q.kind = 5 ∨ q.kind = 6 then base q && (within q.by_ 1 3 && decide (q.other = 0))
  else if q.kind = 2 ∨ q.kind = 3 then base q && (decide (q.by_ = 0) && decide (q.other = 0))
  else false
def zero : Res := ⟨[], 0, false⟩
def meas (q : Qry) (l : List RowV) : List Int := l.map (·.value q.by_)
def count (r : Res) (_ : RowV) : Res := ⟨r.rows, r.value + 1, r.found⟩
def plus (r : Res) (n : Int) : Res := ⟨r.rows, r.value + n, r.found⟩
def least (r : Res) (n : Int) : Res := ⟨r.rows, if r.found = false ∨ n < r.value then n else r.value, true⟩
def most (r : Res) (n : Int) : Res := ⟨r.rows, if r.found = false ∨ r.value < n then n else r.value, true⟩
def partner (others : List RowV) (t k : Int) : Option RowV := others.find? (fun x => decide (x.t = t) && decide (x.k = k))
def pair (q : Qry) (others : List RowV) (r : RowV) : List RowV := match partner others q.other (r.value q.by_) with
  | some x => [r, x]
  | none => []
def joined (q : Qry) (rows others : List RowV) : List RowV := rows.flatMap (pair q others)
def res (q : Qry) (rows others : List RowV) : Res :=
  if valid q = true then
    if q.kind = 3 then rows.foldl count zero
    else if q.kind = 4 then (meas q rows).foldl plus zero
    else if q.kind = 5 then (meas q rows).foldl least zero
    else if q.kind = 6 then (meas q rows).foldl most zero
    else if q.kind = 7 then ⟨joined q rows others, 0, false⟩
    else ⟨rows, 0, false⟩
  else zero
end Em
end Go.Proofs.Ytjiikpmkedkbkaa
namespace Go.Proofs.Ytjiikpmkedkbkaa
open Go.RowKit

theorem qwithin_any (n a b : Int) (w : World) : Calls Try.prog 67 #[.int .i64 n, .int .i64 a, .int .i64 b] w fun e w' => e = .returned (.bool (Em.within n a b)) ∧ w = w' := by
  go_enter Try.func67, Try.ntmps67
  by_cases h1 : a ≤ n
  · by_cases h2 : n ≤ b
    · go_wp2
      go_ret
      simp [Em.within, h1, h2]
    · go_wp2
      go_ret
      simp [Em.within, h1, h2]
  · have e : Em.within n a b = false := by simp [Em.within, h1]
    have E := Lib.hid e
    clear e
    go_wp2
    go_ret
    rw [E.out]
    exact ⟨rfl, rfl⟩
/-- A query in memory. -/
def QAt (w : World) (g : Nat) (q : Qry) : Prop := Blk w g 24 #[.int .i64 q.kind, .int .i64 q.table, .int .i64 q.column, .int .i64 q.low, .int .i64 q.high, .int .i64 q.by_, .int .i64 q.other]
theorem QAt.c0 {w : World} {g : Nat} {q : Qry} (h : QAt w g q) : w.cell? ⟨g, 0, none⟩ = some (.int .i64 q.kind) := Blk.cell h 0
theorem QAt.c1 {w : World} {g : Nat} {q : Qry} (h : QAt w g q) : w.cell? ⟨g, 1, none⟩ = some (.int .i64 q.table) := Blk.cell h 1
theorem QAt.c2 {w : World} {g : Nat} {q : Qry} (h : QAt w g q) : w.cell? ⟨g, 2, none⟩ = some (.int .i64 q.column) := Blk.cell h 2
theorem QAt.c3 {w : World} {g : Nat} {q : Qry} (h : QAt w g q) : w.cell? ⟨g, 3, none⟩ = some (.int .i64 q.low) := Blk.cell h 3
theorem QAt.c4 {w : World} {g : Nat} {q : Qry} (h : QAt w g q) : w.cell? ⟨g, 4, none⟩ = some (.int .i64 q.high) := Blk.cell h 4
theorem QAt.c5 {w : World} {g : Nat} {q : Qry} (h : QAt w g q) : w.cell? ⟨g, 5, none⟩ = some (.int .i64 q.by_) := Blk.cell h 5
theorem QAt.c6 {w : World} {g : Nat} {q : Qry} (h : QAt w g q) : w.cell? ⟨g, 6, none⟩ = some (.int .i64 q.other) := Blk.cell h 6
theorem QAt.new (w : World) (q : Qry) : QAt (w.alloc (.cells #[.int .i64 q.kind, .int .i64 q.table, .int .i64 q.column, .int .i64 q.low, .int .i64 q.high, .int .i64 q.by_, .int .i64 q.other] 24)) w.heap.size q := Blk.new _ _ _
theorem QAt.fr {w w' : World} {g : Nat} {q : Qry} {S : List Nat} (h : QAt w g q) (hf : Fr S w w') (hg : g ∉ S) : QAt w' g q := Blk.fr h hf hg
set_option maxRecDepth 100000 in
set_option maxHeartbeats 4000000 in
theorem qvalid_any (q : Qry) (w : World) : Calls Try.prog 37 #[q.val] w fun e w' => e = .returned (.bool (Em.valid q)) ∧ Fr [] w w' := by
  have F0 : Hid (Fr [] w (w.alloc (.cells #[.int .i64 q.kind, .int .i64 q.table, .int .i64 q.column, .int .i64 q.low, .int .i64 q.high, .int .i64 q.by_, .int .i64 q.other] 24))) := Lib.hid ((Fr.refl _ _).alloc _)
  have HB := Lib.hid (QAt.new w q)
  have HW := Lib.hid qwithin_any
  obtain ⟨k, t, c, lo, hi, b, o⟩ := q
  unfold Qry.val
  dsimp only at *
  have c0 := HB.out.c0
  have c1 := HB.out.c1
  have c2 := HB.out.c2
  have c3 := HB.out.c3
  have c4 := HB.out.c4
  have c5 := HB.out.c5
  have c6 := HB.out.c6
  dsimp only at c0 c1 c2 c3 c4 c5 c6
  go_enter Try.func37, Try.ntmps37
  go_upto_region 1 with (fail)
  generalize w.alloc (.cells #[.int .i64 k, .int .i64 t, .int .i64 c, .int .i64 lo, .int .i64 hi, .int .i64 b, .int .i64 o] 24) = w1 at *
  go_cut [3] (fun v wc => w1 = wc ∧ v = .bool (Em.base ⟨k, t, c, lo, hi, b, o⟩))
  case first =>
    cases h1 : Em.within t 0 3
    · have E : Hid (Em.base ⟨k, t, c, lo, hi, b, o⟩ = false) := Lib.hid (by simp [Em.base, h1])
      go_wp2_with (go_at_call 67; refine (HW.out _ _ _ _).mono ?_; rintro e w' ⟨rfl, rfl⟩)
      go_meet
      case rel => exact ⟨rfl, by rw [E.out]⟩
    · cases h2 : Em.within c 0 3
      · have E : Hid (Em.base ⟨k, t, c, lo, hi, b, o⟩ = false) := Lib.hid (by simp [Em.base, h2])
        go_wp2_with (go_at_call 67; refine (HW.out _ _ _ _).mono ?_; rintro e w' ⟨rfl, rfl⟩)
        go_meet
        case rel => exact ⟨rfl, by rw [E.out]⟩
      · cases h3 : Em.within lo (-1000000000) hi
        · have E : Hid (Em.base ⟨k, t, c, lo, hi, b, o⟩ = false) := Lib.hid (by simp [Em.base, h3])
          go_wp2_with (go_at_call 67; refine (HW.out _ _ _ _).mono ?_; rintro e w' ⟨rfl, rfl⟩)
          go_meet
          case rel => exact ⟨rfl, by rw [E.out]⟩
        · have E : Hid (Em.base ⟨k, t, c, lo, hi, b, o⟩ = decide (hi ≤ 1000000000)) := Lib.hid (by simp [Em.base, h1, h2, h3])
          go_wp2_with (go_at_call 67; refine (HW.out _ _ _ _).mono ?_; rintro e w' ⟨rfl, rfl⟩)
          go_meet
          case rel => exact ⟨rfl, by rw [E.out]⟩
  case rest =>
    obtain ⟨rfl, rfl⟩ := hcut
    have z5 := Blk.frozen HB.out 5
    have z6 := Blk.frozen HB.out 6
    by_cases k1 : k = 1
    · subst k1
      cases hbs : Em.base ⟨1, t, c, lo, hi, b, o⟩
      · go_wp2_with (go_at_call 67; refine (HW.out _ _ _ _).mono ?_; rintro e w' ⟨rfl, rfl⟩)
        all_goals
          go_ret
          exact ⟨by simp_all [Em.valid] <;> rfl, F0.out⟩
      · skip
        cases h1 : Em.within lo 1 1000000
        · go_wp2_with (go_at_call 67; refine (HW.out _ _ _ _).mono ?_; rintro e w' ⟨rfl, rfl⟩)
          all_goals
            go_ret
            exact ⟨by simp_all [Em.valid] <;> rfl, F0.out⟩
        · skip
          go_wp2_with (go_at_call 67; refine (HW.out _ _ _ _).mono ?_; rintro e w' ⟨rfl, rfl⟩)
          all_goals
            go_ret
            exact ⟨by simp_all [Em.valid] <;> rfl, F0.out⟩
    · skip
      by_cases k7 : k = 7
      · subst k7
        cases hbs : Em.base ⟨7, t, c, lo, hi, b, o⟩
        · go_wp2_with (go_at_call 67; refine (HW.out _ _ _ _).mono ?_; rintro e w' ⟨rfl, rfl⟩)
          all_goals
            go_ret
            exact ⟨by simp_all [Em.valid] <;> rfl, (F0.out.setCell (.inr (Nat.le_refl _)) _).setCell (.inr (Nat.le_refl _)) _⟩
        · skip
          cases h2 : Em.within o 0 3
          · go_wp2_with (go_at_call 67; refine (HW.out _ _ _ _).mono ?_; rintro e w' ⟨rfl, rfl⟩)
            all_goals
              go_ret
              exact ⟨by simp_all [Em.valid] <;> rfl, (F0.out.setCell (.inr (Nat.le_refl _)) _).setCell (.inr (Nat.le_refl _)) _⟩
          · skip
            cases h3 : Em.within b 1 3
            · go_wp2_with (go_at_call 67; refine (HW.out _ _ _ _).mono ?_; rintro e w' ⟨rfl, rfl⟩)
              all_goals
                go_ret
                exact ⟨by simp_all [Em.valid] <;> rfl, (F0.out.setCell (.inr (Nat.le_refl _)) _).setCell (.inr (Nat.le_refl _)) _⟩
            · skip
              go_wp2_with (go_at_call 67; refine (HW.out _ _ _ _).mono ?_; rintro e w' ⟨rfl, rfl⟩)
              all_goals
                go_ret
                exact ⟨by simp_all [Em.valid] <;> rfl, (F0.out.setCell (.inr (Nat.le_refl _)) _).setCell (.inr (Nat.le_refl _)) _⟩
      · skip
        by_cases k4 : k = 4
        · subst k4
          cases hbs : Em.base ⟨4, t, c, lo, hi, b, o⟩
          · go_wp2_with (go_at_call 67; refine (HW.out _ _ _ _).mono ?_; rintro e w' ⟨rfl, rfl⟩)
            all_goals
              go_ret
              exact ⟨by simp_all [Em.valid] <;> rfl, F0.out.setCell (.inr (Nat.le_refl _)) _⟩
          · skip
            cases h3 : Em.within b 1 3
            · go_wp2_with (go_at_call 67; refine (HW.out _ _ _ _).mono ?_; rintro e w' ⟨rfl, rfl⟩)
              all_goals
                go_ret
                exact ⟨by simp_all [Em.valid] <;> rfl, F0.out.setCell (.inr (Nat.le_refl _)) _⟩
            · skip
              go_wp2_with (go_at_call 67; refine (HW.out _ _ _ _).mono ?_; rintro e w' ⟨rfl, rfl⟩)
              all_goals
                go_ret
                exact ⟨by simp_all [Em.valid] <;> rfl, F0.out.setCell (.inr (Nat.le_refl _)) _⟩
        · skip
          by_cases k5 : k = 5
          · subst k5
            cases hbs : Em.base ⟨5, t, c, lo, hi, b, o⟩
            · go_wp2_with (go_at_call 67; refine (HW.out _ _ _ _).mono ?_; rintro e w' ⟨rfl, rfl⟩)
              all_goals
                go_ret
                exact ⟨by simp_all [Em.valid] <;> rfl, F0.out.setCell (.inr (Nat.le_refl _)) _⟩
            · skip
              cases h3 : Em.within b 1 3
              · go_wp2_with (go_at_call 67; refine (HW.out _ _ _ _).mono ?_; rintro e w' ⟨rfl, rfl⟩)
                all_goals
                  go_ret
                  exact ⟨by simp_all [Em.valid] <;> rfl, F0.out.setCell (.inr (Nat.le_refl _)) _⟩
              · skip
                go_wp2_with (go_at_call 67; refine (HW.out _ _ _ _).mono ?_; rintro e w' ⟨rfl, rfl⟩)
                all_goals
                  go_ret
                  exact ⟨by simp_all [Em.valid] <;> rfl, F0.out.setCell (.inr (Nat.le_refl _)) _⟩
          · skip
            by_cases k6 : k = 6
            · subst k6
              cases hbs : Em.base ⟨6, t, c, lo, hi, b, o⟩
              · go_wp2_with (go_at_call 67; refine (HW.out _ _ _ _).mono ?_; rintro e w' ⟨rfl, rfl⟩)
                all_goals
                  go_ret
                  exact ⟨by simp_all [Em.valid] <;> rfl, F0.out.setCell (.inr (Nat.le_refl _)) _⟩
              · skip
                cases h3 : Em.within b 1 3
                · go_wp2_with (go_at_call 67; refine (HW.out _ _ _ _).mono ?_; rintro e w' ⟨rfl, rfl⟩)
                  all_goals
                    go_ret
                    exact ⟨by simp_all [Em.valid] <;> rfl, F0.out.setCell (.inr (Nat.le_refl _)) _⟩
                · skip
                  go_wp2_with (go_at_call 67; refine (HW.out _ _ _ _).mono ?_; rintro e w' ⟨rfl, rfl⟩)
                  all_goals
                    go_ret
                    exact ⟨by simp_all [Em.valid] <;> rfl, F0.out.setCell (.inr (Nat.le_refl _)) _⟩
            · skip
              by_cases k2 : k = 2
              · subst k2
                cases hbs : Em.base ⟨2, t, c, lo, hi, b, o⟩
                · go_wp2_with (go_at_call 67; refine (HW.out _ _ _ _).mono ?_; rintro e w' ⟨rfl, rfl⟩)
                  all_goals
                    go_ret
                    exact ⟨by simp_all [Em.valid] <;> rfl, F0.out⟩
                · skip
                  go_wp2_with (go_at_call 67; refine (HW.out _ _ _ _).mono ?_; rintro e w' ⟨rfl, rfl⟩)
                  all_goals
                    go_ret
                    exact ⟨by simp_all [Em.valid] <;> rfl, F0.out⟩
              · skip
                by_cases k3 : k = 3
                · subst k3
                  cases hbs : Em.base ⟨3, t, c, lo, hi, b, o⟩
                  · go_wp2_with (go_at_call 67; refine (HW.out _ _ _ _).mono ?_; rintro e w' ⟨rfl, rfl⟩)
                    all_goals
                      go_ret
                      exact ⟨by simp_all [Em.valid] <;> rfl, F0.out⟩
                  · skip
                    go_wp2_with (go_at_call 67; refine (HW.out _ _ _ _).mono ?_; rintro e w' ⟨rfl, rfl⟩)
                    all_goals
                      go_ret
                      exact ⟨by simp_all [Em.valid] <;> rfl, F0.out⟩
                · skip
                  have e1 : (k == 1) = false := by simp [k1]
                  have e2 : (k == 2) = false := by simp [k2]
                  have e3 : (k == 3) = false := by simp [k3]
                  have e4 : (k == 4) = false := by simp [k4]
                  have e5 : (k == 5) = false := by simp [k5]
                  have e6 : (k == 6) = false := by simp [k6]
                  have e7 : (k == 7) = false := by simp [k7]
                  go_wp2_with (go_at_call 67; refine (HW.out _ _ _ _).mono ?_; rintro e w' ⟨rfl, rfl⟩)
                  all_goals
                    go_ret
                    exact ⟨by simp_all [Em.valid] <;> rfl, F0.out⟩
end Go.Proofs.Ytjiikpmkedkbkaa
namespace Go.Proofs.Ytjiikpmkedkbkaa

namespace Pm
/-- The rows before and after a change. -/
def bef (c : Chg) : Option RowV := if c.had = true then some ⟨c.t, c.k, c.o0, c.o1, c.o2⟩ else none
def aft (c : Chg) : Option RowV := if c.has = true then some ⟨c.t, c.k, c.n0, c.n1, c.n2⟩ else none
/-- A row is in the scan of a query. -/
def inq (q : Qry) (r : RowV) : Bool := decide (r.t = q.table) && (decide (q.low ≤ r.value q.column) && decide (r.value q.column ≤ q.high))
def sc (q : Qry) (o : Option RowV) : Option RowV := o.filter (inq q)
def me (q : Qry) : Option RowV → Int
  | some r => r.value q.by_
  | none => 0
def B (q : Qry) (c : Chg) : Option RowV := sc q (bef c)
def A (q : Qry) (c : Chg) : Option RowV := sc q (aft c)
def old (q : Qry) (c : Chg) : Int := me q (B q c)
def now (q : Qry) (c : Chg) : Int := me q (A q c)
def anyE (q : Qry) (c : Chg) : Bool := (B q c).isSome || (A q c).isSome
def oneE (q : Qry) (c : Chg) : Bool := (B q c).isSome != (A q c).isSome
/-- Whether a valid change touches a valid query. -/
def tk (q : Qry) (c : Chg) : Bool :=
  if q.kind = 3 then oneE q c
  else if q.kind = 4 then !decide (old q c = now q c)
  else if q.kind = 5 ∨ q.kind = 6 then oneE q c || !decide (old q c = now q c)
  else if q.kind = 7 then anyE q c || decide (c.t = q.other)
  else anyE q c
def touches (q : Qry) (c : Chg) : Bool := Em.valid q && (Rw.chg c && tk q c)
def behind (q : Qry) (a x : RowV) : Bool := decide (a.value q.column < x.value q.column) || (decide (x.value q.column = a.value q.column) && decide (a.k < x.k))
/-- An element ahead of the first one of which p holds. -/
def ins {X : Type} (p : X → Bool) (x : X) : List X → List X
  | [] => [x]
  | y :: l => if p y = true then x :: y :: l else y :: ins p x l
def own (c : Chg) (x : RowV) : Bool := decide (x.t = c.t) && decide (x.k = c.k)
def rows (q : Qry) (l : List RowV) (c : Chg) : List RowV := match A q c with
  | some a => ins (behind q a) a (l.filter fun x => !own c x)
  | none => l.filter fun x => !own c x
def better (k a b : Int) : Bool := if k = 5 then decide (a < b) else decide (b < a)
def ext (q : Qry) (r : Res) (c : Chg) : Option Res :=
  if ((B q c).isSome && (!r.found || !better q.kind r.value (old q c))) = true then
    (if ((A q c).isSome && (r.found && !better q.kind r.value (now q c))) = true then some ⟨r.rows, now q c, r.found⟩ else none)
  else if (A q c).isSome = true then some ⟨r.rows, if (!r.found || better q.kind (now q c) r.value) = true then now q c else r.value, true⟩
  else some r
def pairs : List RowV → List (RowV × RowV)
  | x :: y :: l => (x, y) :: pairs l
  | _ => []
def flat (l : List (RowV × RowV)) : List RowV := l.flatMap fun p => [p.1, p.2]
/-- The pairs after a change of the other table. -/
def other (l : List (RowV × RowV)) (c : Chg) : List (RowV × RowV) := match aft c with
  | none => l.filter fun p => !decide (p.2.k = c.k)
  | some y => l.map fun p => if p.2.k = c.k then (p.1, y) else p
def rest (l : List (RowV × RowV)) (c : Chg) : List (RowV × RowV) := l.filter fun p => !decide (p.1.k = c.k)
def left (q : Qry) (l : List (RowV × RowV)) (c : Chg) : Option (List (RowV × RowV)) := match A q c with
  | none => some (rest l c)
  | some a => match l.find? (fun p => decide (p.2.k = now q c)) with
    | none => if ((B q c).isSome && decide (old q c = now q c)) = true then some (rest l c) else none
    | some p => some (ins (fun x => behind q a x.1) (a, p.2) (rest l c))
def join (q : Qry) (l : List (RowV × RowV)) (c : Chg) : Option (List (RowV × RowV)) :=
  if c.t = q.other then (if c.had = true then some (other l c) else none) else left q l c
/-- A result that is touched. -/
def pk (q : Qry) (r : Res) (c : Chg) : Option Res :=
  if q.kind = 3 then some ⟨r.rows, if (A q c).isSome = true then r.value + 1 else r.value - 1, r.found⟩
  else if q.kind = 4 then some ⟨r.rows, r.value + (now q c - old q c), r.found⟩
  else if q.kind = 5 ∨ q.kind = 6 then ext q r c
  else if q.kind = 7 then (if q.table = q.other then none else (join q (pairs r.rows) c).map fun l => ⟨flat l, r.value, r.found⟩)
  else some ⟨rows q r.rows c, r.value, r.found⟩
def patch (q : Qry) (r : Res) (c : Chg) : Option Res := if touches q c = true then pk q r c else some r
/-- A record's changes, one after the other; whether one of them touched the query. -/
def go (q : Qry) : List Chg → Res → Bool → Option (Res × Bool)
  | [], r, t => some (r, t)
  | c :: cs, r, t => match patch q r c with
    | none => none
    | some r' => go q cs r' (t || touches q c)
def apply (q : Qry) (r : Res) (cs : List Chg) : Option (Res × Bool) := go q cs r false
end Pm
end Go.Proofs.Ytjiikpmkedkbkaa
