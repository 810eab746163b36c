/-
  A REGION THAT DRAWS ITS ORDER, its head run in worlds of which S holds (loads are taken first, calls come as they come), its tail, which waits for the head, walked as it stands: S need not hold behind the tail's stores.
-/
import Derived.Test.YthiaaminkfkjpaaChecked
import Derived.Test.YthiaaminkfkjpaaEac
import Derived.Test.YthiaaminkfkjpaaEae
import Derived.Outline
import Derived.Handy
import Derived.Deep.RegionHeld3
import Derived.Deep.DrawnRows
import Derived.Deep.QuietTactic
import Derived.BigQuiet
import Derived.Laws.StructEq
import Derived.Test.YthiaaminkfkjpaaEaa
import Derived.StillTail
import Derived.Deep.RegionHeld
namespace Go.Proofs.Ythiaaminkfkjpaa
open Go.RowKit

theorem within1_any (x lo hi : Int) (gl gh : Nat) (w : World) (h0 : w.cell? ⟨gl, 0, none⟩ = some (.int .i64 lo)) (h1 : w.cell? ⟨gh, 0, none⟩ = some (.int .i64 hi)) :
    Calls Try.prog 61 #[.int .i64 x, .pointer (some ⟨gl, 0, none⟩), .pointer (some ⟨gh, 0, none⟩)] w fun e w' => e = .returned (.bool (!Rw.inI lo hi x)) ∧ w = w' := by
  go_enter Try.func61, Try.ntmps61
  go_wp2
  all_goals
    go_ret
    refine ⟨?_, rfl⟩
    refine congrArg (fun b => Ending.returned (.bool b)) ?_
    unfold Rw.inI
    rw [Bool.eq_iff_iff]
    simp
    try omega

/-- 'slices.IndexFunc' with the closure of 'within'. -/
theorem indexFunc_any (xs : List Int) (lo hi : Int) (b off cap gl gh : Nat) (w : World) (hl : xs.length ≤ 1000) (hx : ∀ i (h : i < xs.length), w.cell? ⟨b, off + i, none⟩ = some (.int .i64 xs[i]))
    (h0 : w.cell? ⟨gl, 0, none⟩ = some (.int .i64 lo)) (h1 : w.cell? ⟨gh, 0, none⟩ = some (.int .i64 hi)) :
    Calls Try.prog 73 #[.slice (some ⟨b, off, none⟩) xs.length cap, .func (.func 61) #[] #[.pointer (some ⟨gl, 0, none⟩), .pointer (some ⟨gh, 0, none⟩)]] w
      fun e w' => ∃ r : Int, (e = .returned (.int .i64 r) ∧ w = w') ∧ decide (0 ≤ r) = xs.any (fun x => !Rw.inI lo hi x) := by
  go_enter Try.func73, Try.ntmps73
  go_wp2
  go_loop [8] (fun i => ∃ k : Nat, k ≤ xs.length ∧ i = .int .i64 k ∧ (xs.take k).any (fun x => !Rw.inI lo hi x) = false) (fun i => xs.length - (intOf i).toNat)
  case atStart => exact ⟨0, Nat.zero_le _, rfl, rfl⟩
  case round =>
    obtain ⟨k, hk, rfl, hno⟩ := hrel
    have Hno := Lib.hid hno
    clear hno
    by_cases hlt : k < xs.length
    · have hc := hx k hlt
      cases hin : Rw.inI lo hi xs[k]
      · have Hin := Lib.hid hin
        go_wp2_with (go_at_call 61; refine (within1_any _ _ _ _ _ _ h0 h1).mono ?_; rintro e w' ⟨rfl, rfl⟩)
        go_ret
        refine ⟨_, ⟨rfl, rfl⟩, ?_⟩
        symm
        rw [decide_eq_true (by omega), List.any_eq_true]
        exact ⟨xs[k], List.getElem_mem _, by rw [Hin.out]; rfl⟩
      · have Hin := Lib.hid hin
        go_wp2_with (go_at_call 61; refine (within1_any _ _ _ _ _ _ h0 h1).mono ?_; rintro e w' ⟨rfl, rfl⟩)
        go_round
        case rel =>
          refine ⟨k + 1, by omega, by go_num, ?_⟩
          rw [List.take_succ_eq_append_getElem hlt, List.any_append, Hno.out]
          simp [Hin.out]
        case measure => simp [intOf]; omega
    · go_wp2
      go_ret
      refine ⟨_, ⟨rfl, rfl⟩, ?_⟩
      have := Hno.out
      rw [List.take_of_length_le (by omega)] at this
      rw [this]
      rfl

theorem containsFunc_any (xs : List Int) (lo hi : Int) (b off cap gl gh : Nat) (w : World) (hl : xs.length ≤ 1000) (hx : ∀ i (h : i < xs.length), w.cell? ⟨b, off + i, none⟩ = some (.int .i64 xs[i]))
    (h0 : w.cell? ⟨gl, 0, none⟩ = some (.int .i64 lo)) (h1 : w.cell? ⟨gh, 0, none⟩ = some (.int .i64 hi)) :
    Calls Try.prog 60 #[.slice (some ⟨b, off, none⟩) xs.length cap, .func (.func 61) #[] #[.pointer (some ⟨gl, 0, none⟩), .pointer (some ⟨gh, 0, none⟩)]] w
      fun e w' => e = .returned (.bool (xs.any (fun x => !Rw.inI lo hi x))) ∧ w = w' := by
  have hc := Lib.hid hx
  clear hx
  go_enter Try.func60, Try.ntmps60
  go_wp2_with (go_at_call 73; refine (indexFunc_any xs lo hi b off cap gl gh _ hl hc.out h0 h1).mono ?_; rintro e w' ⟨r, ⟨rfl, rfl⟩, hr⟩; have Hr := Lib.hid hr; clear hr)
  go_ret
  exact ⟨by rw [← Hr.out]; rfl, rfl⟩

/-- 'within'. -/
theorem within_any (xs : List Int) (lo hi : Int) (b off cap : Nat) (w : World) (hl : xs.length ≤ 1000) (hb : b < w.heap.size) (hx : ∀ i (h : i < xs.length), w.cell? ⟨b, off + i, none⟩ = some (.int .i64 xs[i])) :
    Calls Try.prog 55 #[.int .i64 lo, .int .i64 hi, .slice (some ⟨b, off, none⟩) xs.length cap] w fun e w' => e = .returned (.bool (xs.all (Rw.inI lo hi))) ∧ Fr [] w w' := by
  have hc := Lib.hid hx
  clear hx
  have hall : (!xs.any fun x => !Rw.inI lo hi x) = xs.all (Rw.inI lo hi) := by
    rw [List.all_eq_not_any_not]
  have Hall := Lib.hid hall
  clear hall
  go_enter Try.func55, Try.ntmps55
  go_wp2_with (go_at_call 60; refine (containsFunc_any xs lo hi b off cap w.heap.size (w.heap.size + 1) _ hl (fun i hi => by rw [World.cell?_alloc_lt _ _ _ (by simp; omega), World.cell?_alloc_lt _ _ _ (by simpa using hb)]; exact hc.out i hi) (by simp [go_sem]) (by simp [go_sem])).mono ?_; rintro e w' ⟨rfl, rfl⟩)
  go_ret
  exact ⟨by rw [Hall.out]; rfl, ((Fr.refl _ _).alloc _).alloc _⟩
/-- 'within' of one number in a block of its own. -/
theorem within_one (x lo hi : Int) (b : Nat) (w : World) (hx : w.cell? ⟨b, 0, none⟩ = some (.int .i64 x)) :
    Calls Try.prog 55 #[.int .i64 lo, .int .i64 hi, .slice (some ⟨b, 0, none⟩) 1 1] w fun e w' => e = .returned (.bool (Rw.inI lo hi x)) ∧ Fr [] w w' :=
  (within_any [x] lo hi b 0 1 w (by simp) (World.block_lt_of_cell? w _ hx) (fun i hi => by
    have : i = 0 := by simpa using hi
    subst this
    exact hx)).mono fun e w' ⟨h, hf⟩ => ⟨by rw [h]; simp, hf⟩
/-- 'within' of three numbers. -/
theorem within_three (x y z lo hi : Int) (b off cap : Nat) (w : World) (hx : w.cell? ⟨b, off, none⟩ = some (.int .i64 x)) (hy : w.cell? ⟨b, off + 1, none⟩ = some (.int .i64 y)) (hz : w.cell? ⟨b, off + 2, none⟩ = some (.int .i64 z)) :
    Calls Try.prog 55 #[.int .i64 lo, .int .i64 hi, .slice (some ⟨b, off, none⟩) 3 cap] w fun e w' => e = .returned (.bool (Rw.inI lo hi x && Rw.inI lo hi y && Rw.inI lo hi z)) ∧ Fr [] w w' :=
  (within_any [x, y, z] lo hi b off cap w (by simp) (World.block_lt_of_cell? w _ hx) (fun i hi => by
    match i, hi with
    | 0, _ => exact hx
    | 1, _ => exact hy
    | 2, _ => exact hz)).mono fun e w' ⟨h, hf⟩ => ⟨by rw [h]; simp [Bool.and_assoc], hf⟩

/-- 'Valid'. -/
theorem rowValid_any (t k x y z : Int) (w : World) : Calls Try.prog 74 #[.agg #[.int .i64 t, .int .i64 k, .int .i64 x, .int .i64 y, .int .i64 z]] w fun e w' => e = .returned (.bool (Rw.row t k x y z)) ∧ Fr [] w w' := by
  have HR : Hid (Rw.row t k x y z = (Rw.inI 0 3 t && Rw.inI 1 1000000 k && (Rw.inI (-1000000000) 1000000000 x && Rw.inI (-1000000000) 1000000000 y && Rw.inI (-1000000000) 1000000000 z))) := Lib.hid rfl
  go_enter Try.func74, Try.ntmps74
  go_wp2_with fail
  refine (within_one t 0 3 (w.heap.size + 1) _ (by simp [go_sem])).mono ?_
  rintro e w1 ⟨rfl, f1⟩
  have F1 : Fr [] w w1 := (((Fr.refl _ _).alloc _).alloc _).trans f1
  have hB := (((Blk.new w 33 #[.int .i64 t, .int .i64 k, .int .i64 x, .int .i64 y, .int .i64 z]).alloc _).fr f1 (by simp))
  clear f1
  cases ht : Rw.inI 0 3 t
  · have Ht := Lib.hid ht
    go_wp2_with fail
    go_ret
    exact ⟨by rw [HR.out, Ht.out]; rfl, F1⟩
  have Ht := Lib.hid ht
  clear ht
  have hc1 := hB.cell 1
  have hlt := hB.lt
  go_wp2_with fail
  refine (within_one k 1 1000000 w1.heap.size _ (by simp [go_sem])).mono ?_
  rintro e w2 ⟨rfl, f2⟩
  have F2 : Fr [] w w2 := F1.trans (((Fr.refl _ _).alloc _).trans f2)
  replace hB := (hB.alloc _).fr f2 (by simp)
  clear hc1 hlt f2 F1
  cases hk : Rw.inI 1 1000000 k
  · have Hk := Lib.hid hk
    go_wp2_with fail
    go_ret
    exact ⟨by rw [HR.out, Ht.out, Hk.out]; rfl, F2⟩
  have Hk := Lib.hid hk
  clear hk
  go_wp2_with fail
  refine (within_three x y z (-1000000000) 1000000000 w.heap.size 2 3 _ (hB.cell 2) (hB.cell 3) (hB.cell 4)).mono ?_
  rintro e w3 ⟨rfl, f3⟩
  have HV : Hid ((Rw.inI (-1000000000) 1000000000 x && Rw.inI (-1000000000) 1000000000 y && Rw.inI (-1000000000) 1000000000 z) = Rw.row t k x y z) := Lib.hid (by rw [HR.out, Ht.out, Hk.out]; rfl)
  rw [HV.out]
  go_wp2_with fail
  go_ret
  exact ⟨rfl, F2.trans f3⟩

/-- A change as a value. -/
abbrev Chg.val (c : Chg) : Value := .agg #[.int .i64 c.t, .int .i64 c.k, .bool c.had, .int .i64 c.o0, .int .i64 c.o1, .int .i64 c.o2, .bool c.has, .int .i64 c.n0, .int .i64 c.n1, .int .i64 c.n2]
abbrev rowVal (t k x y z : Int) : Value := .agg #[.int .i64 t, .int .i64 k, .int .i64 x, .int .i64 y, .int .i64 z]

theorem half_yes (c : Chg) (x y z : Int) (w : World) : Calls Try.prog 47 #[c.val, .bool true, .agg #[.int .i64 x, .int .i64 y, .int .i64 z]] w fun e w' =>
    e = .returned (.tuple #[rowVal c.t c.k x y z, .bool true]) ∧ Fr [] w w' := by
  unfold Chg.val rowVal
  go_enter Try.func47, Try.ntmps47
  go_wp2
  exact bodyPost_ret (v := .tuple #[.agg #[.int .i64 c.t, .int .i64 c.k, .int .i64 x, .int .i64 y, .int .i64 z], .bool true]) (by simp [results, Try.results47, go_sem]) rfl ⟨rfl, (((Fr.refl _ _).alloc _).alloc _).alloc _⟩
theorem half_no (c : Chg) (x y z : Int) (w : World) : Calls Try.prog 47 #[c.val, .bool false, .agg #[.int .i64 x, .int .i64 y, .int .i64 z]] w fun e w' =>
    e = .returned (.tuple #[rowVal 0 0 0 0 0, .bool false]) ∧ Fr [] w w' := by
  unfold Chg.val rowVal
  go_enter Try.func47, Try.ntmps47
  go_wp2
  exact bodyPost_ret (v := .tuple #[.agg #[.int .i64 0, .int .i64 0, .int .i64 0, .int .i64 0, .int .i64 0], .bool false]) (by simp [results, Try.results47, go_sem]) rfl ⟨rfl, (((Fr.refl _ _).alloc _).alloc _).alloc _⟩

/-! ### Arrays of three numbers compared -/
theorem run_isAgg_int (w : World) : (isAgg 3).run Try.prog w = .ok false w := by kernel_rfl
theorem run_sizeOf_int (w : World) : (sizeOf 3).run Try.prog w = .ok 1 w := by kernel_rfl
theorem eqIn_v3 (d : Nat) (x y z a b c : Int) (w : World) : (Op.equalIn (d + 2) 24 (.agg #[.int .i64 x, .int .i64 y, .int .i64 z]) (.agg #[.int .i64 a, .int .i64 b, .int .i64 c])).run Try.prog w = .ok (decide (x = a ∧ y = b ∧ z = c)) w := by
  rw [Op.equalIn]
  simp only [Sem.run_bind, run_underlying Try.underlying24, Result.andThen_ok, run_sizeOf_int]
  simp [Std.Legacy.Range.forIn_eq_forIn_range', List.range', part, Op.equalIn, run_underlying Try.underlying3]
  repeat' split
  all_goals simp_all
theorem eql_v3 (x y z a b c : Int) (w : World) : (binOp .eql 24 (.agg #[.int .i64 x, .int .i64 y, .int .i64 z]) (.agg #[.int .i64 a, .int .i64 b, .int .i64 c])).run Try.prog w = .ok (.bool (decide (x = a ∧ y = b ∧ z = c))) w := by
  rw [run_eql_struct, show (10000 : Nat) = 9998 + 2 from rfl, eqIn_v3]
  rfl
theorem neq_v3 (x y z a b c : Int) (w : World) : (binOp .neq 24 (.agg #[.int .i64 x, .int .i64 y, .int .i64 z]) (.agg #[.int .i64 a, .int .i64 b, .int .i64 c])).run Try.prog w = .ok (.bool (!decide (x = a ∧ y = b ∧ z = c))) w := by
  rw [run_neq_struct, show (10000 : Nat) = 9998 + 2 from rfl, eqIn_v3]
  rfl
theorem eqGuard_v3 (op : BinOp) (x y : Operand) (xs ys : Array Value) (w : World) : (eqGuard op 24 x y (.agg xs) (.agg ys)).run Try.prog w = .ok () w :=
  run_eqGuard_agg w op _ x y xs ys (by kernel_rfl)

/-- 'sound'. -/
theorem sound_any (c : Chg) (there : Bool) (x y z : Int) (w : World) : Calls Try.prog 62 #[c.val, .bool there, .agg #[.int .i64 x, .int .i64 y, .int .i64 z]] w fun e w' =>
    e = .returned (.bool (Rw.sound c.t c.k there x y z)) ∧ Fr [] w w' := by
  cases there
  · have H0 : Hid (Rw.sound c.t c.k false x y z = decide (x = 0 ∧ y = 0 ∧ z = 0)) := Lib.hid rfl
    unfold Chg.val
    go_enter Try.func62, Try.ntmps62
    go_wp2_with fail
    refine (half_no c x y z _).mono ?_
    rintro e w1 ⟨rfl, f1⟩
    have F1 : Fr [] w w1 := (((Fr.refl _ _).alloc _).alloc _).trans f1
    have hB := ((Blk.new (w.alloc (.cells #[.int .i64 c.t, .int .i64 c.k, .bool c.had, .int .i64 c.o0, .int .i64 c.o1, .int .i64 c.o2, .bool c.has, .int .i64 c.n0, .int .i64 c.n1, .int .i64 c.n2] 35)) 24 #[.int .i64 x, .int .i64 y, .int .i64 z]).fr f1 (by simp))
    rw [World.size_alloc] at hB
    have h0 := hB.cell 0
    have h1 := hB.cell 1
    have h2 := hB.cell 2
    have hlt := hB.lt
    clear f1 hB
    have hq := eql_v3 x y z 0 0 0
    have hg := eqGuard_v3
    go_wp2_with fail
    go_ret
    exact ⟨congrArg (fun b => Ending.returned (.bool b)) (by rw [H0.out]; simp [Bool.decide_and]), F1.alloc _⟩
  · have H1 : Hid (Rw.sound c.t c.k true x y z = Rw.row c.t c.k x y z) := Lib.hid rfl
    unfold Chg.val
    go_enter Try.func62, Try.ntmps62
    go_wp2_with fail
    refine (half_yes c x y z _).mono ?_
    rintro e w1 ⟨rfl, f1⟩
    have F1 : Fr [] w w1 := (((Fr.refl _ _).alloc _).alloc _).trans f1
    clear f1
    go_wp2_with fail
    refine (rowValid_any c.t c.k x y z _).mono ?_
    rintro e w2 ⟨rfl, f2⟩
    have F2 : Fr [] w w2 := F1.trans (((Fr.refl _ _).alloc _).trans f2)
    clear f2
    cases hr : Rw.row c.t c.k x y z
    all_goals
      have Hr := Lib.hid hr
      go_wp2_with fail
      go_ret
      exact ⟨by rw [H1.out, Hr.out]; rfl, F2⟩

end Go.Proofs.Ythiaaminkfkjpaa
namespace Go.Proofs.Ythiaaminkfkjpaa
open Go.RowKit

section
variable {P : Program} {ops : Array Oper} {md : Region.Mode} {Q : Exit → Act → World → Prop} {S : World → Prop}
/-- Some operations of the head are still to come; behind each S holds. -/
def HeadS (P : Program) (md : Region.Mode) (ops : Array Oper) (Q : Exit → Act → World → Prop) (S : World → Prop) (n : Nat) (L : Array Bool → Act → World → Prop) : Nat → Array Bool → Act → World → Prop
  | 0, done, a, w => L done a w
  | f + 1, done, a, w => Region.ready md ops done ≠ [] ∧ ∀ i ∈ Region.ready md ops done, i < n ∧ wpOp P ops Q i (fun a' w' => S w' ∧ HeadS P md ops Q S n L f (done.setIfInBounds i true) a' w') a w

theorem HeadS.any {n g : Nat} {L : Array Bool → Act → World → Prop} (hL : ∀ done a w, L done a w → wpAny P md ops Q g done a w) :
    ∀ (f : Nat) (done : Array Bool) (a : Act) (w : World), HeadS P md ops Q S n L f done a w → wpAny P md ops Q (f + g) done a w := by
  intro f
  induction f with
  | zero => intro done a w h; rw [Nat.zero_add]; exact hL _ _ _ h
  | succ f ih =>
    intro done a w h
    rw [Nat.add_right_comm]
    exact ⟨fun h0 => absurd h0 h.1, fun i hi => wpOp_mono (fun a' w' h' => ih _ a' w' h'.2) (h.2 i hi).2⟩

theorem HeadS.first {n i : Nat} {oi : Oper} {v : Value} {L : Array Bool → Act → World → Prop} (hi : ops[i]? = some oi) (hsel : ∀ (j : Nat) (o : Oper) cs b, ops[j]? = some o → o.op ≠ .select cs b)
    (hQ : ∀ c a w, Q (.panic c) (a.put oi.dst v) w → Q (.panic c) a w)
    (hs : Region.sinkB md ops n = true) (hc : Region.chainB md ops n = true) (hn : n < ops.size) (hin : i < n) (hend : ∀ done a w, L done a w → ∀ j ∈ Region.ready md ops done, n ≤ j) :
    ∀ (f : Nat) (done : Array Bool) (a : Act) (w : World), HeadInv md ops n done →
      (∀ j oj, ops[j]? = some oj → j ≠ i → done.getD j true = false → (∀ e ∈ oj.after, Region.binds md e = true → e.on ≠ i) → oi.apart ops oj = true) →
      i ∈ Region.ready md ops done → YieldsIf P ops S oi v a → S w → HeadS P md ops Q S n L f (done.setIfInBounds i true) (a.put oi.dst v) w → HeadS P md ops Q S n L (f + 1) done a w := by
  intro f
  induction f with
  | zero =>
    intro done a w inv _ hr hy hS H
    have hun := (mem_ready.1 hr).1
    refine ⟨List.ne_nil_of_mem hr, fun j hj => ?_⟩
    have hjn : j < n := Nat.lt_of_not_le fun h => tail_waits hs hc hn inv _ i rfl hin hun j h hj
    refine ⟨hjn, ?_⟩
    by_cases e : j = i
    · subst e
      exact hy.wpOp hi hS ⟨hS, H⟩
    · exact absurd (hend _ _ _ H j (ready_mono hj e)) (by omega)
  | succ f ih =>
    intro done a w inv hfree hr hy hS H
    have hun := (mem_ready.1 hr).1
    refine ⟨List.ne_nil_of_mem hr, fun j hj => ?_⟩
    have hjn : j < n := Nat.lt_of_not_le fun h => tail_waits hs hc hn inv _ i rfl hin hun j h hj
    refine ⟨hjn, ?_⟩
    by_cases e : j = i
    · subst e
      exact hy.wpOp hi hS ⟨hS, H⟩
    · obtain ⟨hjun, oj, hoj, hall⟩ := mem_ready.1 hj
      have hnot : ∀ e ∈ oj.after, Region.binds md e = true → e.on ≠ i := by
        intro x hx hb hxi
        have h1 := hall x hx hb
        rw [hxi, getD_both hun] at h1
        cases h1
      have h2 := wpOp_putIf hoj (hfree j oj hoj e hjun hnot) (fun cs b => hsel i oi cs b hi) (fun cs b => hsel j oj cs b hoj) hQ hy (H.2 j (ready_mono hj e)).2
      have hfree' : ∀ k ok, ops[k]? = some ok → k ≠ i → (done.setIfInBounds j true).getD k true = false →
          (∀ e ∈ ok.after, Region.binds md e = true → e.on ≠ i) → oi.apart ops ok = true := fun k ok hk hki hkun hkn => by
        refine hfree k ok hk hki ?_ hkn
        by_cases hjk : j = k
        · subst hjk
          exact hjun
        · rwa [getD_set_ne true hjk] at hkun
      refine wpOp_mono (fun a' w' h3 => ⟨h3.2.1, ih (done.setIfInBounds j true) a' w' (inv.set hj hjn) hfree' (ready_mono hr (Ne.symm e)) h3.1 h3.2.1 ?_⟩) h2
      rw [Array.setIfInBounds_comm _ _ e]
      exact h3.2.2

/-- The walk's goal within the head. -/
def wpHead (P : Program) (md : Region.Mode) (ops : Array Oper) (Q : Exit → Act → World → Prop) (S : World → Prop) (n f : Nat) (done : Array Bool) (a : Act) (w : World) : Prop :=
  HeadInv md ops n done → HeadS P md ops Q S n (fun d a' w' => Region.seqB md ops (ops.size - n) n d = true ∧ wpList P ops Q (ops.toList.drop n) a' w') f done a w

theorem wpHead_take {n i : Nat} {oi : Oper} {v : Value} {f : Nat} {done : Array Bool} {a : Act} {w : World} (hi : ops[i]? = some oi)
    (hB : (Region.noSelect ops && (Region.sinkB md ops n && (Region.chainB md ops n && (decide (n < ops.size) && (decide (i < n) && (Region.free md ops done i && (Region.ready md ops done).contains i)))))) = true)
    (hQ : ∀ c a w, Q (.panic c) (a.put oi.dst v) w → Q (.panic c) a w) (hy : YieldsIf P ops S oi v a) (hS : S w)
    (h : wpHead P md ops Q S n f (done.setIfInBounds i true) (a.put oi.dst v) w) : wpHead P md ops Q S n (f + 1) done a w := fun inv => by
  simp only [Bool.and_eq_true, decide_eq_true_eq] at hB
  obtain ⟨b1, b2, b3, b4, b5, b6, b7⟩ := hB
  have hr : i ∈ Region.ready md ops done := by simpa using b7
  exact HeadS.first hi (Region.noSelect_spec b1) hQ b2 b3 b4 b5 (fun d a' w' hL => seqB_ready hL.1) f done a w inv (Region.free_spec hi b6) hr hy hS (h (inv.set hr b5))

/-- One operation alone may come up: it is carried out, S shown anew. -/
theorem wpHead_one {n i : Nat} {o : Oper} {f : Nat} {done : Array Bool} {a : Act} {w : World} (ho : ops[i]? = some o) (hr : Region.ready md ops done = [i]) (hin : i < n)
    (h : ∀ K' : Act → World → Prop, Shut (∀ a w, S w → (S w → wpHead P md ops Q S n f (done.setIfInBounds i true) a w) → K' a w) → if Region.wanted o (yielded ops a.tmps) = true then Oper.wp P o a w K' Q else K' (a.put o.dst undef) w) :
    wpHead P md ops Q S n (f + 1) done a w := fun inv => by
  refine ⟨by rw [hr]; simp, fun j hj => ?_⟩
  have hj' : j = i := by rw [hr] at hj; simpa using hj
  subst hj'
  exact ⟨hin, wpOp_step ho (fun K' hK => h K' (fun a w hS hW => hK a w ⟨hS, hW hS (inv.set hj hin)⟩))⟩

/-- The head is done. -/
theorem wpHead_done {n : Nat} {done : Array Bool} {a : Act} {w : World} (hB : Region.seqB md ops (ops.size - n) n done = true) (h : wpList P ops Q (ops.toList.drop n) a w) : wpHead P md ops Q S n 0 done a w :=
  fun _ => ⟨hB, h⟩

theorem wp_region_head {id : Nat} {a : Act} {w : World} {l : List Oper} (S : World → Prop) (n : Nat) (hm : P.follows .mixedOrders = true) (hn : decide (n ≤ l.length) = true) (hS : S w.drew)
    (h : S w.drew → wpHead P .any l.toArray Q S n n (Array.replicate l.length false) a w.drew) : (Code.region id l.toArray true).wp P Q a w := by
  simp only [decide_eq_true_eq] at hn
  refine wp_region_any hm ?_
  have inv0 : HeadInv .any l.toArray n (Array.replicate l.length false) :=
    ⟨by simp, fun j oj _ hl => (by rw [getD_replicate_false] at hl; cases hl), fun t _ ht => getD_in (by simpa using ht) (getD_replicate_false _ _)⟩
  have H2 := HeadS.any (Q := Q) (g := l.toArray.size - n) (fun d a' w' hL => by
    have h1 := wpAny_of_seq (P := P) (ops := l.toArray) (md := .any) (Q' := Q) (l.drop n) n d a' w' (fun j => by simp [List.getElem?_drop]) (by
      have e : (l.drop n).length = l.toArray.size - n := by simp
      rw [e]; exact hL.1) (by simpa using hL.2)
    have e : (l.drop n).length = l.toArray.size - n := by simp
    rwa [e] at h1) _ _ _ _ (h hS inv0)
  have e : n + (l.toArray.size - n) = l.toArray.size := by simp; omega
  rw [e] at H2
  simpa using H2
/-- A load of a whole struct from the head of a block that S names. -/
theorem yieldsIf_load_blk {o : Oper} {a : Act} (hw : Region.wanted o (yielded ops a.tmps) = true) (ty : TypeId) (x : Operand) (ho : o.op = .load ty x) (g : Nat) (hx : a.eval x = .pointer (some ⟨g, 0, none⟩)) (t : TypeId) (cs : Array Value) (d : TypeDesc)
    (hS : ∀ w, S w → Blk w g t cs) (hu : P.underlying ty = some d) (hd : (match d with | .struct _ | .array _ _ => true | _ => false) = true) (hi : (P.info? ty).map (·.size) = some cs.size) : YieldsIf P ops S o (.agg cs) a := by
  refine .inl ⟨hw, fun w h => ?_⟩
  have hr := run_loadVar_row (P := P) w g t ty cs (0, 0) d (hS w h) hu hd hi
  unfold execOp
  simp only [ho, hx, Instr.loadAt, Instr.sureAddr, Sem.run_bind, Sem.run_pure, Result.andThen_ok, hr]
end
end Go.Proofs.Ythiaaminkfkjpaa
