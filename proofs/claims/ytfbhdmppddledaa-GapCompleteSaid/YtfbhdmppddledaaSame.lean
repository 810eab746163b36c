/-
  Changes and records compared: cachetierref03.Same.
-/
import Derived.Test.YtfbhdmppddledaaRecC
namespace Go.Proofs.Ytfbhdmppddledaa
open Go.RowKit

theorem run_isAgg_bool (w : World) : (isAgg 4).run Try.prog w = .ok false w := by kernel_rfl
theorem run_isAgg_v3 (w : World) : (isAgg 57).run Try.prog w = .ok true w := by kernel_rfl
theorem run_sizeOf_v3 (w : World) : (sizeOf 57).run Try.prog w = .ok 3 w := by kernel_rfl
theorem eqIn_chg (d : Nat) (a b : Chg) (w : World) : (Op.equalIn (d + 3) 59 a.val b.val).run Try.prog w = .ok (decide (a = b)) w := by
  unfold Chg.val
  rw [run_equalIn_agg w (d + 2) 59 _ _ (by kernel_rfl) (by kernel_rfl)]
  simp only [Program.fieldsOf, Try.underlying59]
  obtain ⟨t, k, had, o0, o1, o2, has, n0, n1, n2⟩ := a
  obtain ⟨t', k', had', o0', o1', o2', has', n0', n1', n2'⟩ := b
  have hI : ∀ (a b : Int) (w : World), (Op.equalIn (d + 2) 3 (.int .i64 a) (.int .i64 b)).run Try.prog w = .ok (a == b) w := fun a b w => run_equalIn_int (P := Try.prog) w (d + 1) 3 .i64 .i64 a b Try.underlying3
  have hB : ∀ (a b : Bool) (w : World), (Op.equalIn (d + 2) 4 (.bool a) (.bool b)).run Try.prog w = .ok (a == b) w := fun a b w => run_equalIn_bool (P := Try.prog) w (d + 1) 4 a b Try.underlying4
  have hV := fun x y z a b c w => eqIn_v3 d x y z a b c w
  simp [Op.eqFields, Sem.run_bind, part, run_isAgg_int, run_isAgg_bool, run_isAgg_v3, run_sizeOf_v3, hI, hB, hV]
  repeat' split
  all_goals simp_all
theorem neq_chg (a b : Chg) (w : World) : (binOp .neq 59 a.val b.val).run Try.prog w = .ok (.bool (!decide (a = b))) w := by
  rw [run_neq_struct, show (10000 : Nat) = 9997 + 3 from rfl, eqIn_chg]
  rfl
theorem eqGuard_chg (op : BinOp) (x y : Operand) (xs ys : Array Value) (w : World) : (eqGuard op 59 x y (.agg xs) (.agg ys)).run Try.prog w = .ok () w :=
  run_eqGuard_agg w op _ x y xs ys (by kernel_rfl)

def Rw.same (a b : Rec) : Bool := decide (a = b)
theorem Rw.same_self (a : Rec) : Rw.same a a = true := by simp [Rw.same]
theorem Rw.same_true {a b : Rec} : Rw.same a b = true ↔ a = b := by simp [Rw.same]
/-- 'Same'. -/
theorem same_any (a b : Rec) (A B : Option Addr) (ca cb : Nat) (w : World) (ha : ChgsAt w A a.cs) (hb : ChgsAt w B b.cs) (la : a.cs.length ≤ 1000) (lb : b.cs.length ≤ 1000) :
    Calls Try.prog 36 #[.agg #[.int .i64 a.p, .slice A a.cs.length ca], .agg #[.int .i64 b.p, .slice B b.cs.length cb]] w fun e w' => e = .returned (.bool (Rw.same a b)) ∧ Fr [] w w' := by
  obtain ⟨p, cs⟩ := a
  obtain ⟨q, ds⟩ := b
  dsimp only at ha hb la lb ⊢
  by_cases hp : p = q
  · by_cases hl : cs.length = ds.length
    · subst hp
      go_enter Try.func36, Try.ntmps36
      have HL := Lib.hid hl
      have hd : ((cs.length : Int) != (ds.length : Int)) = false := by simp [hl]
      clear hl
      go_wp2_with fail
      have f0 : Fr [] w ((w.alloc (.cells #[.int .i64 p, .slice A cs.length ca] 34)).alloc (.cells #[.int .i64 p, .slice B ds.length cb] 34)) := ((Fr.refl _ _).alloc _).alloc _
      have hx0 := (Blk.new w 34 #[.int .i64 p, .slice A cs.length ca]).alloc (.cells #[.int .i64 p, .slice B ds.length cb] 34)
      have hy0 := Blk.new (w.alloc (.cells #[.int .i64 p, .slice A cs.length ca] 34)) 34 #[.int .i64 p, .slice B ds.length cb]
      rw [World.size_alloc] at hy0
      generalize ((w.alloc (.cells #[.int .i64 p, .slice A cs.length ca] 34)).alloc (.cells #[.int .i64 p, .slice B ds.length cb] 34)) = W0 at *
      go_loopw [5] (fun i wr => ∃ k : Nat, i = .int .i64 k ∧ (k ≤ cs.length ∧ cs.take k = ds.take k) ∧ Fr [] W0 wr) (fun i _ => cs.length - (intOf i).toNat)
      case atStart => exact ⟨0, rfl, ⟨Nat.zero_le _, by simp⟩, Fr.refl _ _⟩
      case round =>
        obtain ⟨k, rfl, ⟨hk, htk⟩, hf⟩ := hrel
        have HTK := Lib.hid htk
        have hx := hx0.fr hf (by simp)
        have hy := hy0.fr hf (by simp)
        have x1 := hx.cell 1
        have y1 := hy.cell 1
        clear htk
        by_cases hlt : k < cs.length
        · obtain ⟨b1, o1, e1, hb1, hc1⟩ := (ha.fr (f0.trans hf) (by simp)) (by omega)
          obtain ⟨b2, o2, e2, hb2, hc2⟩ := (hb.fr (f0.trans hf) (by simp)) (by have := HL.out; omega)
          subst e1 e2
          have hlt2 : k < ds.length := by have := HL.out; omega
          replace hc1 := Lib.hid (hc1 k hlt)
          replace hc2 := Lib.hid (hc2 k hlt2)
          have htake : cs[k] = ds[k] → cs.take (k + 1) = ds.take (k + 1) := fun e => by rw [List.take_succ_eq_append_getElem hlt, List.take_succ_eq_append_getElem hlt2, HTK.out, e]
          have hdiff : cs[k] ≠ ds[k] → cs ≠ ds := fun h e => h (by simp only [e])
          have hq := neq_chg cs[k] ds[k]
          generalize cs[k] = c at *
          generalize ds[k] = d at *
          obtain ⟨t, kk, had, p0, p1, p2, has, n0, n1, n2⟩ := c
          obtain ⟨t', kk', had', p0', p1', p2', has', n0', n1', n2'⟩ := d
          unfold Chg.val at hq
          dsimp only at hq
          have hc1_0 : wr.cell? ⟨b1, o1 + k * 10, none⟩ = some (.int .i64 t) := hc1.out 0 (by decide)
          have hc1_1 : wr.cell? ⟨b1, o1 + k * 10 + 1, none⟩ = some (.int .i64 kk) := hc1.out 1 (by decide)
          have hc1_2 : wr.cell? ⟨b1, o1 + k * 10 + 2, none⟩ = some (.bool had) := hc1.out 2 (by decide)
          have hc1_3 : wr.cell? ⟨b1, o1 + k * 10 + 3, none⟩ = some (.int .i64 p0) := hc1.out 3 (by decide)
          have hc1_4 : wr.cell? ⟨b1, o1 + k * 10 + 4, none⟩ = some (.int .i64 p1) := hc1.out 4 (by decide)
          have hc1_5 : wr.cell? ⟨b1, o1 + k * 10 + 5, none⟩ = some (.int .i64 p2) := hc1.out 5 (by decide)
          have hc1_6 : wr.cell? ⟨b1, o1 + k * 10 + 6, none⟩ = some (.bool has) := hc1.out 6 (by decide)
          have hc1_7 : wr.cell? ⟨b1, o1 + k * 10 + 7, none⟩ = some (.int .i64 n0) := hc1.out 7 (by decide)
          have hc1_8 : wr.cell? ⟨b1, o1 + k * 10 + 8, none⟩ = some (.int .i64 n1) := hc1.out 8 (by decide)
          have hc1_9 : wr.cell? ⟨b1, o1 + k * 10 + 9, none⟩ = some (.int .i64 n2) := hc1.out 9 (by decide)
          have hc2_0 : wr.cell? ⟨b2, o2 + k * 10, none⟩ = some (.int .i64 t') := hc2.out 0 (by decide)
          have hc2_1 : wr.cell? ⟨b2, o2 + k * 10 + 1, none⟩ = some (.int .i64 kk') := hc2.out 1 (by decide)
          have hc2_2 : wr.cell? ⟨b2, o2 + k * 10 + 2, none⟩ = some (.bool had') := hc2.out 2 (by decide)
          have hc2_3 : wr.cell? ⟨b2, o2 + k * 10 + 3, none⟩ = some (.int .i64 p0') := hc2.out 3 (by decide)
          have hc2_4 : wr.cell? ⟨b2, o2 + k * 10 + 4, none⟩ = some (.int .i64 p1') := hc2.out 4 (by decide)
          have hc2_5 : wr.cell? ⟨b2, o2 + k * 10 + 5, none⟩ = some (.int .i64 p2') := hc2.out 5 (by decide)
          have hc2_6 : wr.cell? ⟨b2, o2 + k * 10 + 6, none⟩ = some (.bool has') := hc2.out 6 (by decide)
          have hc2_7 : wr.cell? ⟨b2, o2 + k * 10 + 7, none⟩ = some (.int .i64 n0') := hc2.out 7 (by decide)
          have hc2_8 : wr.cell? ⟨b2, o2 + k * 10 + 8, none⟩ = some (.int .i64 n1') := hc2.out 8 (by decide)
          have hc2_9 : wr.cell? ⟨b2, o2 + k * 10 + 9, none⟩ = some (.int .i64 n2') := hc2.out 9 (by decide)
          have hg := eqGuard_chg
          clear hc1 hc2
          by_cases he : (⟨t, kk, had, p0, p1, p2, has, n0, n1, n2⟩ : Chg) = ⟨t', kk', had', p0', p1', p2', has', n0', n1', n2'⟩
          · have HT := Lib.hid (htake he)
            rw [decide_eq_true he] at hq
            clear htake hdiff he
            go_wp2_with fail
            go_quiet (fail)
            go_wp2_with fail
            have f1 : Fr [] W0 (wr.drewN nq) := hf.drewN _
            go_roundw
            case rel => exact ⟨k + 1, by go_num, ⟨by omega, HT.out⟩, f1⟩
            case measure => simp [intOf]; omega
          · have HD := Lib.hid (hdiff he)
            rw [decide_eq_false he] at hq
            clear htake hdiff he
            go_wp2_with fail
            go_quiet (fail)
            go_wp2_with fail
            go_ret
            have HF : Hid (Rw.same ⟨p, cs⟩ ⟨p, ds⟩ = false) := Lib.hid (by have := HD.out; simp [Rw.same, this])
            exact ⟨by rw [HF.out]; rfl, (f0.trans hf).drewN _⟩
        · go_wp2_with fail
          go_ret
          have HF : Hid (Rw.same ⟨p, cs⟩ ⟨p, ds⟩ = true) := Lib.hid (by
            have e1 := HTK.out
            have e2 := HL.out
            rw [List.take_of_length_le (by omega), List.take_of_length_le (by omega)] at e1
            rw [e1]
            exact Rw.same_self _)
          exact ⟨by rw [HF.out]; rfl, f0.trans hf⟩
    · have HF : Hid (Rw.same ⟨p, cs⟩ ⟨q, ds⟩ = false) := Lib.hid (by simp [Rw.same]; intro _ e; exact hl (by rw [e]))
      have hd : decide (cs.length = ds.length) = false := by simpa using hl
      subst hp
      go_enter Try.func36, Try.ntmps36
      go_wp2_with fail
      go_ret
      exact ⟨by rw [HF.out]; rfl, ((Fr.refl _ _).alloc _).alloc _⟩
  · have HF : Hid (Rw.same ⟨p, cs⟩ ⟨q, ds⟩ = false) := Lib.hid (by simp [Rw.same, hp])
    have hd : (p == q) = false := by simpa using hp
    go_enter Try.func36, Try.ntmps36
    go_wp2_with fail
    go_ret
    exact ⟨by rw [HF.out]; rfl, ((Fr.refl _ _).alloc _).alloc _⟩
end Go.Proofs.Ytfbhdmppddledaa
