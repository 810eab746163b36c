/-
  What Apply gives for the result of a query.
-/
import Derived.Test.YtjiikpmkedkbkaaGreatMq
import Derived.Deep.QuietTactic
import Derived.Test.YtjiikpmkedkbkaaGreatMb
import Derived.Test.YtjiikpmkedkbkaaGreatMx
namespace Go.Proofs.YtjiikpmkedkbkaaGreat
open Go.RowKit

set_option maxRecDepth 100000 in
theorem equalRows_any (cs ds : List RowV) (A B : Option Addr) (ca cb : Nat) (w : World) (ha : RowsAt w A cs) (hb : RowsAt w B ds) (la : cs.length ≤ 4000) (lb : ds.length ≤ 4000) :
    Calls Tryz.prog 39 #[.slice A cs.length ca, .slice B ds.length cb] w fun e w' => e = .returned (.bool (decide (cs = ds))) ∧ Fr [] w w' := by
  by_cases hl : cs.length = ds.length
  · go_enter Tryz.func39, Tryz.ntmps39
    have HL := Lib.hid hl
    have hd : ((cs.length : Int) != (ds.length : Int)) = false := by simp [hl]
    clear hl
    go_wp2_with fail
    have hf0 : Fr [] w w := Fr.refl _ _
    go_loopw [13] (fun i wr => ∃ k : Nat, i = .int .i64 k ∧ (k ≤ cs.length ∧ cs.take k = ds.take k) ∧ Fr [] w wr) (fun i _ => cs.length - (intOf i).toNat)
    case atStart => exact ⟨0, rfl, ⟨Nat.zero_le _, by simp⟩, hf0⟩
    case round =>
      clear hf0
      obtain ⟨k, rfl, ⟨hk, htk⟩, hf⟩ := hrel
      have HTK := Lib.hid htk
      clear htk
      by_cases hlt : k < cs.length
      · obtain ⟨b1, o1, e1, hb1, hc1⟩ := (ha.fr hf (by simp)) (by omega)
        obtain ⟨b2, o2, e2, hb2, hc2⟩ := (hb.fr hf (by simp)) (by have := HL.out; omega)
        subst e1 e2
        have hlt2 : k < ds.length := by have := HL.out; omega
        replace hc1 := Lib.hid (hc1 k hlt)
        replace hc2 := Lib.hid (hc2 k hlt2)
        have htake : cs[k] = ds[k] → cs.take (k + 1) = ds.take (k + 1) := fun e => by rw [List.take_succ_eq_append_getElem hlt, List.take_succ_eq_append_getElem hlt2, HTK.out, e]
        have hdiff : cs[k] ≠ ds[k] → cs ≠ ds := fun h e => h (by simp only [e])
        have hq := neq_row cs[k] ds[k]
        generalize cs[k] = c at *
        generalize ds[k] = d at *
        obtain ⟨t, kk, p0, p1, p2⟩ := c
        obtain ⟨t', kk', p0', p1', p2'⟩ := d
        unfold RowV.val at hq
        dsimp only at hq
        have hc1_0 : wr.cell? ⟨b1, o1 + k * 5, none⟩ = some (.int .i64 t) := hc1.out 0 (by decide)
        have hc1_1 : wr.cell? ⟨b1, o1 + k * 5 + 1, none⟩ = some (.int .i64 kk) := hc1.out 1 (by decide)
        have hc1_2 : wr.cell? ⟨b1, o1 + k * 5 + 2, none⟩ = some (.int .i64 p0) := hc1.out 2 (by decide)
        have hc1_3 : wr.cell? ⟨b1, o1 + k * 5 + 3, none⟩ = some (.int .i64 p1) := hc1.out 3 (by decide)
        have hc1_4 : wr.cell? ⟨b1, o1 + k * 5 + 4, none⟩ = some (.int .i64 p2) := hc1.out 4 (by decide)
        have hc2_0 : wr.cell? ⟨b2, o2 + k * 5, none⟩ = some (.int .i64 t') := hc2.out 0 (by decide)
        have hc2_1 : wr.cell? ⟨b2, o2 + k * 5 + 1, none⟩ = some (.int .i64 kk') := hc2.out 1 (by decide)
        have hc2_2 : wr.cell? ⟨b2, o2 + k * 5 + 2, none⟩ = some (.int .i64 p0') := hc2.out 2 (by decide)
        have hc2_3 : wr.cell? ⟨b2, o2 + k * 5 + 3, none⟩ = some (.int .i64 p1') := hc2.out 3 (by decide)
        have hc2_4 : wr.cell? ⟨b2, o2 + k * 5 + 4, none⟩ = some (.int .i64 p2') := hc2.out 4 (by decide)
        have hg := eqGuard_row
        clear hc1 hc2
        by_cases he : (⟨t, kk, p0, p1, p2⟩ : RowV) = ⟨t', kk', p0', p1', p2'⟩
        · have HT := Lib.hid (htake he)
          rw [decide_eq_true he] at hq
          clear htake hdiff he
          go_wp2_with fail
          go_quiet (fail)
          go_wp2_with fail
          have f1 : Fr [] w (wr.drewN nq) := hf.drewN _
          go_roundw
          case rel => exact ⟨k + 1, by go_num, ⟨by omega, HT.out⟩, f1⟩
          case measure => simp [intOf]; omega
        · have HD := Lib.hid (hdiff he)
          rw [decide_eq_false he] at hq
          clear htake hdiff he
          go_wp2_with fail
          go_quiet (fail)
          go_wp2_with fail
          go_ret
          exact ⟨by rw [decide_eq_false HD.out]; rfl, hf.drewN _⟩
      · go_wp2_with fail
        go_ret
        have HF : cs = ds := by
          have e1 := HTK.out
          have e2 := HL.out
          rwa [List.take_of_length_le (by omega), List.take_of_length_le (by omega)] at e1
        exact ⟨by rw [decide_eq_true HF]; rfl, hf⟩
  · have HF : Hid (decide (cs = ds) = false) := Lib.hid (decide_eq_false fun e => hl (by rw [e]))
    have hd : decide (cs.length = ds.length) = false := by simpa using hl
    go_enter Tryz.func39, Tryz.ntmps39
    go_wp2_with fail
    go_ret
    exact ⟨by rw [HF.out]; rfl, Fr.refl _ _⟩

set_option maxRecDepth 100000 in
set_option maxHeartbeats 4000000 in
theorem esame_any (A : Option Addr) (n ca : Nat) (x : Int) (f : Bool) (l1 : List RowV) (B : Option Addr) (m cb : Nat) (y : Int) (g : Bool) (l2 : List RowV) (w : World) (ha : RowsAt w A l1) (hn : n = l1.length) (hb : RowsAt w B l2) (hm : m = l2.length) (la : n ≤ 4000) (_lb : m ≤ 4000) :
    Calls Tryz.prog 23 #[.agg #[.slice A n ca, .int .i64 x, .bool f], .agg #[.slice B m cb, .int .i64 y, .bool g]] w fun e w' => e = .returned (.bool (decide ((⟨l1, x, f⟩ : Res) = ⟨l2, y, g⟩))) ∧ Fr [] w w' := by
  have ra := (RsAt.new w (.slice A n ca) x f).fr ((Fr.refl [] _).alloc (.cells #[.slice B m cb, .int .i64 y, .bool g] 34)) (by simp)
  have rb := RsAt.new (w.alloc (.cells #[.slice A n ca, .int .i64 x, .bool f] 34)) (.slice B m cb) y g
  rw [World.size_alloc] at rb
  have F0 := Lib.hid (((Fr.refl [] w).alloc (.cells #[.slice A n ca, .int .i64 x, .bool f] 34)).alloc (.cells #[.slice B m cb, .int .i64 y, .bool g] 34))
  have HE := Lib.hid (equalRows_any l1 l2 A B ca cb ((w.alloc (.cells #[.slice A n ca, .int .i64 x, .bool f] 34)).alloc (.cells #[.slice B m cb, .int .i64 y, .bool g] 34)) (ha.fr F0.out (by simp)) (hb.fr F0.out (by simp)) (by omega) (by omega))
  rw [← hn, ← hm] at HE
  obtain ⟨p, HP⟩ : ∃ p, Hid (decide (l1 = l2) = p) := ⟨_, Lib.hid rfl⟩
  rw [HP.out] at HE
  obtain ⟨r, HR⟩ : ∃ r, Hid (decide ((⟨l1, x, f⟩ : Res) = ⟨l2, y, g⟩) = r) := ⟨_, Lib.hid rfl⟩
  rw [HR.out]
  have HPR : Hid (∀ v, (decide (x = y) && decide (f = g) && p) = v → r = v) := Lib.hid (fun v hv => by rw [← hv, ← HR.out, ← HP.out]; simp only [Res.mk.injEq, Bool.decide_and]; cases decide (l1 = l2) <;> cases decide (x = y) <;> cases decide (f = g) <;> rfl)
  clear ha hb hn hm la _lb
  go_enter Tryz.func23, Tryz.ntmps23
  go_upto_region 1 with (fail)
  generalize (w.alloc (.cells #[.slice A n ca, .int .i64 x, .bool f] 34)).alloc (.cells #[.slice B m cb, .int .i64 y, .bool g] 34) = w2 at *
  have a0 := ra.c0
  have a1 := ra.c1
  have a2 := ra.c2
  have b0 := rb.c0
  have b1 := rb.c1
  have b2 := rb.c2
  have HA := Lib.hid ra
  have HB := Lib.hid rb
  clear ra rb
  by_cases hxy : x = y
  · have HXY := Lib.hid hxy
    have e1 : (x == y) = true := by simpa using hxy
    clear hxy
    cases hf : f <;> cases hg : g <;> subst hf <;> subst hg
    all_goals
      go_wp2_with (go_at_call 39; refine HE.out.mono ?_; rintro e w3 ⟨rfl, f3⟩; have A3 := HA.out.fr f3 (by simp); have B3 := HB.out.fr f3 (by simp); have a1 := A3.c1; have a2 := A3.c2; have b1 := B3.c1; have b2 := B3.c2; have G3 := Lib.hid (F0.out.trans f3); clear f3 A3 B3)
      go_ret
      exact ⟨by rw [HPR.out _ rfl]; simp [HXY.out] <;> rfl, by first | exact G3.out | exact F0.out⟩
  · have HXY := Lib.hid hxy
    have e1 : (x == y) = false := by simpa using hxy
    clear hxy
    go_wp2_with (go_at_call 39; refine HE.out.mono ?_; rintro e w3 ⟨rfl, f3⟩; have A3 := HA.out.fr f3 (by simp); have B3 := HB.out.fr f3 (by simp); have a1 := A3.c1; have a2 := A3.c2; have b1 := B3.c1; have b2 := B3.c2; have G3 := Lib.hid (F0.out.trans f3); clear f3 A3 B3)
    go_ret
    exact ⟨by rw [HPR.out false (by simp [HXY.out])]; rfl, F0.out⟩

end Go.Proofs.YtjiikpmkedkbkaaGreat
namespace Go.Proofs.YtjiikpmkedkbkaaGreat
open Go.RowKit

namespace Pm
/-- The row before or behind a change, zero if there is none. -/
def rowB (c : Chg) : RowV := if c.had = true then ⟨c.t, c.k, c.o0, c.o1, c.o2⟩ else ⟨0, 0, 0, 0, 0⟩
def rowA (c : Chg) : RowV := if c.has = true then ⟨c.t, c.k, c.n0, c.n1, c.n2⟩ else ⟨0, 0, 0, 0, 0⟩
theorem inB (q : Qry) (c : Chg) : (c.had && inq q (rowB c)) = (B q c).isSome := by
  unfold B sc bef rowB
  cases c.had with
  | false => rfl
  | true =>
    rw [if_pos rfl, if_pos rfl]
    cases h : inq q ⟨c.t, c.k, c.o0, c.o1, c.o2⟩ <;> simp [Option.filter, h]
theorem inA (q : Qry) (c : Chg) : (c.has && inq q (rowA c)) = (A q c).isSome := by
  unfold A sc aft rowA
  cases c.has with
  | false => rfl
  | true =>
    rw [if_pos rfl, if_pos rfl]
    cases h : inq q ⟨c.t, c.k, c.n0, c.n1, c.n2⟩ <;> simp [Option.filter, h]
theorem B_some {q : Qry} {c : Chg} {b : RowV} (h : B q c = some b) : b = rowB c := by
  unfold B sc bef at h
  unfold rowB
  cases hh : c.had with
  | false => rw [hh] at h; cases h
  | true =>
    rw [hh, if_pos rfl] at h
    rw [if_pos rfl]
    cases hi : inq q ⟨c.t, c.k, c.o0, c.o1, c.o2⟩ <;> simp [Option.filter, hi] at h
    exact h.symm
theorem A_some {q : Qry} {c : Chg} {b : RowV} (h : A q c = some b) : b = rowA c := by
  unfold A sc aft at h
  unfold rowA
  cases hh : c.has with
  | false => rw [hh] at h; cases h
  | true =>
    rw [hh, if_pos rfl] at h
    rw [if_pos rfl]
    cases hi : inq q ⟨c.t, c.k, c.n0, c.n1, c.n2⟩ <;> simp [Option.filter, hi] at h
    exact h.symm
theorem mB (q : Qry) (c : Chg) : (if (B q c).isSome = true then (rowB c).value q.by_ else 0) = old q c := by
  unfold old
  cases h : B q c with
  | none => rfl
  | some b => rw [B_some h]; rfl
theorem mA (q : Qry) (c : Chg) : (if (A q c).isSome = true then (rowA c).value q.by_ else 0) = now q c := by
  unfold now
  cases h : A q c with
  | none => rfl
  | some b => rw [A_some h]; rfl
end Pm
theorem rhad_row (c : Chg) (w : World) : Calls Tryz.prog 18 #[c.val] w fun e w' => e = .returned (.tuple #[(Pm.rowB c).val, .bool c.had]) ∧ Fr [] w w' := by
  have h := rfBefore_any c w
  have e : (if c.had = true then rowVal c.t c.k c.o0 c.o1 c.o2 else rowVal 0 0 0 0 0) = (Pm.rowB c).val := by
    unfold Pm.rowB
    split <;> rfl
  rw [e] at h
  exact h
theorem rhas_row (c : Chg) (w : World) : Calls Tryz.prog 20 #[c.val] w fun e w' => e = .returned (.tuple #[(Pm.rowA c).val, .bool c.has]) ∧ Fr [] w w' := by
  have h := rfAfter_any c w
  have e : (if c.has = true then rowVal c.t c.k c.n0 c.n1 c.n2 else rowVal 0 0 0 0 0) = (Pm.rowA c).val := by
    unfold Pm.rowA
    split <;> rfl
  rw [e] at h
  exact h
end Go.Proofs.YtjiikpmkedkbkaaGreat
namespace Go.Proofs.YtjiikpmkedkbkaaGreat
open Go.RowKit

namespace Pm
/-- What Apply gives for the result of a query. -/
theorem patched {s : Sm.Sta} {q : Qry} {r : Rec} {R R' N : Res} {t k : Bool} (hv : Em.valid q = true) (ho : Sm.Ok s) (hf : Sm.fits s r = true) (hR : Em.of s q = R) (hN : Em.of (Sm.apply s r) q = N) (h : AOut (Pm.apply q R r.cs) R' t k) :
    (k = true → R' = N) ∧ (k = false → t = true ∧ R' = ⟨[], 0, false⟩) ∧ (t = false → R = R') ∧ t = r.cs.any (touches q) := by
  subst hR hN
  rcases h with ⟨rfl, h⟩ | ⟨rfl, h, rfl, rfl⟩
  · obtain ⟨h1, h2⟩ := apply_of hv ho hf h
    dsimp only at h1 h2
    refine ⟨fun _ => h1, fun h => (by cases h), fun ht => ?_, h2⟩
    rw [ht] at h2
    have h3 := go_still r.cs (Em.of s q) false h2.symm
    unfold apply at h
    rw [h3] at h
    injection h with h
    injection h
  · exact ⟨fun h => (by cases h), fun _ => ⟨rfl, rfl⟩, fun h => (by cases h), (go_none r.cs _ _ h).symm⟩
end Pm

end Go.Proofs.YtjiikpmkedkbkaaGreat
