/-
  Contracts of the reference of rows (cachetierref03): Value, ValidChange.
-/
import Derived.Test.YthiaaminkfkjpaaEak
namespace Go.Proofs.Ythiaaminkfkjpaa
open Go.RowKit

/-- A row's value in a column. -/
def RowV.value (r : RowV) (c : Int) : Int := if c = 0 then r.k else if c = 1 then r.x else if c = 2 then r.y else if c = 3 then r.z else 0

set_option maxHeartbeats 1000000 in
theorem rfChange_ff (t k o0 o1 o2 n0 n1 n2 : Int) (w : World) : Calls Try.prog 45 #[.agg #[.int .i64 t, .int .i64 k, .bool false, .int .i64 o0, .int .i64 o1, .int .i64 o2, .bool false, .int .i64 n0, .int .i64 n1, .int .i64 n2]] w fun e w' => e = .returned (.bool (Rw.chg ⟨t, k, false, o0, o1, o2, false, n0, n1, n2⟩)) ∧ Fr [] w w' := by
  have HB := Lib.hid (rfBefore_any ⟨t, k, false, o0, o1, o2, false, n0, n1, n2⟩)
  have HA := Lib.hid (rfAfter_any ⟨t, k, false, o0, o1, o2, false, n0, n1, n2⟩)
  have HV := Lib.hid rfValid_any
  have hg := eqGuard_v3
  unfold Chg.val rowVal at *
  simp only [Bool.false_eq_true, if_false] at HB HA
  have HF : Hid (Rw.chg ⟨t, k, false, o0, o1, o2, false, n0, n1, n2⟩ = false) := Lib.hid rfl
  go_enter Try.func45, Try.ntmps45
  go_wp2_with fail
  refine (HB.out _).mono ?_
  rintro e w1 ⟨rfl, f1⟩
  have F1 : Fr [] w w1 := ((Fr.refl _ _).alloc _).trans f1
  have hc := (Blk.new w 35 _).fr f1 (by simp)
  have c0 := hc.cell 0
  have c1 := hc.cell 1
  have c2 := hc.cell 2
  have c3 := hc.cell 3
  have c4 := hc.cell 4
  have c5 := hc.cell 5
  have c6 := hc.cell 6
  have c7 := hc.cell 7
  have c8 := hc.cell 8
  have c9 := hc.cell 9
  have hlt := hc.lt
  clear f1
  go_wp2_with fail
  refine (HA.out _).mono ?_
  rintro e w2 ⟨rfl, f2⟩
  have F2 : Fr [] w w2 := F1.trans (((Fr.refl _ _).alloc _).trans f2)
  have hc2 := (hc.alloc _).fr f2 (by simp)
  have hb2 := (Blk.new w1 33 _).fr f2 (by simp)
  clear c0 c1 c2 c3 c4 c5 c6 c7 c8 c9 hlt hc F1 f2
  have c3 := hc2.cell 3
  have c4 := hc2.cell 4
  have c5 := hc2.cell 5
  have c7 := hc2.cell 7
  have c8 := hc2.cell 8
  have c9 := hc2.cell 9
  have b0 := hb2.cell 0
  have b1 := hb2.cell 1
  have b2 := hb2.cell 2
  have b3 := hb2.cell 3
  have b4 := hb2.cell 4
  have hlt := hc2.lt
  have hlt2 := hb2.lt
  go_wp2_with fail
  go_ret
  exact ⟨by rw [HF.out]; rfl, F2.alloc _⟩
set_option maxHeartbeats 1000000 in
theorem rfChange_tt (t k o0 o1 o2 n0 n1 n2 : Int) (w : World) : Calls Try.prog 45 #[.agg #[.int .i64 t, .int .i64 k, .bool true, .int .i64 o0, .int .i64 o1, .int .i64 o2, .bool true, .int .i64 n0, .int .i64 n1, .int .i64 n2]] w fun e w' => e = .returned (.bool (Rw.chg ⟨t, k, true, o0, o1, o2, true, n0, n1, n2⟩)) ∧ Fr [] w w' := by
  have HB := Lib.hid (rfBefore_any ⟨t, k, true, o0, o1, o2, true, n0, n1, n2⟩)
  have HA := Lib.hid (rfAfter_any ⟨t, k, true, o0, o1, o2, true, n0, n1, n2⟩)
  have HV := Lib.hid rfValid_any
  have hg := eqGuard_v3
  unfold Chg.val rowVal at *
  simp only [if_true] at HB HA
  by_cases hd : o0 = n0 ∧ o1 = n1 ∧ o2 = n2
  · have hq := eql_v3 o0 o1 o2 n0 n1 n2
    rw [decide_eq_true hd] at hq
    have HF : Hid (Rw.chg ⟨t, k, true, o0, o1, o2, true, n0, n1, n2⟩ = false) := Lib.hid (by simp [Rw.chg, Rw.turns, Rw.differs, hd.1, hd.2.1, hd.2.2])
    clear hd
    go_enter Try.func45, Try.ntmps45
    go_wp2_with fail
    refine (HB.out _).mono ?_
    rintro e w1 ⟨rfl, f1⟩
    have F1 : Fr [] w w1 := ((Fr.refl _ _).alloc _).trans f1
    have hc := (Blk.new w 35 _).fr f1 (by simp)
    have c0 := hc.cell 0
    have c1 := hc.cell 1
    have c2 := hc.cell 2
    have c3 := hc.cell 3
    have c4 := hc.cell 4
    have c5 := hc.cell 5
    have c6 := hc.cell 6
    have c7 := hc.cell 7
    have c8 := hc.cell 8
    have c9 := hc.cell 9
    have hlt := hc.lt
    clear f1
    go_wp2_with fail
    refine (HA.out _).mono ?_
    rintro e w2 ⟨rfl, f2⟩
    have F2 : Fr [] w w2 := F1.trans (((Fr.refl _ _).alloc _).trans f2)
    have hc2 := (hc.alloc _).fr f2 (by simp)
    have hb2 := (Blk.new w1 33 _).fr f2 (by simp)
    clear c0 c1 c2 c3 c4 c5 c6 c7 c8 c9 hlt hc F1 f2
    have c3 := hc2.cell 3
    have c4 := hc2.cell 4
    have c5 := hc2.cell 5
    have c7 := hc2.cell 7
    have c8 := hc2.cell 8
    have c9 := hc2.cell 9
    have b0 := hb2.cell 0
    have b1 := hb2.cell 1
    have b2 := hb2.cell 2
    have b3 := hb2.cell 3
    have b4 := hb2.cell 4
    have hlt := hc2.lt
    have hlt2 := hb2.lt
    go_wp2_with fail
    go_ret
    exact ⟨by rw [HF.out]; rfl, F2.alloc _⟩
  · have hq := eql_v3 o0 o1 o2 n0 n1 n2
    rw [decide_eq_false hd] at hq
    have HF : Hid (Rw.chg ⟨t, k, true, o0, o1, o2, true, n0, n1, n2⟩ = (Rw.row t k o0 o1 o2 && Rw.row t k n0 n1 n2)) := Lib.hid (by
      have : Rw.differs ⟨t, k, true, o0, o1, o2, true, n0, n1, n2⟩ = true := by
        unfold Rw.differs
        simp only [decide_eq_true_eq]
        omega
      simp [Rw.chg, Rw.turns, Rw.sound, this])
    clear hd
    generalize hr1 : Rw.row t k o0 o1 o2 = r1 at *
    generalize hr2 : Rw.row t k n0 n1 n2 = r2 at *
    have HR1 := Lib.hid hr1
    have HR2 := Lib.hid hr2
    clear hr1 hr2
    go_enter Try.func45, Try.ntmps45
    go_wp2_with fail
    refine (HB.out _).mono ?_
    rintro e w1 ⟨rfl, f1⟩
    have F1 : Fr [] w w1 := ((Fr.refl _ _).alloc _).trans f1
    have hc := (Blk.new w 35 _).fr f1 (by simp)
    have c0 := hc.cell 0
    have c1 := hc.cell 1
    have c2 := hc.cell 2
    have c3 := hc.cell 3
    have c4 := hc.cell 4
    have c5 := hc.cell 5
    have c6 := hc.cell 6
    have c7 := hc.cell 7
    have c8 := hc.cell 8
    have c9 := hc.cell 9
    have hlt := hc.lt
    clear f1
    go_wp2_with fail
    refine (HA.out _).mono ?_
    rintro e w2 ⟨rfl, f2⟩
    have F2 : Fr [] w w2 := F1.trans (((Fr.refl _ _).alloc _).trans f2)
    have hc2 := (hc.alloc _).fr f2 (by simp)
    have hb2 := (Blk.new w1 33 _).fr f2 (by simp)
    clear c0 c1 c2 c3 c4 c5 c6 c7 c8 c9 hlt hc F1 f2
    have c3 := hc2.cell 3
    have c4 := hc2.cell 4
    have c5 := hc2.cell 5
    have c7 := hc2.cell 7
    have c8 := hc2.cell 8
    have c9 := hc2.cell 9
    have b0 := hb2.cell 0
    have b1 := hb2.cell 1
    have b2 := hb2.cell 2
    have b3 := hb2.cell 3
    have b4 := hb2.cell 4
    have hlt := hc2.lt
    have hlt2 := hb2.lt
    have hn2 := Blk.new w2 33 #[.int .i64 t, .int .i64 k, .int .i64 n0, .int .i64 n1, .int .i64 n2]
    go_wp2_with fail
    refine (HV.out t k o0 o1 o2 _).mono ?_
    rintro e w3 ⟨he, f3⟩
    rw [HR1.out] at he
    subst he
    have F3 := (F2.alloc (.cells #[.int .i64 t, .int .i64 k, .int .i64 n0, .int .i64 n1, .int .i64 n2] 33)).trans f3
    have hn3 := hn2.fr f3 (by simp)
    clear c3 c4 c5 c7 c8 c9 b0 b1 b2 b3 b4 hlt hlt2 f3 F2 hn2
    cases r1
    · go_wp2_with fail
      go_ret
      exact ⟨by rw [HF.out]; rfl, F3⟩
    have d0 := hn3.cell 0
    have d1 := hn3.cell 1
    have d2 := hn3.cell 2
    have d3 := hn3.cell 3
    have d4 := hn3.cell 4
    go_wp2_with fail
    refine (HV.out t k n0 n1 n2 _).mono ?_
    rintro e w4 ⟨he, f4⟩
    rw [HR2.out] at he
    subst he
    have F4 := F3.trans f4
    clear d0 d1 d2 d3 d4 f4 F3
    cases r2
    all_goals
      go_wp2_with fail
      go_ret
      exact ⟨by rw [HF.out]; rfl, F4⟩
set_option maxHeartbeats 1000000 in
theorem rfChange_ft (t k o0 o1 o2 n0 n1 n2 : Int) (w : World) : Calls Try.prog 45 #[.agg #[.int .i64 t, .int .i64 k, .bool false, .int .i64 o0, .int .i64 o1, .int .i64 o2, .bool true, .int .i64 n0, .int .i64 n1, .int .i64 n2]] w fun e w' => e = .returned (.bool (Rw.chg ⟨t, k, false, o0, o1, o2, true, n0, n1, n2⟩)) ∧ Fr [] w w' := by
  have HB := Lib.hid (rfBefore_any ⟨t, k, false, o0, o1, o2, true, n0, n1, n2⟩)
  have HA := Lib.hid (rfAfter_any ⟨t, k, false, o0, o1, o2, true, n0, n1, n2⟩)
  have HV := Lib.hid rfValid_any
  have hg := eqGuard_v3
  unfold Chg.val rowVal at *
  simp only [Bool.false_eq_true, if_false, if_true] at HB HA
  have HF : Hid (Rw.chg ⟨t, k, false, o0, o1, o2, true, n0, n1, n2⟩ = (Rw.row t k n0 n1 n2 && decide (o0 = 0 ∧ o1 = 0 ∧ o2 = 0))) := Lib.hid (by simp [Rw.chg, Rw.turns, Rw.sound, Bool.and_comm])
  have hq := eql_v3 o0 o1 o2 0 0 0
  generalize hdd : decide (o0 = 0 ∧ o1 = 0 ∧ o2 = 0) = d at *
  generalize hr1 : Rw.row t k n0 n1 n2 = r1 at *
  have HR1 := Lib.hid hr1
  clear hr1 hdd
  go_enter Try.func45, Try.ntmps45
  go_wp2_with fail
  refine (HB.out _).mono ?_
  rintro e w1 ⟨rfl, f1⟩
  have F1 : Fr [] w w1 := ((Fr.refl _ _).alloc _).trans f1
  have hc := (Blk.new w 35 _).fr f1 (by simp)
  have c0 := hc.cell 0
  have c1 := hc.cell 1
  have c2 := hc.cell 2
  have c3 := hc.cell 3
  have c4 := hc.cell 4
  have c5 := hc.cell 5
  have c6 := hc.cell 6
  have c7 := hc.cell 7
  have c8 := hc.cell 8
  have c9 := hc.cell 9
  have hlt := hc.lt
  clear f1
  go_wp2_with fail
  refine (HA.out _).mono ?_
  rintro e w2 ⟨rfl, f2⟩
  have F2 : Fr [] w w2 := F1.trans (((Fr.refl _ _).alloc _).trans f2)
  have hc2 := (hc.alloc _).fr f2 (by simp)
  have hb2 := (Blk.new w1 33 _).fr f2 (by simp)
  clear c0 c1 c2 c3 c4 c5 c6 c7 c8 c9 hlt hc F1 f2
  have c3 := hc2.cell 3
  have c4 := hc2.cell 4
  have c5 := hc2.cell 5
  have c7 := hc2.cell 7
  have c8 := hc2.cell 8
  have c9 := hc2.cell 9
  have b0 := hb2.cell 0
  have b1 := hb2.cell 1
  have b2 := hb2.cell 2
  have b3 := hb2.cell 3
  have b4 := hb2.cell 4
  have hlt := hc2.lt
  have hlt2 := hb2.lt
  go_wp2_with fail
  refine (HV.out t k n0 n1 n2 _).mono ?_
  rintro e w3 ⟨he, f3⟩
  rw [HR1.out] at he
  subst he
  have F3 := (F2.alloc (.cells #[.int .i64 t, .int .i64 k, .int .i64 n0, .int .i64 n1, .int .i64 n2] 33)).trans f3
  have hc3 := (hc2.alloc _).fr f3 (by simp)
  clear c3 c4 c5 c7 c8 c9 b0 b1 b2 b3 b4 hlt hlt2 f3 F2 hc2
  cases r1
  · go_wp2_with fail
    go_ret
    exact ⟨by rw [HF.out]; rfl, F3⟩
  have c3 := hc3.cell 3
  have c4 := hc3.cell 4
  have c5 := hc3.cell 5
  have c7 := hc3.cell 7
  have c8 := hc3.cell 8
  have c9 := hc3.cell 9
  cases d
  all_goals
    go_wp2_with fail
    go_ret
    exact ⟨by rw [HF.out]; rfl, F3⟩
set_option maxHeartbeats 1000000 in
theorem rfChange_tf (t k o0 o1 o2 n0 n1 n2 : Int) (w : World) : Calls Try.prog 45 #[.agg #[.int .i64 t, .int .i64 k, .bool true, .int .i64 o0, .int .i64 o1, .int .i64 o2, .bool false, .int .i64 n0, .int .i64 n1, .int .i64 n2]] w fun e w' => e = .returned (.bool (Rw.chg ⟨t, k, true, o0, o1, o2, false, n0, n1, n2⟩)) ∧ Fr [] w w' := by
  have HB := Lib.hid (rfBefore_any ⟨t, k, true, o0, o1, o2, false, n0, n1, n2⟩)
  have HA := Lib.hid (rfAfter_any ⟨t, k, true, o0, o1, o2, false, n0, n1, n2⟩)
  have HV := Lib.hid rfValid_any
  have hg := eqGuard_v3
  unfold Chg.val rowVal at *
  simp only [Bool.false_eq_true, if_false, if_true] at HB HA
  have HF : Hid (Rw.chg ⟨t, k, true, o0, o1, o2, false, n0, n1, n2⟩ = (Rw.row t k o0 o1 o2 && decide (n0 = 0 ∧ n1 = 0 ∧ n2 = 0))) := Lib.hid (by simp [Rw.chg, Rw.turns, Rw.sound])
  have hq := eql_v3 n0 n1 n2 0 0 0
  generalize hdd : decide (n0 = 0 ∧ n1 = 0 ∧ n2 = 0) = d at *
  generalize hr1 : Rw.row t k o0 o1 o2 = r1 at *
  have HR1 := Lib.hid hr1
  clear hr1 hdd
  go_enter Try.func45, Try.ntmps45
  go_wp2_with fail
  refine (HB.out _).mono ?_
  rintro e w1 ⟨rfl, f1⟩
  have F1 : Fr [] w w1 := ((Fr.refl _ _).alloc _).trans f1
  have hc := (Blk.new w 35 _).fr f1 (by simp)
  have c0 := hc.cell 0
  have c1 := hc.cell 1
  have c2 := hc.cell 2
  have c3 := hc.cell 3
  have c4 := hc.cell 4
  have c5 := hc.cell 5
  have c6 := hc.cell 6
  have c7 := hc.cell 7
  have c8 := hc.cell 8
  have c9 := hc.cell 9
  have hlt := hc.lt
  clear f1
  go_wp2_with fail
  refine (HA.out _).mono ?_
  rintro e w2 ⟨rfl, f2⟩
  have F2 : Fr [] w w2 := F1.trans (((Fr.refl _ _).alloc _).trans f2)
  have hc2 := (hc.alloc _).fr f2 (by simp)
  have hb2 := (Blk.new w1 33 _).fr f2 (by simp)
  clear c0 c1 c2 c3 c4 c5 c6 c7 c8 c9 hlt hc F1 f2
  have c3 := hc2.cell 3
  have c4 := hc2.cell 4
  have c5 := hc2.cell 5
  have c7 := hc2.cell 7
  have c8 := hc2.cell 8
  have c9 := hc2.cell 9
  have b0 := hb2.cell 0
  have b1 := hb2.cell 1
  have b2 := hb2.cell 2
  have b3 := hb2.cell 3
  have b4 := hb2.cell 4
  have hlt := hc2.lt
  have hlt2 := hb2.lt
  go_wp2_with fail
  refine (HV.out t k o0 o1 o2 _).mono ?_
  rintro e w3 ⟨he, f3⟩
  rw [HR1.out] at he
  subst he
  have F3 := (F2.alloc (.cells #[.int .i64 0, .int .i64 0, .int .i64 0, .int .i64 0, .int .i64 0] 33)).trans f3
  have hc3 := (hc2.alloc _).fr f3 (by simp)
  clear c3 c4 c5 c7 c8 c9 b0 b1 b2 b3 b4 hlt hlt2 f3 F2 hc2
  cases r1
  · go_wp2_with fail
    go_ret
    exact ⟨by rw [HF.out]; rfl, F3⟩
  have c3 := hc3.cell 3
  have c4 := hc3.cell 4
  have c5 := hc3.cell 5
  have c7 := hc3.cell 7
  have c8 := hc3.cell 8
  have c9 := hc3.cell 9
  cases d
  all_goals
    go_wp2_with fail
    go_ret
    exact ⟨by rw [HF.out]; rfl, F3⟩
/-- 'ValidChange'. -/
theorem rfChange_any (c : Chg) (w : World) : Calls Try.prog 45 #[c.val] w fun e w' => e = .returned (.bool (Rw.chg c)) ∧ Fr [] w w' := by
  obtain ⟨t, k, had, o0, o1, o2, has, n0, n1, n2⟩ := c
  cases had <;> cases has
  · exact rfChange_ff t k o0 o1 o2 n0 n1 n2 w
  · exact rfChange_ft t k o0 o1 o2 n0 n1 n2 w
  · exact rfChange_tf t k o0 o1 o2 n0 n1 n2 w
  · exact rfChange_tt t k o0 o1 o2 n0 n1 n2 w
end Go.Proofs.Ythiaaminkfkjpaa
