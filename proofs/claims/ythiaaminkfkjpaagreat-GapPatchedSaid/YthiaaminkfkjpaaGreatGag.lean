/-
  Packages query and eval in plain Lean.
-/
import Derived.Test.YthiaaminkfkjpaaGreatGad
import Derived.Test.YthiaaminkfkjpaaGreatGae
namespace Go.Proofs.YthiaaminkfkjpaaGreat
open Go.RowKit

/-- 'ValidChange'. -/
theorem validChange_any (c : Chg) (w : World) : Calls Tryz.prog 60 #[c.val] w fun e w' => e = .returned (.bool (Rw.chg c)) ∧ Fr [] w w' := by
  have HC : Hid (Rw.chg c = (Rw.turns c && Rw.sound c.t c.k c.had c.o0 c.o1 c.o2 && Rw.sound c.t c.k c.has c.n0 c.n1 c.n2)) := Lib.hid rfl
  have HT : Hid (Rw.turns c = (c.had != c.has || c.had && Rw.differs c)) := Lib.hid rfl
  have hq : ∀ w, (binOp .neq 63 (.agg #[.int .i64 c.o0, .int .i64 c.o1, .int .i64 c.o2]) (.agg #[.int .i64 c.n0, .int .i64 c.n1, .int .i64 c.n2])).run Tryz.prog w = .ok (.bool (Rw.differs c)) w := by
    intro w
    rw [neq_v3]
    unfold Rw.differs
    congr 2
    rw [Bool.eq_iff_iff]
    simp
  have hg := eqGuard_v3
  have Hx1 : Hid (∀ w, Calls Tryz.prog 74 #[c.val, .bool c.had, .agg #[.int .i64 c.o0, .int .i64 c.o1, .int .i64 c.o2]] w fun e w' => e = .returned (.bool (Rw.sound c.t c.k c.had c.o0 c.o1 c.o2)) ∧ Fr [] w w') := Lib.hid fun w => sound_any c c.had _ _ _ w
  have Hx2 : Hid (∀ w, Calls Tryz.prog 74 #[c.val, .bool c.has, .agg #[.int .i64 c.n0, .int .i64 c.n1, .int .i64 c.n2]] w fun e w' => e = .returned (.bool (Rw.sound c.t c.k c.has c.n0 c.n1 c.n2)) ∧ Fr [] w w') := Lib.hid fun w => sound_any c c.has _ _ _ w
  obtain ⟨t, k, had, o0, o1, o2, has, n0, n1, n2⟩ := c
  generalize hs1 : Rw.sound t k had o0 o1 o2 = s1 at *
  generalize hs2 : Rw.sound t k has n0 n1 n2 = s2 at *
  generalize hd : Rw.differs ⟨t, k, had, o0, o1, o2, has, n0, n1, n2⟩ = d at *
  clear hs1 hs2 hd
  unfold Chg.val at Hx1 Hx2 ⊢
  dsimp only at Hx1 Hx2 HC HT hq ⊢
  cases ht : (had != has || had && d)
  · rw [ht] at HT
    have HF : Hid (Rw.chg ⟨t, k, had, o0, o1, o2, has, n0, n1, n2⟩ = false) := Lib.hid (by rw [HC.out, HT.out]; rfl)
    cases had <;> cases has <;> cases d <;> (first | cases ht | skip)
    all_goals
      clear Hx1 Hx2 HC HT
      go_enter Tryz.func60, Tryz.ntmps60
      go_wp2_with fail
      go_ret
      exact ⟨by rw [HF.out]; rfl, (Fr.refl _ _).alloc _⟩
  · rw [ht] at HT
    have HF : Hid (Rw.chg ⟨t, k, had, o0, o1, o2, has, n0, n1, n2⟩ = (s1 && s2)) := Lib.hid (by rw [HC.out, HT.out]; simp)
    cases had <;> cases has <;> cases d <;> (first | cases ht | skip)
    all_goals
      clear HC HT
      go_enter Tryz.func60, Tryz.ntmps60
      go_wp2_with fail
      refine (Hx1.out _).mono ?_
      rintro e w1 ⟨rfl, f1⟩
      have F1 : Fr [] w w1 := ((Fr.refl _ _).alloc _).trans f1
      have hB := (Blk.new w 65 _).fr f1 (by simp)
      clear f1 Hx1
      cases s1
      · go_wp2_with fail
        go_ret
        exact ⟨by rw [HF.out]; rfl, F1⟩
      have c0 := hB.cell 0
      have c1 := hB.cell 1
      have c2 := hB.cell 2
      have c3 := hB.cell 3
      have c4 := hB.cell 4
      have c5 := hB.cell 5
      have c6 := hB.cell 6
      have c7 := hB.cell 7
      have c8 := hB.cell 8
      have c9 := hB.cell 9
      clear hB
      go_wp2_with fail
      refine (Hx2.out _).mono ?_
      rintro e w2 ⟨rfl, f2⟩
      have F2 : Fr [] w w2 := F1.trans f2
      clear f2 Hx2 F1
      cases s2
      all_goals
        go_wp2_with fail
        go_ret
        exact ⟨by rw [HF.out]; rfl, F2⟩
end Go.Proofs.YthiaaminkfkjpaaGreat
namespace Go.Proofs.YthiaaminkfkjpaaGreat
open Go.RowKit

theorem rfWithin_any (n lo hi : Int) (w : World) : Calls Tryz.prog 65 #[.int .i64 n, .int .i64 lo, .int .i64 hi] w fun e w' => e = .returned (.bool (Rw.inI lo hi n)) ∧ w = w' := by
  by_cases h : lo ≤ n ∧ n ≤ hi
  · have H : Hid (Rw.inI lo hi n = true) := Lib.hid (by unfold Rw.inI; exact decide_eq_true h)
    obtain ⟨h1, h2⟩ := h
    go_enter Tryz.func65, Tryz.ntmps65
    go_wp2
    go_ret
    exact ⟨by rw [H.out]; simp, rfl⟩
  · have H : Hid (Rw.inI lo hi n = false) := Lib.hid (by unfold Rw.inI; exact decide_eq_false h)
    go_enter Tryz.func65, Tryz.ntmps65
    go_wp2
    all_goals
      go_ret
      refine ⟨?_, rfl⟩
      rw [H.out]
      refine congrArg (fun b => Ending.returned (.bool b)) ?_
      (first | rfl | (simp; omega))

theorem rfValid_any (t k x y z : Int) (w : World) : Calls Tryz.prog 91 #[rowVal t k x y z] w fun e w' => e = .returned (.bool (Rw.row t k x y z)) ∧ Fr [] w w' := by
  have HR : Hid (Rw.row t k x y z = (Rw.inI 0 3 t && Rw.inI 1 1000000 k && (Rw.inI (-1000000000) 1000000000 x && Rw.inI (-1000000000) 1000000000 y && Rw.inI (-1000000000) 1000000000 z))) := Lib.hid rfl
  have f0 : Fr [] w (w.alloc (.cells #[.int .i64 t, .int .i64 k, .int .i64 x, .int .i64 y, .int .i64 z] 67)) := (Fr.refl _ _).alloc _
  have C := rfWithin_any
  have HC := Lib.hid C
  clear C
  unfold rowVal
  cases hx : Rw.inI (-1000000000) 1000000000 x <;> cases hy : Rw.inI (-1000000000) 1000000000 y <;> cases hz : Rw.inI (-1000000000) 1000000000 z <;> cases ht : Rw.inI 0 3 t
  all_goals
    have HX := Lib.hid hx
    have HY := Lib.hid hy
    have HZ := Lib.hid hz
    have HT := Lib.hid ht
    clear hx hy hz ht
    go_enter Tryz.func91, Tryz.ntmps91
    go_wp2_with fail
    refine wp_loop_rounds 4 ?_
    rw [rounds_succ]
    go_wp2_with (go_at_call 65; refine (HC.out _ _ _ _).mono ?_; rintro e w' ⟨he, rfl⟩; (first | rw [HX.out] at he | rw [HY.out] at he | rw [HZ.out] at he | rw [HT.out] at he | skip); subst he)
    (try (rw [rounds_succ]; go_wp2_with (go_at_call 65; refine (HC.out _ _ _ _).mono ?_; rintro e w' ⟨he, rfl⟩; (first | rw [HX.out] at he | rw [HY.out] at he | rw [HZ.out] at he | rw [HT.out] at he | skip); subst he)))
    (try (rw [rounds_succ]; go_wp2_with (go_at_call 65; refine (HC.out _ _ _ _).mono ?_; rintro e w' ⟨he, rfl⟩; (first | rw [HX.out] at he | rw [HY.out] at he | rw [HZ.out] at he | rw [HT.out] at he | skip); subst he)))
    (try (rw [rounds_succ]; go_wp2_with (go_at_call 65; refine (HC.out _ _ _ _).mono ?_; rintro e w' ⟨he, rfl⟩; (first | rw [HX.out] at he | rw [HY.out] at he | rw [HZ.out] at he | rw [HT.out] at he | skip); subst he)))
    go_ret
    exact ⟨by rw [HR.out, HX.out, HY.out, HZ.out, HT.out]; simp, f0⟩

theorem rfBefore_any (c : Chg) (w : World) : Calls Tryz.prog 90 #[c.val] w fun e w' => e = .returned (.tuple #[if c.had = true then rowVal c.t c.k c.o0 c.o1 c.o2 else rowVal 0 0 0 0 0, .bool c.had]) ∧ Fr [] w w' := by
  obtain ⟨t, k, had, o0, o1, o2, has, n0, n1, n2⟩ := c
  unfold Chg.val rowVal
  cases had
  all_goals
    go_enter Tryz.func90, Tryz.ntmps90
    go_wp2
    first
      | exact bodyPost_ret (v := .tuple #[.agg #[.int .i64 t, .int .i64 k, .int .i64 o0, .int .i64 o1, .int .i64 o2], .bool true]) (by simp [results, Tryz.results90, go_sem]) rfl ⟨rfl, (((Fr.refl _ _).alloc _).alloc _).alloc _⟩
      | exact bodyPost_ret (v := .tuple #[.agg #[.int .i64 t, .int .i64 k, .int .i64 o0, .int .i64 o1, .int .i64 o2], .bool true]) (by simp [results, Tryz.results90, go_sem]) rfl ⟨rfl, ((Fr.refl _ _).alloc _).alloc _⟩
      | exact bodyPost_ret (v := .tuple #[.agg #[.int .i64 0, .int .i64 0, .int .i64 0, .int .i64 0, .int .i64 0], .bool false]) (by simp [results, Tryz.results90, go_sem]) rfl ⟨rfl, (((Fr.refl _ _).alloc _).alloc _).alloc _⟩
      | exact bodyPost_ret (v := .tuple #[.agg #[.int .i64 0, .int .i64 0, .int .i64 0, .int .i64 0, .int .i64 0], .bool false]) (by simp [results, Tryz.results90, go_sem]) rfl ⟨rfl, ((Fr.refl _ _).alloc _).alloc _⟩
      | fail "x"
theorem rfAfter_any (c : Chg) (w : World) : Calls Tryz.prog 44 #[c.val] w fun e w' => e = .returned (.tuple #[if c.has = true then rowVal c.t c.k c.n0 c.n1 c.n2 else rowVal 0 0 0 0 0, .bool c.has]) ∧ Fr [] w w' := by
  obtain ⟨t, k, had, o0, o1, o2, has, n0, n1, n2⟩ := c
  unfold Chg.val rowVal
  cases has
  all_goals
    go_enter Tryz.func44, Tryz.ntmps44
    go_wp2
    first
      | exact bodyPost_ret (v := .tuple #[.agg #[.int .i64 t, .int .i64 k, .int .i64 n0, .int .i64 n1, .int .i64 n2], .bool true]) (by simp [results, Tryz.results44, go_sem]) rfl ⟨rfl, (((Fr.refl _ _).alloc _).alloc _).alloc _⟩
      | exact bodyPost_ret (v := .tuple #[.agg #[.int .i64 t, .int .i64 k, .int .i64 n0, .int .i64 n1, .int .i64 n2], .bool true]) (by simp [results, Tryz.results44, go_sem]) rfl ⟨rfl, ((Fr.refl _ _).alloc _).alloc _⟩
      | exact bodyPost_ret (v := .tuple #[.agg #[.int .i64 0, .int .i64 0, .int .i64 0, .int .i64 0, .int .i64 0], .bool false]) (by simp [results, Tryz.results44, go_sem]) rfl ⟨rfl, (((Fr.refl _ _).alloc _).alloc _).alloc _⟩
      | exact bodyPost_ret (v := .tuple #[.agg #[.int .i64 0, .int .i64 0, .int .i64 0, .int .i64 0, .int .i64 0], .bool false]) (by simp [results, Tryz.results44, go_sem]) rfl ⟨rfl, ((Fr.refl _ _).alloc _).alloc _⟩
      | fail "x"
end Go.Proofs.YthiaaminkfkjpaaGreat
namespace Go.Proofs.YthiaaminkfkjpaaGreat
open Go.RowKit

/-- A row's value in a column. -/
def RowV.value (r : RowV) (c : Int) : Int := if c = 0 then r.k else if c = 1 then r.x else if c = 2 then r.y else if c = 3 then r.z else 0

set_option maxHeartbeats 1000000 in
theorem rfChange_ff (t k o0 o1 o2 n0 n1 n2 : Int) (w : World) : Calls Tryz.prog 66 #[.agg #[.int .i64 t, .int .i64 k, .bool false, .int .i64 o0, .int .i64 o1, .int .i64 o2, .bool false, .int .i64 n0, .int .i64 n1, .int .i64 n2]] w fun e w' => e = .returned (.bool (Rw.chg ⟨t, k, false, o0, o1, o2, false, n0, n1, n2⟩)) ∧ Fr [] w w' := by
  have HB := Lib.hid (rfBefore_any ⟨t, k, false, o0, o1, o2, false, n0, n1, n2⟩)
  have HA := Lib.hid (rfAfter_any ⟨t, k, false, o0, o1, o2, false, n0, n1, n2⟩)
  have HV := Lib.hid rfValid_any
  have hg := eqGuard_v3
  unfold Chg.val rowVal at *
  simp only [Bool.false_eq_true, if_false] at HB HA
  have HF : Hid (Rw.chg ⟨t, k, false, o0, o1, o2, false, n0, n1, n2⟩ = false) := Lib.hid rfl
  go_enter Tryz.func66, Tryz.ntmps66
  go_wp2_with fail
  refine (HB.out _).mono ?_
  rintro e w1 ⟨rfl, f1⟩
  have F1 : Fr [] w w1 := ((Fr.refl _ _).alloc _).trans f1
  have hc := (Blk.new w 65 _).fr f1 (by simp)
  have c0 := hc.cell 0
  have c1 := hc.cell 1
  have c2 := hc.cell 2
  have c3 := hc.cell 3
  have c4 := hc.cell 4
  have c5 := hc.cell 5
  have c6 := hc.cell 6
  have c7 := hc.cell 7
  have c8 := hc.cell 8
  have c9 := hc.cell 9
  have hlt := hc.lt
  clear f1
  go_wp2_with fail
  refine (HA.out _).mono ?_
  rintro e w2 ⟨rfl, f2⟩
  have F2 : Fr [] w w2 := F1.trans (((Fr.refl _ _).alloc _).trans f2)
  have hc2 := (hc.alloc _).fr f2 (by simp)
  have hb2 := (Blk.new w1 67 _).fr f2 (by simp)
  clear c0 c1 c2 c3 c4 c5 c6 c7 c8 c9 hlt hc F1 f2
  have c3 := hc2.cell 3
  have c4 := hc2.cell 4
  have c5 := hc2.cell 5
  have c7 := hc2.cell 7
  have c8 := hc2.cell 8
  have c9 := hc2.cell 9
  have b0 := hb2.cell 0
  have b1 := hb2.cell 1
  have b2 := hb2.cell 2
  have b3 := hb2.cell 3
  have b4 := hb2.cell 4
  have hlt := hc2.lt
  have hlt2 := hb2.lt
  go_wp2_with fail
  go_ret
  exact ⟨by rw [HF.out]; rfl, F2.alloc _⟩
set_option maxHeartbeats 1000000 in
theorem rfChange_tt (t k o0 o1 o2 n0 n1 n2 : Int) (w : World) : Calls Tryz.prog 66 #[.agg #[.int .i64 t, .int .i64 k, .bool true, .int .i64 o0, .int .i64 o1, .int .i64 o2, .bool true, .int .i64 n0, .int .i64 n1, .int .i64 n2]] w fun e w' => e = .returned (.bool (Rw.chg ⟨t, k, true, o0, o1, o2, true, n0, n1, n2⟩)) ∧ Fr [] w w' := by
  have HB := Lib.hid (rfBefore_any ⟨t, k, true, o0, o1, o2, true, n0, n1, n2⟩)
  have HA := Lib.hid (rfAfter_any ⟨t, k, true, o0, o1, o2, true, n0, n1, n2⟩)
  have HV := Lib.hid rfValid_any
  have hg := eqGuard_v3
  unfold Chg.val rowVal at *
  simp only [if_true] at HB HA
  by_cases hd : o0 = n0 ∧ o1 = n1 ∧ o2 = n2
  · have hq := eql_v3 o0 o1 o2 n0 n1 n2
    rw [decide_eq_true hd] at hq
    have HF : Hid (Rw.chg ⟨t, k, true, o0, o1, o2, true, n0, n1, n2⟩ = false) := Lib.hid (by simp [Rw.chg, Rw.turns, Rw.differs, hd.1, hd.2.1, hd.2.2])
    clear hd
    go_enter Tryz.func66, Tryz.ntmps66
    go_wp2_with fail
    refine (HB.out _).mono ?_
    rintro e w1 ⟨rfl, f1⟩
    have F1 : Fr [] w w1 := ((Fr.refl _ _).alloc _).trans f1
    have hc := (Blk.new w 65 _).fr f1 (by simp)
    have c0 := hc.cell 0
    have c1 := hc.cell 1
    have c2 := hc.cell 2
    have c3 := hc.cell 3
    have c4 := hc.cell 4
    have c5 := hc.cell 5
    have c6 := hc.cell 6
    have c7 := hc.cell 7
    have c8 := hc.cell 8
    have c9 := hc.cell 9
    have hlt := hc.lt
    clear f1
    go_wp2_with fail
    refine (HA.out _).mono ?_
    rintro e w2 ⟨rfl, f2⟩
    have F2 : Fr [] w w2 := F1.trans (((Fr.refl _ _).alloc _).trans f2)
    have hc2 := (hc.alloc _).fr f2 (by simp)
    have hb2 := (Blk.new w1 67 _).fr f2 (by simp)
    clear c0 c1 c2 c3 c4 c5 c6 c7 c8 c9 hlt hc F1 f2
    have c3 := hc2.cell 3
    have c4 := hc2.cell 4
    have c5 := hc2.cell 5
    have c7 := hc2.cell 7
    have c8 := hc2.cell 8
    have c9 := hc2.cell 9
    have b0 := hb2.cell 0
    have b1 := hb2.cell 1
    have b2 := hb2.cell 2
    have b3 := hb2.cell 3
    have b4 := hb2.cell 4
    have hlt := hc2.lt
    have hlt2 := hb2.lt
    go_wp2_with fail
    go_ret
    exact ⟨by rw [HF.out]; rfl, F2.alloc _⟩
  · have hq := eql_v3 o0 o1 o2 n0 n1 n2
    rw [decide_eq_false hd] at hq
    have HF : Hid (Rw.chg ⟨t, k, true, o0, o1, o2, true, n0, n1, n2⟩ = (Rw.row t k o0 o1 o2 && Rw.row t k n0 n1 n2)) := Lib.hid (by
      have : Rw.differs ⟨t, k, true, o0, o1, o2, true, n0, n1, n2⟩ = true := by
        unfold Rw.differs
        simp only [decide_eq_true_eq]
        omega
      simp [Rw.chg, Rw.turns, Rw.sound, this])
    clear hd
    generalize hr1 : Rw.row t k o0 o1 o2 = r1 at *
    generalize hr2 : Rw.row t k n0 n1 n2 = r2 at *
    have HR1 := Lib.hid hr1
    have HR2 := Lib.hid hr2
    clear hr1 hr2
    go_enter Tryz.func66, Tryz.ntmps66
    go_wp2_with fail
    refine (HB.out _).mono ?_
    rintro e w1 ⟨rfl, f1⟩
    have F1 : Fr [] w w1 := ((Fr.refl _ _).alloc _).trans f1
    have hc := (Blk.new w 65 _).fr f1 (by simp)
    have c0 := hc.cell 0
    have c1 := hc.cell 1
    have c2 := hc.cell 2
    have c3 := hc.cell 3
    have c4 := hc.cell 4
    have c5 := hc.cell 5
    have c6 := hc.cell 6
    have c7 := hc.cell 7
    have c8 := hc.cell 8
    have c9 := hc.cell 9
    have hlt := hc.lt
    clear f1
    go_wp2_with fail
    refine (HA.out _).mono ?_
    rintro e w2 ⟨rfl, f2⟩
    have F2 : Fr [] w w2 := F1.trans (((Fr.refl _ _).alloc _).trans f2)
    have hc2 := (hc.alloc _).fr f2 (by simp)
    have hb2 := (Blk.new w1 67 _).fr f2 (by simp)
    clear c0 c1 c2 c3 c4 c5 c6 c7 c8 c9 hlt hc F1 f2
    have c3 := hc2.cell 3
    have c4 := hc2.cell 4
    have c5 := hc2.cell 5
    have c7 := hc2.cell 7
    have c8 := hc2.cell 8
    have c9 := hc2.cell 9
    have b0 := hb2.cell 0
    have b1 := hb2.cell 1
    have b2 := hb2.cell 2
    have b3 := hb2.cell 3
    have b4 := hb2.cell 4
    have hlt := hc2.lt
    have hlt2 := hb2.lt
    have hn2 := Blk.new w2 67 #[.int .i64 t, .int .i64 k, .int .i64 n0, .int .i64 n1, .int .i64 n2]
    go_wp2_with fail
    refine (HV.out t k o0 o1 o2 _).mono ?_
    rintro e w3 ⟨he, f3⟩
    rw [HR1.out] at he
    subst he
    have F3 := (F2.alloc (.cells #[.int .i64 t, .int .i64 k, .int .i64 n0, .int .i64 n1, .int .i64 n2] 67)).trans f3
    have hn3 := hn2.fr f3 (by simp)
    clear c3 c4 c5 c7 c8 c9 b0 b1 b2 b3 b4 hlt hlt2 f3 F2 hn2
    cases r1
    · go_wp2_with fail
      go_ret
      exact ⟨by rw [HF.out]; rfl, F3⟩
    have d0 := hn3.cell 0
    have d1 := hn3.cell 1
    have d2 := hn3.cell 2
    have d3 := hn3.cell 3
    have d4 := hn3.cell 4
    go_wp2_with fail
    refine (HV.out t k n0 n1 n2 _).mono ?_
    rintro e w4 ⟨he, f4⟩
    rw [HR2.out] at he
    subst he
    have F4 := F3.trans f4
    clear d0 d1 d2 d3 d4 f4 F3
    cases r2
    all_goals
      go_wp2_with fail
      go_ret
      exact ⟨by rw [HF.out]; rfl, F4⟩
set_option maxHeartbeats 1000000 in
theorem rfChange_ft (t k o0 o1 o2 n0 n1 n2 : Int) (w : World) : Calls Tryz.prog 66 #[.agg #[.int .i64 t, .int .i64 k, .bool false, .int .i64 o0, .int .i64 o1, .int .i64 o2, .bool true, .int .i64 n0, .int .i64 n1, .int .i64 n2]] w fun e w' => e = .returned (.bool (Rw.chg ⟨t, k, false, o0, o1, o2, true, n0, n1, n2⟩)) ∧ Fr [] w w' := by
  have HB := Lib.hid (rfBefore_any ⟨t, k, false, o0, o1, o2, true, n0, n1, n2⟩)
  have HA := Lib.hid (rfAfter_any ⟨t, k, false, o0, o1, o2, true, n0, n1, n2⟩)
  have HV := Lib.hid rfValid_any
  have hg := eqGuard_v3
  unfold Chg.val rowVal at *
  simp only [Bool.false_eq_true, if_false, if_true] at HB HA
  have HF : Hid (Rw.chg ⟨t, k, false, o0, o1, o2, true, n0, n1, n2⟩ = (Rw.row t k n0 n1 n2 && decide (o0 = 0 ∧ o1 = 0 ∧ o2 = 0))) := Lib.hid (by simp [Rw.chg, Rw.turns, Rw.sound, Bool.and_comm])
  have hq := eql_v3 o0 o1 o2 0 0 0
  generalize hdd : decide (o0 = 0 ∧ o1 = 0 ∧ o2 = 0) = d at *
  generalize hr1 : Rw.row t k n0 n1 n2 = r1 at *
  have HR1 := Lib.hid hr1
  clear hr1 hdd
  go_enter Tryz.func66, Tryz.ntmps66
  go_wp2_with fail
  refine (HB.out _).mono ?_
  rintro e w1 ⟨rfl, f1⟩
  have F1 : Fr [] w w1 := ((Fr.refl _ _).alloc _).trans f1
  have hc := (Blk.new w 65 _).fr f1 (by simp)
  have c0 := hc.cell 0
  have c1 := hc.cell 1
  have c2 := hc.cell 2
  have c3 := hc.cell 3
  have c4 := hc.cell 4
  have c5 := hc.cell 5
  have c6 := hc.cell 6
  have c7 := hc.cell 7
  have c8 := hc.cell 8
  have c9 := hc.cell 9
  have hlt := hc.lt
  clear f1
  go_wp2_with fail
  refine (HA.out _).mono ?_
  rintro e w2 ⟨rfl, f2⟩
  have F2 : Fr [] w w2 := F1.trans (((Fr.refl _ _).alloc _).trans f2)
  have hc2 := (hc.alloc _).fr f2 (by simp)
  have hb2 := (Blk.new w1 67 _).fr f2 (by simp)
  clear c0 c1 c2 c3 c4 c5 c6 c7 c8 c9 hlt hc F1 f2
  have c3 := hc2.cell 3
  have c4 := hc2.cell 4
  have c5 := hc2.cell 5
  have c7 := hc2.cell 7
  have c8 := hc2.cell 8
  have c9 := hc2.cell 9
  have b0 := hb2.cell 0
  have b1 := hb2.cell 1
  have b2 := hb2.cell 2
  have b3 := hb2.cell 3
  have b4 := hb2.cell 4
  have hlt := hc2.lt
  have hlt2 := hb2.lt
  go_wp2_with fail
  refine (HV.out t k n0 n1 n2 _).mono ?_
  rintro e w3 ⟨he, f3⟩
  rw [HR1.out] at he
  subst he
  have F3 := (F2.alloc (.cells #[.int .i64 t, .int .i64 k, .int .i64 n0, .int .i64 n1, .int .i64 n2] 67)).trans f3
  have hc3 := (hc2.alloc _).fr f3 (by simp)
  clear c3 c4 c5 c7 c8 c9 b0 b1 b2 b3 b4 hlt hlt2 f3 F2 hc2
  cases r1
  · go_wp2_with fail
    go_ret
    exact ⟨by rw [HF.out]; rfl, F3⟩
  have c3 := hc3.cell 3
  have c4 := hc3.cell 4
  have c5 := hc3.cell 5
  have c7 := hc3.cell 7
  have c8 := hc3.cell 8
  have c9 := hc3.cell 9
  cases d
  all_goals
    go_wp2_with fail
    go_ret
    exact ⟨by rw [HF.out]; rfl, F3⟩
set_option maxHeartbeats 1000000 in
theorem rfChange_tf (t k o0 o1 o2 n0 n1 n2 : Int) (w : World) : Calls Tryz.prog 66 #[.agg #[.int .i64 t, .int .i64 k, .bool true, .int .i64 o0, .int .i64 o1, .int .i64 o2, .bool false, .int .i64 n0, .int .i64 n1, .int .i64 n2]] w fun e w' => e = .returned (.bool (Rw.chg ⟨t, k, true, o0, o1, o2, false, n0, n1, n2⟩)) ∧ Fr [] w w' := by
  have HB := Lib.hid (rfBefore_any ⟨t, k, true, o0, o1, o2, false, n0, n1, n2⟩)
  have HA := Lib.hid (rfAfter_any ⟨t, k, true, o0, o1, o2, false, n0, n1, n2⟩)
  have HV := Lib.hid rfValid_any
  have hg := eqGuard_v3
  unfold Chg.val rowVal at *
  simp only [Bool.false_eq_true, if_false, if_true] at HB HA
  have HF : Hid (Rw.chg ⟨t, k, true, o0, o1, o2, false, n0, n1, n2⟩ = (Rw.row t k o0 o1 o2 && decide (n0 = 0 ∧ n1 = 0 ∧ n2 = 0))) := Lib.hid (by simp [Rw.chg, Rw.turns, Rw.sound])
  have hq := eql_v3 n0 n1 n2 0 0 0
  generalize hdd : decide (n0 = 0 ∧ n1 = 0 ∧ n2 = 0) = d at *
  generalize hr1 : Rw.row t k o0 o1 o2 = r1 at *
  have HR1 := Lib.hid hr1
  clear hr1 hdd
  go_enter Tryz.func66, Tryz.ntmps66
  go_wp2_with fail
  refine (HB.out _).mono ?_
  rintro e w1 ⟨rfl, f1⟩
  have F1 : Fr [] w w1 := ((Fr.refl _ _).alloc _).trans f1
  have hc := (Blk.new w 65 _).fr f1 (by simp)
  have c0 := hc.cell 0
  have c1 := hc.cell 1
  have c2 := hc.cell 2
  have c3 := hc.cell 3
  have c4 := hc.cell 4
  have c5 := hc.cell 5
  have c6 := hc.cell 6
  have c7 := hc.cell 7
  have c8 := hc.cell 8
  have c9 := hc.cell 9
  have hlt := hc.lt
  clear f1
  go_wp2_with fail
  refine (HA.out _).mono ?_
  rintro e w2 ⟨rfl, f2⟩
  have F2 : Fr [] w w2 := F1.trans (((Fr.refl _ _).alloc _).trans f2)
  have hc2 := (hc.alloc _).fr f2 (by simp)
  have hb2 := (Blk.new w1 67 _).fr f2 (by simp)
  clear c0 c1 c2 c3 c4 c5 c6 c7 c8 c9 hlt hc F1 f2
  have c3 := hc2.cell 3
  have c4 := hc2.cell 4
  have c5 := hc2.cell 5
  have c7 := hc2.cell 7
  have c8 := hc2.cell 8
  have c9 := hc2.cell 9
  have b0 := hb2.cell 0
  have b1 := hb2.cell 1
  have b2 := hb2.cell 2
  have b3 := hb2.cell 3
  have b4 := hb2.cell 4
  have hlt := hc2.lt
  have hlt2 := hb2.lt
  go_wp2_with fail
  refine (HV.out t k o0 o1 o2 _).mono ?_
  rintro e w3 ⟨he, f3⟩
  rw [HR1.out] at he
  subst he
  have F3 := (F2.alloc (.cells #[.int .i64 0, .int .i64 0, .int .i64 0, .int .i64 0, .int .i64 0] 67)).trans f3
  have hc3 := (hc2.alloc _).fr f3 (by simp)
  clear c3 c4 c5 c7 c8 c9 b0 b1 b2 b3 b4 hlt hlt2 f3 F2 hc2
  cases r1
  · go_wp2_with fail
    go_ret
    exact ⟨by rw [HF.out]; rfl, F3⟩
  have c3 := hc3.cell 3
  have c4 := hc3.cell 4
  have c5 := hc3.cell 5
  have c7 := hc3.cell 7
  have c8 := hc3.cell 8
  have c9 := hc3.cell 9
  cases d
  all_goals
    go_wp2_with fail
    go_ret
    exact ⟨by rw [HF.out]; rfl, F3⟩
/-- 'ValidChange'. -/
theorem rfChange_any (c : Chg) (w : World) : Calls Tryz.prog 66 #[c.val] w fun e w' => e = .returned (.bool (Rw.chg c)) ∧ Fr [] w w' := by
  obtain ⟨t, k, had, o0, o1, o2, has, n0, n1, n2⟩ := c
  cases had <;> cases has
  · exact rfChange_ff t k o0 o1 o2 n0 n1 n2 w
  · exact rfChange_ft t k o0 o1 o2 n0 n1 n2 w
  · exact rfChange_tf t k o0 o1 o2 n0 n1 n2 w
  · exact rfChange_tt t k o0 o1 o2 n0 n1 n2 w
end Go.Proofs.YthiaaminkfkjpaaGreat
namespace Go.Proofs.YthiaaminkfkjpaaGreat

/-- A query. -/
structure Qry where
  kind : Int
  table : Int
  column : Int
  low : Int
  high : Int
  by_ : Int
  other : Int
  deriving DecidableEq
@[reducible] def Qry.val (q : Qry) : Value := .agg #[.int .i64 q.kind, .int .i64 q.table, .int .i64 q.column, .int .i64 q.low, .int .i64 q.high, .int .i64 q.by_, .int .i64 q.other]
/-- A result. -/
structure Res where
  rows : List RowV
  value : Int
  found : Bool
  deriving DecidableEq
namespace Em

def within (n a b : Int) : Bool := decide (a ≤ n) && decide (n ≤ b)
def base (q : Qry) : Bool := within q.table 0 3 && (within q.column 0 3 && (within q.low (-1000000000) q.high && decide (q.high ≤ 1000000000)))
def valid (q : Qry) : Bool :=
  if q.kind = 1 then base q && (decide (q.column = 0) && (decide (q.low = q.high) && (within q.low 1 1000000 && (decide (q.by_ = 0) && decide (q.other = 0)))))
  else if q.kind = 7 then base q && (within q.other 0 3 && within q.by_ 1 3)
  else if q.kind = 4 ∨ q.kind = 5 ∨ q.kind = 6 then base q && (within q.by_ 1 3 && decide (q.other = 0))
  else if q.kind = 2 ∨ q.kind = 3 then base q && (decide (q.by_ = 0) && decide (q.other = 0))
  else false
def zero : Res := ⟨[], 0, false⟩
def meas (q : Qry) (l : List RowV) : List Int := l.map (·.value q.by_)
def count (r : Res) (_ : RowV) : Res := ⟨r.rows, r.value + 1, r.found⟩
def plus (r : Res) (n : Int) : Res := ⟨r.rows, r.value + n, r.found⟩
def least (r : Res) (n : Int) : Res := ⟨r.rows, if r.found = false ∨ n < r.value then n else r.value, true⟩
def most (r : Res) (n : Int) : Res := ⟨r.rows, if r.found = false ∨ r.value < n then n else r.value, true⟩
def partner (others : List RowV) (t k : Int) : Option RowV := others.find? (fun x => decide (x.t = t) && decide (x.k = k))
def pair (q : Qry) (others : List RowV) (r : RowV) : List RowV := match partner others q.other (r.value q.by_) with
  | some x => [r, x]
  | none => []
def joined (q : Qry) (rows others : List RowV) : List RowV := rows.flatMap (pair q others)
def res (q : Qry) (rows others : List RowV) : Res :=
  if valid q = true then
    if q.kind = 3 then rows.foldl count zero
    else if q.kind = 4 then (meas q rows).foldl plus zero
    else if q.kind = 5 then (meas q rows).foldl least zero
    else if q.kind = 6 then (meas q rows).foldl most zero
    else if q.kind = 7 then ⟨joined q rows others, 0, false⟩
    else ⟨rows, 0, false⟩
  else zero
end Em
end Go.Proofs.YthiaaminkfkjpaaGreat
