/-
  Reference 07: Touches.
-/
import Derived.Test.YtciaallekkdnhaaGreatRsA
namespace Go.Proofs.YtciaallekkdnhaaGreat
open Go.RowKit

theorem Pm.kind_le {q : Qry} (hv : Em.valid q = true) : 1 ≤ q.kind ∧ q.kind ≤ 7 := by
  unfold Em.valid at hv
  repeat' split at hv
  all_goals first | omega | cases hv
/-- The boxes of a query and a change. -/
structure RtAt (w : World) (gq gc : Nat) (q : Qry) (c : Chg) : Prop where
  q : QAt w gq q
  c : Blk w gc 59 #[.int .i64 c.t, .int .i64 c.k, .bool c.had, .int .i64 c.o0, .int .i64 c.o1, .int .i64 c.o2, .bool c.has, .int .i64 c.n0, .int .i64 c.n1, .int .i64 c.n2]
theorem RtAt.fr0 {w w' : World} {gq gc : Nat} {q : Qry} {c : Chg} (h : RtAt w gq gc q c) (hf : Fr [] w w') : RtAt w' gq gc q c := ⟨h.q.fr hf (by simp), h.c.fr hf (by simp)⟩

set_option maxRecDepth 100000 in
set_option maxHeartbeats 4000000 in
theorem rtouches_any (q : Qry) (c : Chg) (w : World) : Calls Tryz.prog 43 #[q.val, c.val] w fun e' w' => e' = .returned (.bool (Pm.touches q c)) ∧ Fr [] w w' := by
  have F0 : Hid (Fr [] w ((w.alloc (.cells #[.int .i64 q.kind, .int .i64 q.table, .int .i64 q.column, .int .i64 q.low, .int .i64 q.high, .int .i64 q.by_, .int .i64 q.other] 35)).alloc (.cells #[.int .i64 c.t, .int .i64 c.k, .bool c.had, .int .i64 c.o0, .int .i64 c.o1, .int .i64 c.o2, .bool c.has, .int .i64 c.n0, .int .i64 c.n1, .int .i64 c.n2] 59))) := Lib.hid (((Fr.refl [] w).alloc _).alloc _)
  have hb := Blk.new (w.alloc (.cells #[.int .i64 q.kind, .int .i64 q.table, .int .i64 q.column, .int .i64 q.low, .int .i64 q.high, .int .i64 q.by_, .int .i64 q.other] 35)) 59 #[.int .i64 c.t, .int .i64 c.k, .bool c.had, .int .i64 c.o0, .int .i64 c.o1, .int .i64 c.o2, .bool c.has, .int .i64 c.n0, .int .i64 c.n1, .int .i64 c.n2]
  rw [World.size_alloc] at hb
  have AT : Hid (RtAt ((w.alloc (.cells #[.int .i64 q.kind, .int .i64 q.table, .int .i64 q.column, .int .i64 q.low, .int .i64 q.high, .int .i64 q.by_, .int .i64 q.other] 35)).alloc (.cells #[.int .i64 c.t, .int .i64 c.k, .bool c.had, .int .i64 c.o0, .int .i64 c.o1, .int .i64 c.o2, .bool c.has, .int .i64 c.n0, .int .i64 c.n1, .int .i64 c.n2] 59)) w.heap.size (w.heap.size + 1) q c) := Lib.hid ⟨Blk.alloc (QAt.new w q) _, hb⟩
  clear hb
  obtain ⟨o, HRES⟩ : ∃ o, Hid (Pm.touches q c = o) := ⟨_, Lib.hid rfl⟩
  rw [HRES.out]
  have HD : Hid (Pm.touches q c = (Em.valid q && (Rw.chg c && Pm.tk q c))) := Lib.hid rfl
  rw [HD.out] at HRES
  clear HD
  have HV := Lib.hid (fun W => rvalid_any q W)
  have HC := Lib.hid (fun W => rfChange_any c W)
  go_enter Tryz.func43, Tryz.ntmps43
  go_upto_region 1 with (fail)
  generalize ((w.alloc (.cells #[.int .i64 q.kind, .int .i64 q.table, .int .i64 q.column, .int .i64 q.low, .int .i64 q.high, .int .i64 q.by_, .int .i64 q.other] 35)).alloc (.cells #[.int .i64 c.t, .int .i64 c.k, .bool c.had, .int .i64 c.o0, .int .i64 c.o1, .int .i64 c.o2, .bool c.has, .int .i64 c.n0, .int .i64 c.n1, .int .i64 c.n2] 59)) = w2 at *
  obtain ⟨vq, HVQ⟩ : ∃ x, Hid (Em.valid q = x) := ⟨_, Lib.hid rfl⟩
  obtain ⟨vc, HVC⟩ : ∃ x, Hid (Rw.chg c = x) := ⟨_, Lib.hid rfl⟩
  rw [HVQ.out] at HV HRES
  rw [HVC.out] at HC HRES
  have hq : Blk w2 w.heap.size 35 #[.int .i64 q.kind, .int .i64 q.table, .int .i64 q.column, .int .i64 q.low, .int .i64 q.high, .int .i64 q.by_, .int .i64 q.other] := AT.out.q
  go_upto_region 2 with (first
    | (refine wpList_load_row rfl _ _ rfl w.heap.size rfl 35 _ (0, 0) _ hq Tryz.underlying35 rfl (by kernel_rfl) ?_)
    | (go_at_call 37; refine (HV.out _).mono ?_; rintro e w3 ⟨rfl, f3⟩; have F3 := Lib.hid f3; clear f3))
  replace AT := Lib.hid (AT.out.fr0 F3.out)
  replace F0 := Lib.hid (F0.out.trans F3.out)
  clear hq F3 HV
  have hc := AT.out.c
  go_upto_region 3 with (first
    | (refine wpList_load_row rfl _ _ rfl (w.heap.size + 1) rfl 59 _ (0, 0) _ hc Tryz.underlying59 rfl (by kernel_rfl) ?_)
    | (go_at_call 70; refine (HC.out _).mono ?_; rintro e w4 ⟨rfl, f3⟩; have F3 := Lib.hid f3; clear f3))
  replace AT := Lib.hid (AT.out.fr0 F3.out)
  replace F0 := Lib.hid (F0.out.trans F3.out)
  clear hc F3 HC HVC
  cases vq
  · have HO : Hid (o = false) := Lib.hid (by rw [← HRES.out]; rfl)
    go_wp2_with fail
    go_ret
    exact ⟨by rw [HO.out]; rfl, F0.out⟩
  cases vc
  · have HO : Hid (o = false) := Lib.hid (by rw [← HRES.out]; rfl)
    go_wp2_with fail
    go_ret
    exact ⟨by rw [HO.out]; rfl, F0.out⟩
  replace HRES : Hid (Pm.tk q c = o) := Lib.hid (by rw [← HRES.out]; rfl)
  have HC := Lib.hid (fun W => rhad_row c W)
  have hc := AT.out.c
  go_upto_region 6 with (first
    | (refine wpList_load_row rfl _ _ rfl (w.heap.size + 1) rfl 59 _ (0, 0) _ hc Tryz.underlying59 rfl (by kernel_rfl) ?_)
    | (go_at_call 71; refine (HC.out _).mono ?_; rintro e w4 ⟨rfl, f3⟩; have F3 := Lib.hid f3; clear f3))
  clear hc HC
  have f5 := F3.out.alloc (.cells #[.int .i64 (Pm.rowB c).t, .int .i64 (Pm.rowB c).k, .int .i64 (Pm.rowB c).x, .int .i64 (Pm.rowB c).y, .int .i64 (Pm.rowB c).z] 116)
  have Brb := Lib.hid (Blk.new w4 116 #[.int .i64 (Pm.rowB c).t, .int .i64 (Pm.rowB c).k, .int .i64 (Pm.rowB c).x, .int .i64 (Pm.rowB c).y, .int .i64 (Pm.rowB c).z])
  replace AT := Lib.hid (AT.out.fr0 f5)
  replace F0 := Lib.hid (F0.out.trans f5)
  clear f5 F3
  generalize hw5 : w4.alloc (.cells #[.int .i64 (Pm.rowB c).t, .int .i64 (Pm.rowB c).k, .int .i64 (Pm.rowB c).x, .int .i64 (Pm.rowB c).y, .int .i64 (Pm.rowB c).z] 116) = w5 at *
  clear hw5
  generalize w4.heap.size = grb at *
  have HC := Lib.hid (fun W => rhas_row c W)
  have hc := AT.out.c
  go_upto_region 7 with (first
    | (refine wpList_load_row rfl _ _ rfl (w.heap.size + 1) rfl 59 _ (0, 0) _ hc Tryz.underlying59 rfl (by kernel_rfl) ?_)
    | (go_at_call 72; refine (HC.out _).mono ?_; rintro e w4 ⟨rfl, f3⟩; have F3 := Lib.hid f3; clear f3))
  clear hc HC
  have f5 := F3.out.alloc (.cells #[.int .i64 (Pm.rowA c).t, .int .i64 (Pm.rowA c).k, .int .i64 (Pm.rowA c).x, .int .i64 (Pm.rowA c).y, .int .i64 (Pm.rowA c).z] 116)
  have Bra := Lib.hid (Blk.new w4 116 #[.int .i64 (Pm.rowA c).t, .int .i64 (Pm.rowA c).k, .int .i64 (Pm.rowA c).x, .int .i64 (Pm.rowA c).y, .int .i64 (Pm.rowA c).z])
  replace AT := Lib.hid (AT.out.fr0 f5)
  replace F0 := Lib.hid (F0.out.trans f5)
  replace Brb := Lib.hid (Brb.out.fr f5 (by simp))
  clear f5 F3
  generalize hw5 : w4.alloc (.cells #[.int .i64 (Pm.rowA c).t, .int .i64 (Pm.rowA c).k, .int .i64 (Pm.rowA c).x, .int .i64 (Pm.rowA c).y, .int .i64 (Pm.rowA c).z] 116) = w5 at *
  clear hw5
  generalize w4.heap.size = gra at *
  have HC := Lib.hid (fun W => rin_any q (Pm.rowB c) c.had W)
  rw [Pm.inB] at HC
  have hr := Brb.out
  have hq : Blk w5 w.heap.size 35 #[.int .i64 q.kind, .int .i64 q.table, .int .i64 q.column, .int .i64 q.low, .int .i64 q.high, .int .i64 q.by_, .int .i64 q.other] := AT.out.q
  go_upto_region 8 with (first
    | (refine wpList_load_row rfl _ _ rfl w.heap.size rfl 35 _ (0, 0) _ hq Tryz.underlying35 rfl (by kernel_rfl) ?_)
    | (refine wpList_load_row rfl _ _ rfl grb rfl 116 _ (0, 0) _ hr Tryz.underlying116 rfl (by kernel_rfl) ?_)
    | (go_at_call 73; refine (HC.out _).mono ?_; rintro e w4 ⟨rfl, f3⟩; have F3 := Lib.hid f3; clear f3))
  clear hr hq HC
  replace AT := Lib.hid (AT.out.fr0 F3.out)
  replace F0 := Lib.hid (F0.out.trans F3.out)
  replace Brb := Lib.hid (Brb.out.fr F3.out (by simp))
  replace Bra := Lib.hid (Bra.out.fr F3.out (by simp))
  clear F3
  generalize hw5 : w4 = w5 at *
  clear hw5
  have HC := Lib.hid (fun W => rin_any q (Pm.rowA c) c.has W)
  rw [Pm.inA] at HC
  have hr := Bra.out
  have hq : Blk w5 w.heap.size 35 #[.int .i64 q.kind, .int .i64 q.table, .int .i64 q.column, .int .i64 q.low, .int .i64 q.high, .int .i64 q.by_, .int .i64 q.other] := AT.out.q
  go_upto_region 9 with (first
    | (refine wpList_load_row rfl _ _ rfl w.heap.size rfl 35 _ (0, 0) _ hq Tryz.underlying35 rfl (by kernel_rfl) ?_)
    | (refine wpList_load_row rfl _ _ rfl gra rfl 116 _ (0, 0) _ hr Tryz.underlying116 rfl (by kernel_rfl) ?_)
    | (go_at_call 73; refine (HC.out _).mono ?_; rintro e w4 ⟨rfl, f3⟩; have F3 := Lib.hid f3; clear f3))
  clear hr hq HC
  replace AT := Lib.hid (AT.out.fr0 F3.out)
  replace F0 := Lib.hid (F0.out.trans F3.out)
  replace Brb := Lib.hid (Brb.out.fr F3.out (by simp))
  replace Bra := Lib.hid (Bra.out.fr F3.out (by simp))
  clear F3
  generalize hw5 : w4 = w5 at *
  clear hw5
  have HC := Lib.hid (fun W => rmeasure_any q (Pm.rowB c) (Pm.B q c).isSome W)
  rw [Pm.mB] at HC
  have hr := Brb.out
  have hq : Blk w5 w.heap.size 35 #[.int .i64 q.kind, .int .i64 q.table, .int .i64 q.column, .int .i64 q.low, .int .i64 q.high, .int .i64 q.by_, .int .i64 q.other] := AT.out.q
  go_upto_region 10 with (first
    | (refine wpList_load_row rfl _ _ rfl w.heap.size rfl 35 _ (0, 0) _ hq Tryz.underlying35 rfl (by kernel_rfl) ?_)
    | (refine wpList_load_row rfl _ _ rfl grb rfl 116 _ (0, 0) _ hr Tryz.underlying116 rfl (by kernel_rfl) ?_)
    | (go_at_call 74; refine (HC.out _).mono ?_; rintro e w4 ⟨rfl, f3⟩; have F3 := Lib.hid f3; clear f3))
  clear hr hq HC
  replace AT := Lib.hid (AT.out.fr0 F3.out)
  replace F0 := Lib.hid (F0.out.trans F3.out)
  replace Brb := Lib.hid (Brb.out.fr F3.out (by simp))
  replace Bra := Lib.hid (Bra.out.fr F3.out (by simp))
  clear F3
  generalize hw5 : w4 = w5 at *
  clear hw5
  have HC := Lib.hid (fun W => rmeasure_any q (Pm.rowA c) (Pm.A q c).isSome W)
  rw [Pm.mA] at HC
  have hr := Bra.out
  have hq : Blk w5 w.heap.size 35 #[.int .i64 q.kind, .int .i64 q.table, .int .i64 q.column, .int .i64 q.low, .int .i64 q.high, .int .i64 q.by_, .int .i64 q.other] := AT.out.q
  go_upto_region 11 with (first
    | (refine wpList_load_row rfl _ _ rfl w.heap.size rfl 35 _ (0, 0) _ hq Tryz.underlying35 rfl (by kernel_rfl) ?_)
    | (refine wpList_load_row rfl _ _ rfl gra rfl 116 _ (0, 0) _ hr Tryz.underlying116 rfl (by kernel_rfl) ?_)
    | (go_at_call 74; refine (HC.out _).mono ?_; rintro e w4 ⟨rfl, f3⟩; have F3 := Lib.hid f3; clear f3))
  clear hr hq HC
  replace AT := Lib.hid (AT.out.fr0 F3.out)
  replace F0 := Lib.hid (F0.out.trans F3.out)
  replace Brb := Lib.hid (Brb.out.fr F3.out (by simp))
  replace Bra := Lib.hid (Bra.out.fr F3.out (by simp))
  clear F3
  generalize hw5 : w4 = w5 at *
  clear hw5
  clear Brb Bra
  have HT : Hid (Pm.tk q c = (if q.kind = 3 then (Pm.B q c).isSome != (Pm.A q c).isSome else if q.kind = 4 then !decide (Pm.old q c = Pm.now q c) else if q.kind = 5 ∨ q.kind = 6 then ((Pm.B q c).isSome != (Pm.A q c).isSome) || !decide (Pm.old q c = Pm.now q c) else if q.kind = 7 then ((Pm.B q c).isSome || (Pm.A q c).isSome) || decide (c.t = q.other) else (Pm.B q c).isSome || (Pm.A q c).isSome)) := Lib.hid rfl
  rw [HT.out] at HRES
  clear HT
  generalize (Pm.B q c).isSome = sb at *
  generalize (Pm.A q c).isSome = sa at *
  generalize Pm.old q c = m at *
  generalize Pm.now q c = n at *
  obtain ⟨kd, HKD⟩ : ∃ k, Hid (q.kind = k) := ⟨_, Lib.hid rfl⟩
  rw [HKD.out] at HRES
  have q0 := AT.out.q.c0
  have q6 := AT.out.q.c6
  rw [HKD.out] at q0
  have c0 : w5.cell? ⟨w.heap.size + 1, 0, none⟩ = some (.int .i64 c.t) := AT.out.c.cell 0
  have HKB := Lib.hid (Pm.kind_le HVQ.out)
  rw [HKD.out] at HKB
  clear HKD HVQ
  by_cases k1 : kd = 1
  · subst k1
    have HO : Hid (o = (sb || sa)) := Lib.hid (by rw [← HRES.out]; rfl)
    clear HRES
    cases sb <;> cases sa <;> (go_wp2_with fail; go_ret; exact ⟨by rw [HO.out]; rfl, F0.out⟩)
  have k1' : (kd == 1) = false := by simpa using k1
  by_cases k2 : kd = 2
  · subst k2
    have HO : Hid (o = (sb || sa)) := Lib.hid (by rw [← HRES.out]; rfl)
    clear HRES
    cases sb <;> cases sa <;> (go_wp2_with fail; go_ret; exact ⟨by rw [HO.out]; rfl, F0.out⟩)
  have k2' : (kd == 2) = false := by simpa using k2
  by_cases k3 : kd = 3
  · subst k3
    have HO : Hid (o = (sb != sa)) := Lib.hid (by rw [← HRES.out]; rfl)
    clear HRES
    cases sb <;> cases sa <;> (go_wp2_with fail; go_ret; exact ⟨by rw [HO.out]; rfl, F0.out⟩)
  have k3' : (kd == 3) = false := by simpa using k3
  by_cases k4 : kd = 4
  · subst k4
    have HO : Hid (o = (!decide (m = n))) := Lib.hid (by rw [← HRES.out]; rfl)
    clear HRES
    by_cases e : m = n
    · replace HO : Hid (o = false) := Lib.hid (by rw [HO.out, decide_eq_true e]; rfl)
      have e' : (m == n) = true := by simpa using e
      have e2 : (m != n) = false := by simpa using e
      clear e
      go_wp2_with fail; go_ret; exact ⟨by rw [HO.out]; rfl, F0.out⟩
    · replace HO : Hid (o = true) := Lib.hid (by rw [HO.out, decide_eq_false e]; rfl)
      have e' : (m == n) = false := by simpa using e
      have e2 : (m != n) = true := by simpa using e
      clear e
      go_wp2_with fail; go_ret; exact ⟨by rw [HO.out]; rfl, F0.out⟩
  have k4' : (kd == 4) = false := by simpa using k4
  by_cases k5 : kd = 5
  · subst k5
    have HO : Hid (o = ((sb != sa) || !decide (m = n))) := Lib.hid (by rw [← HRES.out]; rfl)
    clear HRES
    by_cases e : m = n
    · replace HO : Hid (o = (sb != sa)) := Lib.hid (by rw [HO.out, decide_eq_true e]; simp)
      have e' : (m == n) = true := by simpa using e
      have e2 : (m != n) = false := by simpa using e
      clear e
      cases sb <;> cases sa <;> (go_wp2_with fail; go_ret; exact ⟨by rw [HO.out]; rfl, F0.out⟩)
    · replace HO : Hid (o = true) := Lib.hid (by rw [HO.out, decide_eq_false e]; simp)
      have e' : (m == n) = false := by simpa using e
      have e2 : (m != n) = true := by simpa using e
      clear e
      cases sb <;> cases sa <;> (go_wp2_with fail; go_ret; exact ⟨by rw [HO.out]; rfl, F0.out⟩)
  have k5' : (kd == 5) = false := by simpa using k5
  by_cases k6 : kd = 6
  · subst k6
    have HO : Hid (o = ((sb != sa) || !decide (m = n))) := Lib.hid (by rw [← HRES.out]; rfl)
    clear HRES
    by_cases e : m = n
    · replace HO : Hid (o = (sb != sa)) := Lib.hid (by rw [HO.out, decide_eq_true e]; simp)
      have e' : (m == n) = true := by simpa using e
      have e2 : (m != n) = false := by simpa using e
      clear e
      cases sb <;> cases sa <;> (go_wp2_with fail; go_ret; exact ⟨by rw [HO.out]; rfl, F0.out⟩)
    · replace HO : Hid (o = true) := Lib.hid (by rw [HO.out, decide_eq_false e]; simp)
      have e' : (m == n) = false := by simpa using e
      have e2 : (m != n) = true := by simpa using e
      clear e
      cases sb <;> cases sa <;> (go_wp2_with fail; go_ret; exact ⟨by rw [HO.out]; rfl, F0.out⟩)
  have k6' : (kd == 6) = false := by simpa using k6
  obtain rfl : kd = 7 := by have := HKB.out; omega
  clear k1 k2 k3 k4 k5 k6
  have HO : Hid (o = ((sb || sa) || decide (c.t = q.other))) := Lib.hid (by rw [← HRES.out]; rfl)
  clear HRES
  by_cases e : c.t = q.other
  · replace HO : Hid (o = true) := Lib.hid (by rw [HO.out, decide_eq_true e]; simp)
    have e' : (c.t == q.other) = true := by simpa using e
    clear e
    cases sb <;> cases sa <;> (go_wp2_with fail; go_ret; exact ⟨by rw [HO.out]; rfl, F0.out⟩)
  · replace HO : Hid (o = (sb || sa)) := Lib.hid (by rw [HO.out, decide_eq_false e]; simp)
    have e' : (c.t == q.other) = false := by simpa using e
    clear e
    cases sb <;> cases sa <;> (go_wp2_with fail; go_ret; exact ⟨by rw [HO.out]; rfl, F0.out⟩)
end Go.Proofs.YtciaallekkdnhaaGreat
