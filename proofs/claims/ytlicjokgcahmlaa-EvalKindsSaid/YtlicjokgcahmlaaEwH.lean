/-
  EvalKinds: the walk of the law.
-/
import Derived.Test.YtlicjokgcahmlaaEwI
import Derived.BigQuiet
namespace Go.Proofs.Ytlicjokgcahmlaa
open Go.RowKit

theorem QrOk.two {k t c lo hi b o : Int} (h : QrOk ⟨k, t, c, lo, hi, b, o⟩) (hk : k = 2) : b = 0 ∧ o = 0 := by
  have hv := h.valid
  subst hk
  unfold Em.valid at hv
  simp at hv
  exact ⟨hv.2.1, hv.2.2⟩
/-- A valid range of the laws' tables. -/
structure RgOk (t c lo hi : Int) : Prop where
  t : 0 ≤ t ∧ t ≤ 1
  c : 0 ≤ c ∧ c ≤ 3
  lo : -3 ≤ lo ∧ lo ≤ hi ∧ hi ≤ 40
theorem RgOk.v2 {t c lo hi : Int} (h : RgOk t c lo hi) : Em.valid ⟨2, t, c, lo, hi, 0, 0⟩ = true := by
  obtain ⟨h1, h2, h3⟩ := h
  unfold Em.valid Em.base Em.within
  simp
  omega
theorem RgOk.v3 {t c lo hi : Int} (h : RgOk t c lo hi) : Em.valid ⟨3, t, c, lo, hi, 0, 0⟩ = true := by
  obtain ⟨h1, h2, h3⟩ := h
  unfold Em.valid Em.base Em.within
  simp
  omega
theorem RgOk.v4 {t c lo hi b : Int} (h : RgOk t c lo hi) (hb : 1 ≤ b ∧ b ≤ 3) : Em.valid ⟨4, t, c, lo, hi, b, 0⟩ = true := by
  obtain ⟨h1, h2, h3⟩ := h
  unfold Em.valid Em.base Em.within
  simp
  omega
theorem RgOk.v5 {t c lo hi b : Int} (h : RgOk t c lo hi) (hb : 1 ≤ b ∧ b ≤ 3) : Em.valid ⟨5, t, c, lo, hi, b, 0⟩ = true := by
  obtain ⟨h1, h2, h3⟩ := h
  unfold Em.valid Em.base Em.within
  simp
  omega
theorem RgOk.v6 {t c lo hi b : Int} (h : RgOk t c lo hi) (hb : 1 ≤ b ∧ b ≤ 3) : Em.valid ⟨6, t, c, lo, hi, b, 0⟩ = true := by
  obtain ⟨h1, h2, h3⟩ := h
  unfold Em.valid Em.base Em.within
  simp
  omega
theorem RgOk.v7 {t c lo hi b o : Int} (h : RgOk t c lo hi) (hb : 1 ≤ b ∧ b ≤ 3) (ho : 0 ≤ o ∧ o ≤ 1) : Em.valid ⟨7, t, c, lo, hi, b, o⟩ = true := by
  obtain ⟨h1, h2, h3⟩ := h
  unfold Em.valid Em.base Em.within
  simp
  omega
theorem any_snoc (l : List Int) (x v : Int) : (l ++ [x]).any (· == v) = (l.any (· == v) || (x == v)) := by simp
theorem Em.IsMin.any {l : List Int} {v : Int} {f : Bool} (h : Em.IsMin l v f) : l.any (· == v) = f := by
  rw [h.found]
  cases l with
  | nil => rfl
  | cons x l =>
    have := h.mem (by simp)
    simp only [List.isEmpty_cons, Bool.not_false, List.any_eq_true]
    exact ⟨v, this, by simp⟩
/-- The seven cells of a query laid anew. -/
theorem QAt.lay {w wc : World} {g : Nat} {q q' : Qry} (h : QAt wc g q) (hf : Fr [] w wc) (hg : w.heap.size ≤ g) : QAt (lay7 wc g q') g q' ∧ Fr [] w (lay7 wc g q') := by
  have h2 := ((((((Blk.set_ h 0 (.int .i64 q'.kind)).set_ 1 (.int .i64 q'.table)).set_ 2 (.int .i64 q'.column)).set_ 3 (.int .i64 q'.low)).set_ 4 (.int .i64 q'.high)).set_ 5 (.int .i64 q'.by_)).set_ 6 (.int .i64 q'.other)
  simp only [List.setIfInBounds_toArray, List.set_cons_zero, List.set_cons_succ] at h2
  exact ⟨h2, ((((((hf.setCell (p := ⟨g, 0, none⟩) (.inr hg) (.int .i64 q'.kind)).setCell (p := ⟨g, 1, none⟩) (.inr hg) (.int .i64 q'.table)).setCell (p := ⟨g, 2, none⟩) (.inr hg) (.int .i64 q'.column)).setCell (p := ⟨g, 3, none⟩) (.inr hg) (.int .i64 q'.low)).setCell (p := ⟨g, 4, none⟩) (.inr hg) (.int .i64 q'.high)).setCell (p := ⟨g, 5, none⟩) (.inr hg) (.int .i64 q'.by_)).setCell (p := ⟨g, 6, none⟩) (.inr hg) (.int .i64 q'.other)⟩

set_option maxRecDepth 100000 in
set_option maxHeartbeats 8000000 in
theorem kinds_walk (A : Option Addr) (n cap : Nat) (x0 x1 x2 x3 by_ : Int) (w : World) (hn : n ≤ cap) (hcap : cap ≤ maxLen) (hx : Fours w A n) (o0 : okI x0) (o1 : okI x1) (o2 : okI x2) (o3 : okI x3) (ob : okI by_) :
    Calls Try.prog 5 #[.slice A n cap, .agg #[.int .i64 x0, .int .i64 x1, .int .i64 x2, .int .i64 x3], .int .i64 by_] w fun e w' => e = .returned (.bool true) ∧ Below w.heap.size w w' := by
  have F0 := (Fr.refl [] w).alloc (.cells #[.int .i64 x0, .int .i64 x1, .int .i64 x2, .int .i64 x3] 24)
  have HX := Lib.hid (hx.fr0 F0)
  have H4 : Hid (Four (w.alloc (.cells #[.int .i64 x0, .int .i64 x1, .int .i64 x2, .int .i64 x3] 24)) w.heap.size x0 x1 x2 x3) := Lib.hid (Blk.new _ _ _)
  have HF0 := Lib.hid F0
  obtain ⟨p1, b1, -, K1⟩ := pick_is2 ob (n := 3) (by decide) (by decide)
  obtain ⟨p2, b2, -, K2⟩ := pick_is2 ob (n := 2) (by decide) (by decide)
  obtain ⟨p3, b3, -, K3⟩ := pick_is o0 (n := 2) (by decide) (by decide)
  obtain ⟨p4, b4, -, K4⟩ := pick_is o1 (n := 4) (by decide) (by decide)
  obtain ⟨p5, b5, -, K5⟩ := pick_is o2 (n := 10) (by decide) (by decide)
  have O1 := Lib.hid o1
  have O2 := Lib.hid o2
  have O3 := Lib.hid o3
  clear hx o0 o1 o2 o3 ob F0
  go_enter Try.func5, Try.ntmps5
  go_upto_region 4 with (first
    | (go_at_call 11; refine (sane6_any _).mono ?_; rintro e wa ⟨rfl, fa⟩; have FA := Lib.hid fa; clear fa)
    | (go_at_call 24; refine (state6_any A n cap _ hn hcap (HX.out.fr0 FA.out)).mono ?_; rintro e wb ⟨bs, m, out, rfl, hst, hok, hol, fb⟩; have HST0 := Lib.hid hst; have HCG := Lib.hid hok; have HOL := Lib.hid hol; have FB := Lib.hid (FA.out.trans fb); have H4b := Lib.hid (H4.out.fr FB.out (by simp)); have g0 := H4b.out.cells.1; have g1 := H4b.out.cells.2.1; have g2 := H4b.out.cells.2.2.1; have g3 := H4b.out.cells.2.2.2; clear hst hok hol fb)
    | (go_at_call 12; refine (query6_any _ x1 x2 x3 _ (by first | exact okI_wrap64 _ | exact okI_wrap _) O1.out O2.out O3.out).mono ?_; rintro e w1 ⟨⟨qk, qt, qc, ql, qh, qb, qo⟩, rfl, hq, f1⟩; have HQ := Lib.hid hq; have F1 := Lib.hid f1; clear hq f1))
  clear g0 g1 g2 g3 H4 HX
  have HST := Lib.hid (HST0.out.fr0 F1.out)
  have FW := Lib.hid ((HF0.out.trans FB.out).trans F1.out)
  have SN0 : Hid (Sn w1 (w1.alloc (.cells #[.int .i64 qk, .int .i64 qt, .int .i64 qc, .int .i64 ql, .int .i64 qh, .int .i64 qb, .int .i64 qo] 23)) w1.heap.size ⟨qk, qt, qc, ql, qh, qb, qo⟩) := Lib.hid ⟨(Fr.refl _ _).alloc _, QAt.new w1 ⟨qk, qt, qc, ql, qh, qb, qo⟩, Nat.le_refl _⟩
  have H4c := Lib.hid ((H4b.out.fr F1.out (by simp)).fr SN0.out.fr (by simp))
  have HSND := Lib.hid (Lg.run_sound out)
  have HSOK := Lib.hid (Lg.run_ok out)
  clear HST0 FB F1 H4b FA HF0
  generalize hwa : w1.alloc (.cells #[.int .i64 qk, .int .i64 qt, .int .i64 qc, .int .i64 ql, .int .i64 qh, .int .i64 qb, .int .i64 qo] 23) = wa0 at *
  clear hwa
  obtain ⟨gq, hgq⟩ : ∃ g, w1.heap.size = g := ⟨_, rfl⟩
  rw [hgq] at SN0 ⊢
  have HGQ : Hid (w1.heap.size ≤ gq) := Lib.hid (Nat.le_of_eq hgq)
  clear hgq
  have HQB := HQ.out
  have hqt := HQB.t
  have hqc := HQB.c
  have hql := HQB.lo
  dsimp only at hqt hqc hql
  clear HQB
  have c0 : wa0.cell? ⟨gq, 0, none⟩ = some (.int .i64 qk) := SN0.out.q.c0
  go_upto_if 45 with fail
  go_cut [] (fun wc => ∃ t c lo hi : Int, Hid (RgOk t c lo hi) ∧ Hid (Sn w1 wc gq ⟨2, t, c, lo, hi, 0, 0⟩))
  case first =>
    by_cases hk : qk = 2
    · have hz := HQ.out.two hk
      have ek : (qk == 2) = true := by simp [hk]
      have HK := Lib.hid hk
      have HZ := Lib.hid hz
      clear hk hz
      go_wp2_with fail
      go_meet
      refine ⟨qt, qc, ql, qh, Lib.hid ⟨hqt, hqc, hql⟩, ?_⟩
      have h := SN0
      rw [HK.out, HZ.out.1, HZ.out.2] at h
      exact h
    · have ek : (qk == 2) = false := by simp [hk]
      go_upto_region 5 with (fail)
      have hl := Blk.lt H4c.out
      have a0 : ∀ p : Later wa0, p.w.cell? ⟨w.heap.size, 0, none⟩ = some (.int .i64 x0) := fun p => p.cell hl H4c.out.cells.1
      have a1 : ∀ p : Later wa0, p.w.cell? ⟨w.heap.size, 1, none⟩ = some (.int .i64 x1) := fun p => p.cell hl H4c.out.cells.2.1
      have a2 : ∀ p : Later wa0, p.w.cell? ⟨w.heap.size, 2, none⟩ = some (.int .i64 x2) := fun p => p.cell hl H4c.out.cells.2.2.1
      clear hl
      refine wp_region_quiet_tail (C := fun w' => ∃ p : Later wa0, w' = p.w) 10 (by kernel_rfl) (by kernel_rfl) ⟨⟨_, (Fr.refl [] wa0).drew⟩, rfl⟩ ?_
      simp only [List.take_succ_cons, List.take_zero, List.drop_succ_cons, List.drop_zero]
      repeat (go_big_quiet_step (first | (with_reducible exact Later.calls (K3.out _)) | (with_reducible exact Later.calls (K4.out _)) | (with_reducible exact Later.calls (K5.out _))))
      refine wpQuiet_nil ?_
      rintro wq ⟨p, hp⟩
      have fq : Fr [] wa0 wq := hp ▸ p.fr
      clear hp p a0 a1 a2 c0
      have SQ := Lib.hid (SN0.out.fr0 fq)
      clear fq
      have z0 := SQ.out.q.z 0
      have z1 := SQ.out.q.z 1
      have z2 := SQ.out.q.z 2
      have z3 := SQ.out.q.z 3
      have z4 := SQ.out.q.z 4
      have z5 := SQ.out.q.z 5
      have z6 := SQ.out.q.z 6
      have c0 := SQ.out.q.c0
      have c1 := SQ.out.q.c1
      have c2 := SQ.out.q.c2
      have c3 := SQ.out.q.c3
      have c4 := SQ.out.q.c4
      have c5 := SQ.out.q.c5
      have c6 := SQ.out.q.c6
      go_wp2_with fail
      go_meet
      obtain ⟨h1, h2⟩ := QAt.lay (q' := ⟨2, p3, p4, p5, 12, 0, 0⟩) SQ.out.q SQ.out.fr HGQ.out
      exact ⟨p3, p4, p5, 12, Lib.hid ⟨by omega, by omega, by omega⟩, Lib.hid ⟨h2, h1, HGQ.out⟩⟩
  case rest =>
  obtain ⟨t, c, lo, hi, HRG, SN⟩ := hcut
  clear SN0 H4c HQ hqt hqc hql c0 K3 K4 K5 b3 b4 b5 O1 O2 O3
  obtain ⟨b, hb, HB⟩ : ∃ b, (1 ≤ b ∧ b ≤ 3) ∧ Hid (1 + p1 = b) := ⟨_, by omega, Lib.hid rfl⟩
  have HV2 := Lib.hid HRG.out.v2
  have HV3 := Lib.hid HRG.out.v3
  have HV4 := Lib.hid (HRG.out.v4 hb)
  have HV5 := Lib.hid (HRG.out.v5 hb)
  have HV6 := Lib.hid (HRG.out.v6 hb)
  have HV7 := Lib.hid (HRG.out.v7 hb (o := p2) (by omega))
  obtain ⟨R, HR⟩ : ∃ R, Hid (Em.sel (Lg.run out) c (inRng t c lo hi) = R) := ⟨_, Lib.hid rfl⟩
  have HRL : Hid (R.length ≤ 2000) := Lib.hid (by rw [← HR.out]; exact (Em.sel_picked _ _ _).len HSOK.out)
  have HRV : Hid (∀ r ∈ R, -1000000000 ≤ r.value b ∧ r.value b ≤ 1000000000) := Lib.hid (fun r hr => by rw [← HR.out] at hr; exact RowV.value_bounds ((Em.sel_picked _ _ _).vals HSND.out hr) b)
  have HO2 : Hid (Em.of (Lg.run out) ⟨2, t, c, lo, hi, 0, 0⟩ = ⟨R, 0, false⟩) := Lib.hid (by rw [← HR.out]; exact Em.of_rows HV2.out (.inr rfl))
  have HO3 : Hid (Em.of (Lg.run out) ⟨3, t, c, lo, hi, 0, 0⟩ = ⟨[], R.length, false⟩) := Lib.hid (by rw [← HR.out]; exact Em.of_count HV3.out rfl)
  obtain ⟨ML, HML⟩ : ∃ L, Hid (R.map (·.value b) = L) := ⟨_, Lib.hid rfl⟩
  have HO4 : Hid (Em.of (Lg.run out) ⟨4, t, c, lo, hi, b, 0⟩ = ⟨[], Em.tot ML, false⟩) := Lib.hid (by rw [← HML.out, ← HR.out]; exact Em.of_sum HV4.out rfl)
  obtain ⟨mn, fm, HO5, HMN⟩ : ∃ v f, Hid (Em.of (Lg.run out) ⟨5, t, c, lo, hi, b, 0⟩ = ⟨[], v, f⟩) ∧ Hid (Em.IsMin ML v f) := by
    obtain ⟨v, f, h1, h2⟩ := Em.of_min (s := Lg.run out) HV5.out rfl
    exact ⟨v, f, Lib.hid h1, Lib.hid (by rw [← HML.out, ← HR.out]; exact h2)⟩
  obtain ⟨mx, fx, HO6, HMX⟩ : ∃ v f, Hid (Em.of (Lg.run out) ⟨6, t, c, lo, hi, b, 0⟩ = ⟨[], v, f⟩) ∧ Hid (Em.IsMax ML v f) := by
    obtain ⟨v, f, h1, h2⟩ := Em.of_max (s := Lg.run out) HV6.out rfl
    exact ⟨v, f, Lib.hid h1, Lib.hid (by rw [← HML.out, ← HR.out]; exact h2)⟩
  obtain ⟨J, HO7, HJ⟩ : ∃ J, Hid (Em.of (Lg.run out) ⟨7, t, c, lo, hi, b, p2⟩ = ⟨J, 0, false⟩) ∧ Hid (J.length ≤ 2 * R.length) :=
    ⟨_, Lib.hid (Em.of_join HV7.out rfl), Lib.hid (by rw [← HR.out]; exact Em.joined_len _ _ _)⟩
  generalize Lg.run out = st at *

  have c0 : wc.cell? ⟨gq, 0, none⟩ = some (.int .i64 (2)) := SN.out.q.c0
  have c1 : wc.cell? ⟨gq, 1, none⟩ = some (.int .i64 (t)) := SN.out.q.c1
  have c2 : wc.cell? ⟨gq, 2, none⟩ = some (.int .i64 (c)) := SN.out.q.c2
  have c3 : wc.cell? ⟨gq, 3, none⟩ = some (.int .i64 (lo)) := SN.out.q.c3
  have c4 : wc.cell? ⟨gq, 4, none⟩ = some (.int .i64 (hi)) := SN.out.q.c4
  have c5 : wc.cell? ⟨gq, 5, none⟩ = some (.int .i64 (0)) := SN.out.q.c5
  have c6 : wc.cell? ⟨gq, 6, none⟩ = some (.int .i64 (0)) := SN.out.q.c6
  go_upto_region 9 with (go_at_call 22; refine (eof_is (HST.out.fr0 SN.out.fr) HSND.out (q := ⟨2, t, c, lo, hi, 0, 0⟩) HV2.out HO2.out).mono ?_; rintro e wx ⟨Aa, na, ka, rfl, hna, hl, fx, had⟩; have HNa := Lib.hid hna; have FX := Lib.hid fx; have La := Lib.hid hl; have ND := Lib.hid had; clear fx hna hl had)
  clear c0 c1 c2 c3 c4 c5 c6
  have FZ := FX.out.alloc (.cells #[.slice Aa na ka, .int .i64 (0), .bool false] 27)
  replace La := Lib.hid (La.out.fr0 ((Fr.refl [] wx).alloc (.cells #[.slice Aa na ka, .int .i64 (0), .bool false] 27)))
  have Na : Hid (∀ ad, Aa = some ad → gq < ad.block) := Lib.hid (fun ad e => Nat.lt_of_lt_of_le (Blk.lt SN.out.q) (ND.out ad e))
  have Ra := Lib.hid (RsAt.new wx (.slice Aa na ka) (0) false)
  have SN1 := Lib.hid (SN.out.fr0 FZ)
  clear FZ FX ND 
  generalize hwz : wx.alloc (.cells #[.slice Aa na ka, .int .i64 (0), .bool false] 27) = wa1 at *
  clear hwz SN
  generalize wx.heap.size = ga at *
  have z0 := SN1.out.q.z 0
  have c0 : wa1.cell? ⟨gq, 0, none⟩ = some (.int .i64 (2)) := SN1.out.q.c0
  go_upto_region 10 with (fail)
  clear z0 c0
  have FZ : Fr [gq] wa1 (wa1.setCell ⟨gq, 0, none⟩ (.int .i64 (3))) := frq_set
  replace Ra := Lib.hid (Ra.out.frq SN1.out.q FZ)
  replace La := Lib.hid (AtL.frq La.out Na.out FZ)
  have SN2 : Hid (Sn w1 (wa1.setCell ⟨gq, 0, none⟩ (.int .i64 (3))) gq ⟨3, t, c, lo, hi, 0, 0⟩) := Lib.hid (SN1.out.set0 (3))
  clear FZ
  generalize hwz : wa1.setCell ⟨gq, 0, none⟩ (.int .i64 (3)) = wq2 at *
  clear hwz SN1
  have c0 : wq2.cell? ⟨gq, 0, none⟩ = some (.int .i64 (3)) := SN2.out.q.c0
  have c1 : wq2.cell? ⟨gq, 1, none⟩ = some (.int .i64 (t)) := SN2.out.q.c1
  have c2 : wq2.cell? ⟨gq, 2, none⟩ = some (.int .i64 (c)) := SN2.out.q.c2
  have c3 : wq2.cell? ⟨gq, 3, none⟩ = some (.int .i64 (lo)) := SN2.out.q.c3
  have c4 : wq2.cell? ⟨gq, 4, none⟩ = some (.int .i64 (hi)) := SN2.out.q.c4
  have c5 : wq2.cell? ⟨gq, 5, none⟩ = some (.int .i64 (0)) := SN2.out.q.c5
  have c6 : wq2.cell? ⟨gq, 6, none⟩ = some (.int .i64 (0)) := SN2.out.q.c6
  go_upto_region 11 with (go_at_call 22; refine (eof_is (HST.out.fr0 SN2.out.fr) HSND.out (q := ⟨3, t, c, lo, hi, 0, 0⟩) HV3.out HO3.out).mono ?_; rintro e wx ⟨Ab, nb, kb, rfl, hnb, hl, fx, had⟩; have HNb := Lib.hid hnb; have FX := Lib.hid fx; have Lb := Lib.hid hl; have ND := Lib.hid had; clear fx hnb hl had)
  clear c0 c1 c2 c3 c4 c5 c6
  have FZ := FX.out.alloc (.cells #[.slice Ab nb kb, .int .i64 (R.length), .bool false] 27)
  replace Ra := Lib.hid (Ra.out.fr FZ (by simp))
  replace La := Lib.hid (La.out.fr0 FZ)
  have Rb := Lib.hid (RsAt.new wx (.slice Ab nb kb) (R.length) false)
  have SN3 := Lib.hid (SN2.out.fr0 FZ)
  clear FZ FX ND Lb
  generalize hwz : wx.alloc (.cells #[.slice Ab nb kb, .int .i64 (R.length), .bool false] 27) = wb3 at *
  clear hwz SN2
  generalize wx.heap.size = gb at *
  have z5 := SN3.out.q.z 5
  have c5 : wb3.cell? ⟨gq, 5, none⟩ = some (.int .i64 (0)) := SN3.out.q.c5
  go_upto_region 12 with (go_at_call 25; refine (K1.out _).mono ?_; rintro e w' ⟨rfl, rfl⟩)
  clear z5 c5
  have FZ : Fr [gq] wb3 (wb3.setCell ⟨gq, 5, none⟩ (.int .i64 (1 + p1))) := frq_set
  replace Ra := Lib.hid (Ra.out.frq SN3.out.q FZ)
  replace Rb := Lib.hid (Rb.out.frq SN3.out.q FZ)
  replace La := Lib.hid (AtL.frq La.out Na.out FZ)
  have SN4 : Hid (Sn w1 (wb3.setCell ⟨gq, 5, none⟩ (.int .i64 (1 + p1))) gq ⟨3, t, c, lo, hi, 1 + p1, 0⟩) := Lib.hid (SN3.out.set5 (1 + p1))
  clear FZ
  generalize hwz : wb3.setCell ⟨gq, 5, none⟩ (.int .i64 (1 + p1)) = wq4 at *
  clear hwz SN3
  rw [HB.out] at SN4
  have z0 := SN4.out.q.z 0
  have c0 : wq4.cell? ⟨gq, 0, none⟩ = some (.int .i64 (3)) := SN4.out.q.c0
  go_upto_region 13 with (fail)
  clear z0 c0
  have FZ : Fr [gq] wq4 (wq4.setCell ⟨gq, 0, none⟩ (.int .i64 (4))) := frq_set
  replace Ra := Lib.hid (Ra.out.frq SN4.out.q FZ)
  replace Rb := Lib.hid (Rb.out.frq SN4.out.q FZ)
  replace La := Lib.hid (AtL.frq La.out Na.out FZ)
  have SN5 : Hid (Sn w1 (wq4.setCell ⟨gq, 0, none⟩ (.int .i64 (4))) gq ⟨4, t, c, lo, hi, b, 0⟩) := Lib.hid (SN4.out.set0 (4))
  clear FZ
  generalize hwz : wq4.setCell ⟨gq, 0, none⟩ (.int .i64 (4)) = wq5 at *
  clear hwz SN4
  have c0 : wq5.cell? ⟨gq, 0, none⟩ = some (.int .i64 (4)) := SN5.out.q.c0
  have c1 : wq5.cell? ⟨gq, 1, none⟩ = some (.int .i64 (t)) := SN5.out.q.c1
  have c2 : wq5.cell? ⟨gq, 2, none⟩ = some (.int .i64 (c)) := SN5.out.q.c2
  have c3 : wq5.cell? ⟨gq, 3, none⟩ = some (.int .i64 (lo)) := SN5.out.q.c3
  have c4 : wq5.cell? ⟨gq, 4, none⟩ = some (.int .i64 (hi)) := SN5.out.q.c4
  have c5 : wq5.cell? ⟨gq, 5, none⟩ = some (.int .i64 (b)) := SN5.out.q.c5
  have c6 : wq5.cell? ⟨gq, 6, none⟩ = some (.int .i64 (0)) := SN5.out.q.c6
  go_upto_region 14 with (go_at_call 22; refine (eof_is (HST.out.fr0 SN5.out.fr) HSND.out (q := ⟨4, t, c, lo, hi, b, 0⟩) HV4.out HO4.out).mono ?_; rintro e wx ⟨Ac, nc, kc, rfl, hnc, hl, fx, had⟩; have HNc := Lib.hid hnc; have FX := Lib.hid fx; have Lc := Lib.hid hl; have ND := Lib.hid had; clear fx hnc hl had)
  clear c0 c1 c2 c3 c4 c5 c6
  have FZ := FX.out.alloc (.cells #[.slice Ac nc kc, .int .i64 (Em.tot ML), .bool false] 27)
  replace Ra := Lib.hid (Ra.out.fr FZ (by simp))
  replace Rb := Lib.hid (Rb.out.fr FZ (by simp))
  replace La := Lib.hid (La.out.fr0 FZ)
  have Rc := Lib.hid (RsAt.new wx (.slice Ac nc kc) (Em.tot ML) false)
  have SN6 := Lib.hid (SN5.out.fr0 FZ)
  clear FZ FX ND Lc
  generalize hwz : wx.alloc (.cells #[.slice Ac nc kc, .int .i64 (Em.tot ML), .bool false] 27) = wc6 at *
  clear hwz SN5
  generalize wx.heap.size = gc at *
  have z0 := SN6.out.q.z 0
  have c0 : wc6.cell? ⟨gq, 0, none⟩ = some (.int .i64 (4)) := SN6.out.q.c0
  go_upto_region 15 with (fail)
  clear z0 c0
  have FZ : Fr [gq] wc6 (wc6.setCell ⟨gq, 0, none⟩ (.int .i64 (5))) := frq_set
  replace Ra := Lib.hid (Ra.out.frq SN6.out.q FZ)
  replace Rb := Lib.hid (Rb.out.frq SN6.out.q FZ)
  replace Rc := Lib.hid (Rc.out.frq SN6.out.q FZ)
  replace La := Lib.hid (AtL.frq La.out Na.out FZ)
  have SN7 : Hid (Sn w1 (wc6.setCell ⟨gq, 0, none⟩ (.int .i64 (5))) gq ⟨5, t, c, lo, hi, b, 0⟩) := Lib.hid (SN6.out.set0 (5))
  clear FZ
  generalize hwz : wc6.setCell ⟨gq, 0, none⟩ (.int .i64 (5)) = wq7 at *
  clear hwz SN6
  have c0 : wq7.cell? ⟨gq, 0, none⟩ = some (.int .i64 (5)) := SN7.out.q.c0
  have c1 : wq7.cell? ⟨gq, 1, none⟩ = some (.int .i64 (t)) := SN7.out.q.c1
  have c2 : wq7.cell? ⟨gq, 2, none⟩ = some (.int .i64 (c)) := SN7.out.q.c2
  have c3 : wq7.cell? ⟨gq, 3, none⟩ = some (.int .i64 (lo)) := SN7.out.q.c3
  have c4 : wq7.cell? ⟨gq, 4, none⟩ = some (.int .i64 (hi)) := SN7.out.q.c4
  have c5 : wq7.cell? ⟨gq, 5, none⟩ = some (.int .i64 (b)) := SN7.out.q.c5
  have c6 : wq7.cell? ⟨gq, 6, none⟩ = some (.int .i64 (0)) := SN7.out.q.c6
  go_upto_region 16 with (go_at_call 22; refine (eof_is (HST.out.fr0 SN7.out.fr) HSND.out (q := ⟨5, t, c, lo, hi, b, 0⟩) HV5.out HO5.out).mono ?_; rintro e wx ⟨Ad, nd, kd, rfl, hnd, hl, fx, had⟩; have HNd := Lib.hid hnd; have FX := Lib.hid fx; have Ld := Lib.hid hl; have ND := Lib.hid had; clear fx hnd hl had)
  clear c0 c1 c2 c3 c4 c5 c6
  have FZ := FX.out.alloc (.cells #[.slice Ad nd kd, .int .i64 (mn), .bool fm] 27)
  replace Ra := Lib.hid (Ra.out.fr FZ (by simp))
  replace Rb := Lib.hid (Rb.out.fr FZ (by simp))
  replace Rc := Lib.hid (Rc.out.fr FZ (by simp))
  replace La := Lib.hid (La.out.fr0 FZ)
  have Rd := Lib.hid (RsAt.new wx (.slice Ad nd kd) (mn) fm)
  have SN8 := Lib.hid (SN7.out.fr0 FZ)
  clear FZ FX ND Ld
  generalize hwz : wx.alloc (.cells #[.slice Ad nd kd, .int .i64 (mn), .bool fm] 27) = wd8 at *
  clear hwz SN7
  generalize wx.heap.size = gd at *
  have z0 := SN8.out.q.z 0
  have c0 : wd8.cell? ⟨gq, 0, none⟩ = some (.int .i64 (5)) := SN8.out.q.c0
  go_upto_region 17 with (fail)
  clear z0 c0
  have FZ : Fr [gq] wd8 (wd8.setCell ⟨gq, 0, none⟩ (.int .i64 (6))) := frq_set
  replace Ra := Lib.hid (Ra.out.frq SN8.out.q FZ)
  replace Rb := Lib.hid (Rb.out.frq SN8.out.q FZ)
  replace Rc := Lib.hid (Rc.out.frq SN8.out.q FZ)
  replace Rd := Lib.hid (Rd.out.frq SN8.out.q FZ)
  replace La := Lib.hid (AtL.frq La.out Na.out FZ)
  have SN9 : Hid (Sn w1 (wd8.setCell ⟨gq, 0, none⟩ (.int .i64 (6))) gq ⟨6, t, c, lo, hi, b, 0⟩) := Lib.hid (SN8.out.set0 (6))
  clear FZ
  generalize hwz : wd8.setCell ⟨gq, 0, none⟩ (.int .i64 (6)) = wq9 at *
  clear hwz SN8
  have c0 : wq9.cell? ⟨gq, 0, none⟩ = some (.int .i64 (6)) := SN9.out.q.c0
  have c1 : wq9.cell? ⟨gq, 1, none⟩ = some (.int .i64 (t)) := SN9.out.q.c1
  have c2 : wq9.cell? ⟨gq, 2, none⟩ = some (.int .i64 (c)) := SN9.out.q.c2
  have c3 : wq9.cell? ⟨gq, 3, none⟩ = some (.int .i64 (lo)) := SN9.out.q.c3
  have c4 : wq9.cell? ⟨gq, 4, none⟩ = some (.int .i64 (hi)) := SN9.out.q.c4
  have c5 : wq9.cell? ⟨gq, 5, none⟩ = some (.int .i64 (b)) := SN9.out.q.c5
  have c6 : wq9.cell? ⟨gq, 6, none⟩ = some (.int .i64 (0)) := SN9.out.q.c6
  go_upto_region 18 with (go_at_call 22; refine (eof_is (HST.out.fr0 SN9.out.fr) HSND.out (q := ⟨6, t, c, lo, hi, b, 0⟩) HV6.out HO6.out).mono ?_; rintro e wx ⟨Af, nf, kf, rfl, hnf, hl, fx, had⟩; have HNf := Lib.hid hnf; have FX := Lib.hid fx; have Lf := Lib.hid hl; have ND := Lib.hid had; clear fx hnf hl had)
  clear c0 c1 c2 c3 c4 c5 c6
  have FZ := FX.out.alloc (.cells #[.slice Af nf kf, .int .i64 (mx), .bool fx] 27)
  replace Ra := Lib.hid (Ra.out.fr FZ (by simp))
  replace Rb := Lib.hid (Rb.out.fr FZ (by simp))
  replace Rc := Lib.hid (Rc.out.fr FZ (by simp))
  replace Rd := Lib.hid (Rd.out.fr FZ (by simp))
  replace La := Lib.hid (La.out.fr0 FZ)
  have Rf := Lib.hid (RsAt.new wx (.slice Af nf kf) (mx) fx)
  have SN10 := Lib.hid (SN9.out.fr0 FZ)
  clear FZ FX ND Lf
  generalize hwz : wx.alloc (.cells #[.slice Af nf kf, .int .i64 (mx), .bool fx] 27) = wf10 at *
  clear hwz SN9
  generalize wx.heap.size = gf at *
  have z0 := SN10.out.q.z 0
  have c0 : wf10.cell? ⟨gq, 0, none⟩ = some (.int .i64 (6)) := SN10.out.q.c0
  go_upto_region 19 with (fail)
  clear z0 c0
  have FZ : Fr [gq] wf10 (wf10.setCell ⟨gq, 0, none⟩ (.int .i64 (7))) := frq_set
  replace Ra := Lib.hid (Ra.out.frq SN10.out.q FZ)
  replace Rb := Lib.hid (Rb.out.frq SN10.out.q FZ)
  replace Rc := Lib.hid (Rc.out.frq SN10.out.q FZ)
  replace Rd := Lib.hid (Rd.out.frq SN10.out.q FZ)
  replace Rf := Lib.hid (Rf.out.frq SN10.out.q FZ)
  replace La := Lib.hid (AtL.frq La.out Na.out FZ)
  have SN11 : Hid (Sn w1 (wf10.setCell ⟨gq, 0, none⟩ (.int .i64 (7))) gq ⟨7, t, c, lo, hi, b, 0⟩) := Lib.hid (SN10.out.set0 (7))
  clear FZ
  generalize hwz : wf10.setCell ⟨gq, 0, none⟩ (.int .i64 (7)) = wq11 at *
  clear hwz SN10
  have z6 := SN11.out.q.z 6
  have c6 : wq11.cell? ⟨gq, 6, none⟩ = some (.int .i64 (0)) := SN11.out.q.c6
  go_upto_region 20 with (go_at_call 25; refine (K2.out _).mono ?_; rintro e w' ⟨rfl, rfl⟩)
  clear z6 c6
  have FZ : Fr [gq] wq11 (wq11.setCell ⟨gq, 6, none⟩ (.int .i64 (p2))) := frq_set
  replace Ra := Lib.hid (Ra.out.frq SN11.out.q FZ)
  replace Rb := Lib.hid (Rb.out.frq SN11.out.q FZ)
  replace Rc := Lib.hid (Rc.out.frq SN11.out.q FZ)
  replace Rd := Lib.hid (Rd.out.frq SN11.out.q FZ)
  replace Rf := Lib.hid (Rf.out.frq SN11.out.q FZ)
  replace La := Lib.hid (AtL.frq La.out Na.out FZ)
  have SN12 : Hid (Sn w1 (wq11.setCell ⟨gq, 6, none⟩ (.int .i64 (p2))) gq ⟨7, t, c, lo, hi, b, p2⟩) := Lib.hid (SN11.out.set6 (p2))
  clear FZ
  generalize hwz : wq11.setCell ⟨gq, 6, none⟩ (.int .i64 (p2)) = wq12 at *
  clear hwz SN11
  have c0 : wq12.cell? ⟨gq, 0, none⟩ = some (.int .i64 (7)) := SN12.out.q.c0
  have c1 : wq12.cell? ⟨gq, 1, none⟩ = some (.int .i64 (t)) := SN12.out.q.c1
  have c2 : wq12.cell? ⟨gq, 2, none⟩ = some (.int .i64 (c)) := SN12.out.q.c2
  have c3 : wq12.cell? ⟨gq, 3, none⟩ = some (.int .i64 (lo)) := SN12.out.q.c3
  have c4 : wq12.cell? ⟨gq, 4, none⟩ = some (.int .i64 (hi)) := SN12.out.q.c4
  have c5 : wq12.cell? ⟨gq, 5, none⟩ = some (.int .i64 (b)) := SN12.out.q.c5
  have c6 : wq12.cell? ⟨gq, 6, none⟩ = some (.int .i64 (p2)) := SN12.out.q.c6
  go_upto_region 21 with (go_at_call 22; refine (eof_is (HST.out.fr0 SN12.out.fr) HSND.out (q := ⟨7, t, c, lo, hi, b, p2⟩) HV7.out HO7.out).mono ?_; rintro e wx ⟨Aj, nj, kj, rfl, hnj, hl, fx, had⟩; have HNj := Lib.hid hnj; have FX := Lib.hid fx; have Lj := Lib.hid hl; have ND := Lib.hid had; clear fx hnj hl had)
  clear c0 c1 c2 c3 c4 c5 c6
  have FZ := FX.out.alloc (.cells #[.slice Aj nj kj, .int .i64 (0), .bool false] 27)
  replace Ra := Lib.hid (Ra.out.fr FZ (by simp))
  replace Rb := Lib.hid (Rb.out.fr FZ (by simp))
  replace Rc := Lib.hid (Rc.out.fr FZ (by simp))
  replace Rd := Lib.hid (Rd.out.fr FZ (by simp))
  replace Rf := Lib.hid (Rf.out.fr FZ (by simp))
  replace La := Lib.hid (La.out.fr0 FZ)
  have Rj := Lib.hid (RsAt.new wx (.slice Aj nj kj) (0) false)
  have SN13 := Lib.hid (SN12.out.fr0 FZ)
  clear FZ FX ND Lj
  generalize hwz : wx.alloc (.cells #[.slice Aj nj kj, .int .i64 (0), .bool false] 27) = wj13 at *
  clear hwz SN12
  generalize wx.heap.size = gj at *
  have a0 := Ra.out.c0
  have a1 := Ra.out.c1
  have a2 := Ra.out.c2
  have b0 := Rb.out.c0
  have b1 := Rb.out.c1
  have b2 := Rb.out.c2
  have c0 := Rc.out.c0
  have c1 := Rc.out.c1
  have c2 := Rc.out.c2
  have d0 := Rd.out.c0
  have d1 := Rd.out.c1
  have d2 := Rd.out.c2
  have f0 := Rf.out.c0
  have f1 := Rf.out.c1
  have f2 := Rf.out.c2
  have j0 := Rj.out.c0
  have j1 := Rj.out.c1
  have j2 := Rj.out.c2
  have hna : na = R.length := HNa.out
  have HJ2 : nj ≤ 2 * na := by rw [hna, HNj.out]; exact HJ.out
  have hna2 : na ≤ 2000 := by rw [hna]; exact HRL.out
  have HNA := Lib.hid hna
  clear hna
  have FE := Lib.hid (FW.out.trans SN13.out.fr)
  have hm0 : Em.tot ([] : List Int) = 0 := rfl
  go_wp2_with fail
  go_loopw [22, 23, 24] (fun nv av i wr => ∃ (k : Nat) (tk : Int) (ak : Bool), k ≤ na ∧ i = .int .i64 k ∧ nv = .int .i64 tk ∧ av = .bool ak ∧ Hid (Em.tot (ML.take k) = tk) ∧ Hid ((ML.take k).any (· == mn) = ak) ∧ Hid (Fr [] wj13 wr)) (fun _ _ i _ => na - (intOf i).toNat)
  case atStart => exact ⟨0, 0, false, Nat.zero_le _, rfl, rfl, rfl, Lib.hid rfl, Lib.hid rfl, Lib.hid (Fr.refl _ _)⟩
  case round =>
    obtain ⟨k, tk, ak, hk, rfl, rfl, rfl, HT, HA, HF⟩ := hrel
    have a0 := (Ra.out.fr HF.out (by simp)).c0
    have d1 := (Rd.out.fr HF.out (by simp)).c1
    have f1 := (Rf.out.fr HF.out (by simp)).c1
    by_cases hlt : k < na
    · have hkR : k < R.length := by rw [← HNA.out]; exact hlt
      have hkM : k < ML.length := by rw [← HML.out, List.length_map]; exact hkR
      obtain ⟨ba, oa, hba, hbl, hca⟩ := (La.out.fr0 HF.out) (by omega)
      subst hba
      have HS := Lib.hid (List.take_succ_eq_append_getElem hkM)
      have hmk : ML[k] = R[k].value b := by simp only [← HML.out, List.getElem_map]
      have hmin := HMN.out.le _ (List.getElem_mem hkM)
      have hmax := HMX.out.le _ (List.getElem_mem hkM)
      have hyb := HRV.out _ (List.getElem_mem hkR)
      rw [← hmk] at hyb
      have htb := Em.tot_bound 1000000000 (ML.take k) (fun x hx => by
        have hx' := List.mem_of_mem_take hx
        rw [← HML.out] at hx'
        obtain ⟨r, hr, rfl⟩ := List.mem_map.1 hx'
        exact HRV.out r hr)
      rw [HT.out, List.length_take] at htb
      have htb2 : -2000000000000 ≤ tk ∧ tk ≤ 2000000000000 := by
        have h1 : min k ML.length ≤ 2000 := by omega
        omega
      have hr0 := hca k hkR 0 (by decide)
      have hr1 := hca k hkR 1 (by decide)
      have hr2 := hca k hkR 2 (by decide)
      have hr3 := hca k hkR 3 (by decide)
      have hr4 := hca k hkR 4 (by decide)
      generalize ML[k] = y at *
      generalize R[k] = r at *
      obtain ⟨rt, rk, rx, ry, rz⟩ := r
      have HV := Lib.hid (fun W => value5 rt rk rx ry rz b W)
      rw [← hmk] at HV
      have l0 : ∀ p : Later wr, p.w.cell? ⟨ga, 0, none⟩ = some (.slice (some ⟨ba, oa, none⟩) na ka) := fun p => p.cell (Blk.lt (Ra.out.fr HF.out (by simp))) a0
      have l1 : ∀ p : Later wr, p.w.cell? ⟨ba, oa + k * 5, none⟩ = some (.int .i64 rt) := fun p => p.cell hbl hr0
      have l2 : ∀ p : Later wr, p.w.cell? ⟨ba, oa + k * 5 + 1, none⟩ = some (.int .i64 rk) := fun p => p.cell hbl hr1
      have l3 : ∀ p : Later wr, p.w.cell? ⟨ba, oa + k * 5 + 2, none⟩ = some (.int .i64 rx) := fun p => p.cell hbl hr2
      have l4 : ∀ p : Later wr, p.w.cell? ⟨ba, oa + k * 5 + 3, none⟩ = some (.int .i64 ry) := fun p => p.cell hbl hr3
      have l5 : ∀ p : Later wr, p.w.cell? ⟨ba, oa + k * 5 + 4, none⟩ = some (.int .i64 rz) := fun p => p.cell hbl hr4
      have l6 : ∀ p : Later wr, p.w.cell? ⟨gq, 5, none⟩ = some (.int .i64 b) := fun p => p.cell (Blk.lt (SN13.out.q.fr HF.out (by simp))) (SN13.out.q.fr HF.out (by simp)).c5
      clear hr0 hr1 hr2 hr3 hr4 hca hbl hmk htb
      go_upto_region 26 with (fail)
      refine wp_region_later (by kernel_rfl) (by kernel_rfl) ?_
      repeat (go_big_quiet_step (exact Later.calls ((HV.out _).mono fun e w' h => ⟨h.1, h.2 ▸ (Fr.refl _ _).alloc _⟩)))
      refine wpQuiet_nil ?_
      rintro wq ⟨p, hp⟩
      have fq : Fr [] wr wq := hp ▸ p.fr
      clear hp p l0 l1 l2 l3 l4 l5 l6 a0 d1 f1
      have HF2 := Lib.hid (HF.out.trans fq)
      clear fq
      have d1 := (Rd.out.fr HF2.out (by simp)).c1
      have f1 := (Rf.out.fr HF2.out (by simp)).c1
      have HT2 : Hid (Em.tot (ML.take (k + 1)) = tk + y) := Lib.hid (by rw [HS.out, Em.tot_snoc, HT.out])
      have HA2 : Hid ((ML.take (k + 1)).any (· == mn) = (ak || (y == mn))) := Lib.hid (by rw [HS.out, any_snoc, HA.out])
      have e1 : decide (y < mn) = false := by simp; omega
      have e2 : decide (mx < y) = false := by simp; omega
      cases hak : ak
      · subst hak
        by_cases hym : y = mn
        · have e3 : (y == mn) = true := by simp [hym]
          rw [e3] at HA2
          have HYM := Lib.hid hym
          clear hym
          go_wp2_with fail
          go_roundw
          case rel => exact ⟨k + 1, tk + y, true, by omega, by go_num, rfl, rfl, HT2, HA2, HF2⟩
          case measure => simp [intOf]; omega
        · have e3 : (y == mn) = false := by simp [hym]
          rw [e3] at HA2
          have HYM := Lib.hid hym
          clear hym
          go_wp2_with fail
          go_roundw
          case rel => exact ⟨k + 1, tk + y, false, by omega, by go_num, rfl, rfl, HT2, HA2, HF2⟩
          case measure => simp [intOf]; omega
      · subst hak
        go_wp2_with fail
        go_roundw
        case rel => exact ⟨k + 1, tk + y, true, by omega, by go_num, rfl, rfl, HT2, HA2, HF2⟩
        case measure => simp [intOf]; omega
    · obtain rfl : k = na := by omega
      have hML : ML.length = k := by rw [← HML.out, List.length_map, HNA.out]
      have hT := HT.out
      have hA := HA.out
      rw [← hML, List.take_length] at hT hA
      rw [HMN.out.any] at hA
      have hfm := HMN.out.found
      have hfx := HMX.out.found
      have hmm : mn ≤ mx := by
        cases hl : ML with
        | nil => rw [HMN.out.none hl, HMX.out.none hl]; exact Int.le_refl _
        | cons x l => 
          have h1 := HMN.out.le x (by rw [hl]; simp)
          have h2 := HMX.out.le x (by rw [hl]; simp)
          omega
      have hemp : (!ML.isEmpty) = decide ((k : Int) > 0) := by
        rw [← hML]
        cases ML with
        | nil => rfl
        | cons x l => simp <;> omega
      rw [hemp] at hfm hfx
      have HTT := Lib.hid hT
      have b9 := (Rb.out.fr HF.out (by simp)).c1
      have c9 := (Rc.out.fr HF.out (by simp)).c1
      have d9 := (Rd.out.fr HF.out (by simp)).c2
      have f9 := (Rf.out.fr HF.out (by simp)).c2
      have j9 := (Rj.out.fr HF.out (by simp)).c0
      rw [hT] at c9
      rw [← HNA.out] at b9
      clear hML hT
      by_cases hz : k = 0
      · have hd : decide ((k : Int) > 0) = false := by simp; omega
        rw [hd] at hfm hfx
        subst hfm hfx
        subst hA
        go_wp2_with fail
        go_ret
        exact ⟨rfl, (FE.out.trans HF.out).below⟩
      · have hd : decide ((k : Int) > 0) = true := by simp; omega
        rw [hd] at hfm hfx
        subst hfm hfx
        subst hA
        go_wp2_with fail
        go_ret
        exact ⟨rfl, (FE.out.trans HF.out).below⟩
end Go.Proofs.Ytlicjokgcahmlaa
