/-
  EvalDivided: the walk of the law.
-/
import Derived.Test.YtlicjokgcahmlaaEwI
import Derived.BigQuiet
namespace Go.Proofs.Ytlicjokgcahmlaa
open Go.RowKit

theorem own_empty (w : World) : OwnL 31 5 RowV.cells (w.alloc (.cells #[] 31)) (.slice (some ⟨w.heap.size, 0, none⟩) 0 0) ([] : List RowV) :=
  ⟨rfl, .inr ⟨w.heap.size, 0, #[], rfl, Nat.zero_le _, Blk.new w 31 #[], Nat.le_refl _, by simp [maxLen], rfl, rfl⟩⟩
theorem same3_eq (A : Option Addr) (n ca : Nat) (cs : List RowV) (B : Option Addr) (m cb : Nat) (ds : List RowV) (w : World) (ha : RowsAt w A cs) (hn : n = cs.length) (hb : RowsAt w B ds) (hm : m = ds.length) (la : n ≤ 8000) (h : cs = ds) (lb : m ≤ 4000) :
    Calls Try.prog 27 #[.slice A n ca, .slice B m cb] w fun e w' => e = .returned (.bool true) ∧ Fr [] w w' := by
  subst hn hm h
  have h := sameRows3_any cs cs A B ca cb w ha hb lb lb
  rwa [decide_eq_true rfl] at h
theorem app_ge {W w : World} {v v' : Value} (h : ∀ g, v.ownBlock = some g → W.heap.size ≤ g) (hw : W.heap.size ≤ w.heap.size) (hat : v'.ownBlock = v.ownBlock ∨ v'.ownBlock = some w.heap.size) : ∀ g, v'.ownBlock = some g → W.heap.size ≤ g := by
  intro g hg
  rcases hat with e | e
  · exact h g (e ▸ hg)
  · rw [hg] at e
    injection e with e
    omega
theorem own_lit (g n c : Nat) : ∀ x, (Value.slice (some ⟨g, 0, none⟩) n c).ownBlock = some x → g ≤ x := fun x hx => by injection hx with hx; subst hx; exact Nat.le_refl _
theorem Em.valid_high {k t c lo hi b o mid : Int} (h : Em.valid ⟨k, t, c, lo, hi, b, o⟩ = true) (hk : k ≠ 1) (h1 : lo ≤ mid) (h2 : mid ≤ hi) : Em.valid ⟨k, t, c, lo, mid, b, o⟩ = true := by
  have hv := Em.valid_base' h
  dsimp only at hv
  have e : Em.base ⟨k, t, c, lo, mid, b, o⟩ = Em.base ⟨k, t, c, lo, hi, b, o⟩ := by
    unfold Em.base Em.within
    dsimp only
    have a1 : decide (lo ≤ mid) = decide (lo ≤ hi) := by simp; omega
    have a2 : decide (mid ≤ 1000000000) = decide (hi ≤ 1000000000) := by simp; omega
    rw [a1, a2]
  rw [← h]
  unfold Em.valid
  dsimp only
  rw [e, if_neg hk, if_neg hk]
theorem Em.valid_low {k t c lo hi b o mid : Int} (h : Em.valid ⟨k, t, c, lo, hi, b, o⟩ = true) (hk : k ≠ 1) (h1 : lo ≤ mid) (h2 : mid ≤ hi) : Em.valid ⟨k, t, c, mid, hi, b, o⟩ = true := by
  have hv := Em.valid_base' h
  dsimp only at hv
  have e : Em.base ⟨k, t, c, mid, hi, b, o⟩ = Em.base ⟨k, t, c, lo, hi, b, o⟩ := by
    unfold Em.base Em.within
    dsimp only
    have a1 : decide (-1000000000 ≤ mid) = decide (-1000000000 ≤ lo) := by simp; omega
    have a2 : decide (mid ≤ hi) = decide (lo ≤ hi) := by simp; omega
    rw [a1, a2]
  rw [← h]
  unfold Em.valid
  dsimp only
  rw [e, if_neg hk, if_neg hk]

set_option maxRecDepth 100000 in
set_option maxHeartbeats 8000000 in
theorem divided_walk (A : Option Addr) (n cap : Nat) (x0 x1 x2 x3 : Int) (at_ : Int) (w : World) (hn : n ≤ cap) (hcap : cap ≤ maxLen) (hx : Fours w A n) (o0 : okI x0) (o1 : okI x1) (o2 : okI x2) (o3 : okI x3) (oa : okI at_) :
    Calls Try.prog 6 #[.slice A n cap, .agg #[.int .i64 x0, .int .i64 x1, .int .i64 x2, .int .i64 x3], .int .i64 at_] w fun e w' => e = .returned (.bool true) ∧ Below w.heap.size w w' := by
  have F0 := (Fr.refl [] w).alloc (.cells #[.int .i64 x0, .int .i64 x1, .int .i64 x2, .int .i64 x3] 24)
  have HX := Lib.hid (hx.fr0 F0)
  have H4 : Hid (Four (w.alloc (.cells #[.int .i64 x0, .int .i64 x1, .int .i64 x2, .int .i64 x3] 24)) w.heap.size x0 x1 x2 x3) := Lib.hid (Blk.new _ _ _)
  have HF0 := Lib.hid F0
  have OA := Lib.hid oa
  clear oa
  have O0 := Lib.hid o0
  have O1 := Lib.hid o1
  have O2 := Lib.hid o2
  have O3 := Lib.hid o3
  clear hx o0 o1 o2 o3 F0
  go_enter Try.func6, Try.ntmps6
  go_upto_region 4 with (first
    | (go_at_call 11; refine (sane6_any _).mono ?_; rintro e wa ⟨rfl, fa⟩; have FA := Lib.hid fa; clear fa)
    | (go_at_call 24; refine (state6_any A n cap _ hn hcap (HX.out.fr0 FA.out)).mono ?_; rintro e wb ⟨bs, m, out, rfl, hst, hok, hol, fb⟩; have HST0 := Lib.hid hst; have HCG := Lib.hid hok; have HOL := Lib.hid hol; have FB := Lib.hid (FA.out.trans fb); have H4b := Lib.hid (H4.out.fr FB.out (by simp)); have g0 := H4b.out.cells.1; have g1 := H4b.out.cells.2.1; have g2 := H4b.out.cells.2.2.1; have g3 := H4b.out.cells.2.2.2; clear hst hok hol fb)
    | (go_at_call 12; refine (query6_any _ x1 x2 x3 _ (by first | exact O0.out | exact okI_wrap64 _ | exact okI_wrap _) O1.out O2.out O3.out).mono ?_; rintro e w1 ⟨⟨qk, qt, qc, ql, qh, qb, qo⟩, rfl, hq, f1⟩; have HQ := Lib.hid hq; have F1 := Lib.hid f1; clear hq f1))
  clear g0 g1 g2 g3 H4 HX
  have HST := Lib.hid (HST0.out.fr0 F1.out)
  have FW := Lib.hid ((HF0.out.trans FB.out).trans F1.out)
  have SN0 : Hid (Sn w1 (w1.alloc (.cells #[.int .i64 qk, .int .i64 qt, .int .i64 qc, .int .i64 ql, .int .i64 qh, .int .i64 qb, .int .i64 qo] 23)) w1.heap.size ⟨qk, qt, qc, ql, qh, qb, qo⟩) := Lib.hid ⟨(Fr.refl _ _).alloc _, QAt.new w1 ⟨qk, qt, qc, ql, qh, qb, qo⟩, Nat.le_refl _⟩
  have H4c := Lib.hid ((H4b.out.fr F1.out (by simp)).fr SN0.out.fr (by simp))
  have HSND := Lib.hid (Lg.run_sound out)
  have HSOK := Lib.hid (Lg.run_ok out)
  clear HST0 FB F1 H4b FA HF0
  generalize hwa : w1.alloc (.cells #[.int .i64 qk, .int .i64 qt, .int .i64 qc, .int .i64 ql, .int .i64 qh, .int .i64 qb, .int .i64 qo] 23) = wa0 at *
  clear hwa
  obtain ⟨gq, hgq⟩ : ∃ g, w1.heap.size = g := ⟨_, rfl⟩
  rw [hgq] at SN0 ⊢
  have HGQ : Hid (w1.heap.size ≤ gq) := Lib.hid (Nat.le_of_eq hgq)
  clear hgq
  have HQB := HQ.out
  have hqk := HQB.k
  have hqt := HQB.t
  have hqc := HQB.c
  have hql := HQB.lo
  have hqo := HQB.o
  have hqb := HQB.b
  dsimp only at hqk hqt hqc hql hqo hqb
  clear HQB
  have c0 : wa0.cell? ⟨gq, 0, none⟩ = some (.int .i64 qk) := SN0.out.q.c0
  by_cases hk1 : qk = 1
  · have ek : (qk == 1) = true := by simp [hk1]
    have HK := Lib.hid hk1
    clear hk1
    go_wp2_with fail
    go_ret
    exact ⟨rfl, (FW.out.trans SN0.out.fr).below⟩
  have ek : (qk == 1) = false := by simp [hk1]
  have HK1 := Lib.hid hk1
  obtain ⟨pm, bm, -, KM⟩ := pick_is OA.out (n := qh - ql + 1) (by omega) (by omega)
  have hl := Blk.lt SN0.out.q
  have a3 : ∀ p : Later wa0, p.w.cell? ⟨gq, 3, none⟩ = some (.int .i64 ql) := fun p => p.cell hl SN0.out.q.c3
  have a4 : ∀ p : Later wa0, p.w.cell? ⟨gq, 4, none⟩ = some (.int .i64 qh) := fun p => p.cell hl SN0.out.q.c4
  clear hl
  go_upto_region 6 with (fail)
  refine wp_region_later (by kernel_rfl) (by kernel_rfl) ?_
  repeat (go_big_quiet_step (with_reducible exact Later.calls (KM.out _)))
  refine wpQuiet_nil ?_
  rintro wq ⟨p, hp⟩
  have fq : Fr [] wa0 wq := hp ▸ p.fr
  clear hp p a3 a4 c0 KM OA hk1
  have SN1 := Lib.hid (SN0.out.fr0 fq)
  clear fq SN0 H4c
  obtain ⟨mid, hmid⟩ : ∃ mid, ql + pm = mid := ⟨_, rfl⟩
  have hm1 : ql ≤ mid := by omega
  have hm2 : mid ≤ qh := by omega
  try rw [hmid]
  clear hmid bm
  have HVW : Hid (Em.valid ⟨qk, qt, qc, ql, qh, qb, qo⟩ = true) := Lib.hid HQ.out.valid
  obtain ⟨⟨rw_, vw, fw⟩, HOW⟩ : ∃ r, Hid (Em.of (Lg.run out) ⟨qk, qt, qc, ql, qh, qb, qo⟩ = r) := ⟨_, Lib.hid rfl⟩
  have c0 : wq.cell? ⟨gq, 0, none⟩ = some (.int .i64 (qk)) := SN1.out.q.c0
  have c1 : wq.cell? ⟨gq, 1, none⟩ = some (.int .i64 (qt)) := SN1.out.q.c1
  have c2 : wq.cell? ⟨gq, 2, none⟩ = some (.int .i64 (qc)) := SN1.out.q.c2
  have c3 : wq.cell? ⟨gq, 3, none⟩ = some (.int .i64 (ql)) := SN1.out.q.c3
  have c4 : wq.cell? ⟨gq, 4, none⟩ = some (.int .i64 (qh)) := SN1.out.q.c4
  have c5 : wq.cell? ⟨gq, 5, none⟩ = some (.int .i64 (qb)) := SN1.out.q.c5
  have c6 : wq.cell? ⟨gq, 6, none⟩ = some (.int .i64 (qo)) := SN1.out.q.c6
  go_upto_region 10 with (go_at_call 22; refine (eof_is (HST.out.fr0 SN1.out.fr) HSND.out (q := ⟨qk, qt, qc, ql, qh, qb, qo⟩) HVW.out HOW.out).mono ?_; rintro e wx ⟨Aa, na, ka, rfl, hna, hl, fx, had⟩; have HNa := Lib.hid hna; have FX := Lib.hid fx; have La := Lib.hid hl; have ND := Lib.hid had; clear fx hna hl had)
  clear c0 c1 c2 c3 c4 c5 c6
  have FZ := FX.out.alloc (.cells #[.slice Aa na ka, .int .i64 (vw), .bool fw] 27)
  replace La := Lib.hid (La.out.fr0 ((Fr.refl [] wx).alloc (.cells #[.slice Aa na ka, .int .i64 (vw), .bool fw] 27)))
  have Na : Hid (∀ ad, Aa = some ad → gq < ad.block) := Lib.hid (fun ad e => Nat.lt_of_lt_of_le (Blk.lt SN1.out.q) (ND.out ad e))
  have Ra := Lib.hid (RsAt.new wx (.slice Aa na ka) (vw) fw)
  have SN2 := Lib.hid (SN1.out.fr0 FZ)
  clear FZ FX ND 
  generalize hwz : wx.alloc (.cells #[.slice Aa na ka, .int .i64 (vw), .bool fw] 27) = wa2 at *
  clear hwz SN1
  generalize wx.heap.size = ga at *
  have c4 := SN2.out.q.c4
  by_cases hmh : mid = qh
  · have eh : (mid == qh) = true := by simp [hmh]
    have HMH := Lib.hid hmh
    clear hmh
    go_wp2_with fail
    go_ret
    exact ⟨rfl, (FW.out.trans SN2.out.fr).below⟩
  have eh : (mid == qh) = false := by simp [hmh]
  have hmlt : mid < qh := by omega
  have HV1 := Lib.hid (Em.valid_high HVW.out HK1.out hm1 hm2)
  have HV2 := Lib.hid (Em.valid_low HVW.out HK1.out (mid := mid + 1) (by omega) (by omega))
  have HDV := Em.divided HSND.out HSOK.out (k := qk) (t := qt) (c := qc) (lo := ql) (hi := qh) (b := qb) (o := qo) (mid := mid) (by have := HK1.out; omega) hm1 hmlt HV1.out HV2.out HVW.out
  rw [HOW.out] at HDV
  obtain ⟨⟨r1, v1, f1⟩, HO1⟩ : ∃ r, Hid (Em.of (Lg.run out) ⟨qk, qt, qc, ql, mid, qb, qo⟩ = r) := ⟨_, Lib.hid rfl⟩
  obtain ⟨⟨r2, v2, f2⟩, HO2⟩ : ∃ r, Hid (Em.of (Lg.run out) ⟨qk, qt, qc, mid + 1, qh, qb, qo⟩ = r) := ⟨_, Lib.hid rfl⟩
  rw [HO1.out, HO2.out] at HDV
  have HD := Lib.hid HDV
  have L1 : Hid (r1.length ≤ 4000) := Lib.hid (by have h := Em.of_len HSOK.out ⟨qk, qt, qc, ql, mid, qb, qo⟩; rw [HO1.out] at h; exact h)
  have L2 : Hid (r2.length ≤ 4000) := Lib.hid (by have h := Em.of_len HSOK.out ⟨qk, qt, qc, mid + 1, qh, qb, qo⟩; rw [HO2.out] at h; exact h)
  have LW : Hid (rw_.length ≤ 4000) := Lib.hid (by have h := Em.of_len HSOK.out ⟨qk, qt, qc, ql, qh, qb, qo⟩; rw [HOW.out] at h; exact h)
  clear HDV hmh
  have c0 := SN2.out.q.c0
  have c1 := SN2.out.q.c1
  have c2 := SN2.out.q.c2
  have c3 := SN2.out.q.c3
  have c5 := SN2.out.q.c5
  have c6 := SN2.out.q.c6
  have hlq := Blk.lt SN2.out.q
  have d0 : ∀ o, (wa2.alloc o).cell? ⟨gq, 0, none⟩ = some (.int .i64 qk) := fun o => (World.cell?_alloc_lt _ _ _ hlq).trans c0
  have d1 : ∀ o, (wa2.alloc o).cell? ⟨gq, 1, none⟩ = some (.int .i64 qt) := fun o => (World.cell?_alloc_lt _ _ _ hlq).trans c1
  have d2 : ∀ o, (wa2.alloc o).cell? ⟨gq, 2, none⟩ = some (.int .i64 qc) := fun o => (World.cell?_alloc_lt _ _ _ hlq).trans c2
  have d3 : ∀ o, (wa2.alloc o).cell? ⟨gq, 3, none⟩ = some (.int .i64 ql) := fun o => (World.cell?_alloc_lt _ _ _ hlq).trans c3
  have d4 : ∀ o, (wa2.alloc o).cell? ⟨gq, 4, none⟩ = some (.int .i64 qh) := fun o => (World.cell?_alloc_lt _ _ _ hlq).trans c4
  have d5 : ∀ o, (wa2.alloc o).cell? ⟨gq, 5, none⟩ = some (.int .i64 qb) := fun o => (World.cell?_alloc_lt _ _ _ hlq).trans c5
  have d6 : ∀ o, (wa2.alloc o).cell? ⟨gq, 6, none⟩ = some (.int .i64 qo) := fun o => (World.cell?_alloc_lt _ _ _ hlq).trans c6
  clear hlq
  go_upto_region 16 with (fail)
  clear c0 c1 c2 c3 c4 c5 c6 d0 d1 d2 d3 d4 d5 d6
  have FZ := ((Fr.refl [] wa2).alloc (.cells #[.int .i64 qk, .int .i64 qt, .int .i64 qc, .int .i64 ql, .int .i64 mid, .int .i64 qb, .int .i64 qo] 23)).alloc (.cells #[.int .i64 qk, .int .i64 qt, .int .i64 qc, .int .i64 (mid + 1), .int .i64 qh, .int .i64 qb, .int .i64 qo] 23)
  have qa := (QAt.new wa2 ⟨qk, qt, qc, ql, mid, qb, qo⟩).fr ((Fr.refl [] _).alloc (.cells #[.int .i64 qk, .int .i64 qt, .int .i64 qc, .int .i64 (mid + 1), .int .i64 qh, .int .i64 qb, .int .i64 qo] 23)) (by simp)
  have qb' := QAt.new (wa2.alloc (.cells #[.int .i64 qk, .int .i64 qt, .int .i64 qc, .int .i64 ql, .int .i64 mid, .int .i64 qb, .int .i64 qo] 23)) ⟨qk, qt, qc, mid + 1, qh, qb, qo⟩
  rw [World.size_alloc] at qb'
  have hsz := SN2.out.fr.size
  have SNa : Hid (Sn w1 ((wa2.alloc (.cells #[.int .i64 qk, .int .i64 qt, .int .i64 qc, .int .i64 ql, .int .i64 mid, .int .i64 qb, .int .i64 qo] 23)).alloc (.cells #[.int .i64 qk, .int .i64 qt, .int .i64 qc, .int .i64 (mid + 1), .int .i64 qh, .int .i64 qb, .int .i64 qo] 23)) wa2.heap.size ⟨qk, qt, qc, ql, mid, qb, qo⟩) := Lib.hid ⟨SN2.out.fr.trans FZ, qa, hsz⟩
  have SNb : Hid (Sn w1 ((wa2.alloc (.cells #[.int .i64 qk, .int .i64 qt, .int .i64 qc, .int .i64 ql, .int .i64 mid, .int .i64 qb, .int .i64 qo] 23)).alloc (.cells #[.int .i64 qk, .int .i64 qt, .int .i64 qc, .int .i64 (mid + 1), .int .i64 qh, .int .i64 qb, .int .i64 qo] 23)) (wa2.heap.size + 1) ⟨qk, qt, qc, mid + 1, qh, qb, qo⟩) := Lib.hid ⟨SN2.out.fr.trans FZ, qb', Nat.le_succ_of_le hsz⟩
  replace Ra := Lib.hid (Ra.out.fr FZ (by simp))
  replace La := Lib.hid (La.out.fr0 FZ)
  have SNq := Lib.hid (SN2.out.fr0 FZ)
  clear FZ qa qb' hsz SN2
  generalize hwz : (wa2.alloc (.cells #[.int .i64 qk, .int .i64 qt, .int .i64 qc, .int .i64 ql, .int .i64 mid, .int .i64 qb, .int .i64 qo] 23)).alloc (.cells #[.int .i64 qk, .int .i64 qt, .int .i64 qc, .int .i64 (mid + 1), .int .i64 qh, .int .i64 qb, .int .i64 qo] 23) = wab at *
  clear hwz
  obtain ⟨hb, hhb⟩ : ∃ g, wa2.heap.size + 1 = g := ⟨_, rfl⟩
  rw [hhb] at SNb ⊢
  clear hhb
  generalize wa2.heap.size = ha at *
  have c0 : wab.cell? ⟨ha, 0, none⟩ = some (.int .i64 (qk)) := SNa.out.q.c0
  have c1 : wab.cell? ⟨ha, 1, none⟩ = some (.int .i64 (qt)) := SNa.out.q.c1
  have c2 : wab.cell? ⟨ha, 2, none⟩ = some (.int .i64 (qc)) := SNa.out.q.c2
  have c3 : wab.cell? ⟨ha, 3, none⟩ = some (.int .i64 (ql)) := SNa.out.q.c3
  have c4 : wab.cell? ⟨ha, 4, none⟩ = some (.int .i64 (mid)) := SNa.out.q.c4
  have c5 : wab.cell? ⟨ha, 5, none⟩ = some (.int .i64 (qb)) := SNa.out.q.c5
  have c6 : wab.cell? ⟨ha, 6, none⟩ = some (.int .i64 (qo)) := SNa.out.q.c6
  go_upto_region 17 with (go_at_call 22; refine (eof_is (HST.out.fr0 SNa.out.fr) HSND.out (q := ⟨qk, qt, qc, ql, mid, qb, qo⟩) HV1.out HO1.out).mono ?_; rintro e wx ⟨Ao, no, ko, rfl, hno, hl, fx, had⟩; have HNo := Lib.hid hno; have FX := Lib.hid fx; have Lo := Lib.hid hl; have ND := Lib.hid had; clear fx hno hl had)
  clear c0 c1 c2 c3 c4 c5 c6
  have FZ := FX.out.alloc (.cells #[.slice Ao no ko, .int .i64 (v1), .bool f1] 27)
  replace SNb := Lib.hid (SNb.out.fr0 FZ)
  replace SNq := Lib.hid (SNq.out.fr0 FZ)
  replace Ra := Lib.hid (Ra.out.fr FZ (by simp))
  replace La := Lib.hid (La.out.fr0 FZ)
  replace Lo := Lib.hid (Lo.out.fr0 ((Fr.refl [] wx).alloc (.cells #[.slice Ao no ko, .int .i64 (v1), .bool f1] 27)))
  have No : Hid (∀ ad, Ao = some ad → ha < ad.block) := Lib.hid (fun ad e => Nat.lt_of_lt_of_le (Blk.lt SNa.out.q) (ND.out ad e))
  have Ro := Lib.hid (RsAt.new wx (.slice Ao no ko) (v1) f1)
  have SN3 := Lib.hid (SNa.out.fr0 FZ)
  clear FZ FX ND 
  generalize hwz : wx.alloc (.cells #[.slice Ao no ko, .int .i64 (v1), .bool f1] 27) = wo3 at *
  clear hwz SNa
  generalize wx.heap.size = go at *
  have c0 : wo3.cell? ⟨hb, 0, none⟩ = some (.int .i64 (qk)) := SNb.out.q.c0
  have c1 : wo3.cell? ⟨hb, 1, none⟩ = some (.int .i64 (qt)) := SNb.out.q.c1
  have c2 : wo3.cell? ⟨hb, 2, none⟩ = some (.int .i64 (qc)) := SNb.out.q.c2
  have c3 : wo3.cell? ⟨hb, 3, none⟩ = some (.int .i64 (mid + 1)) := SNb.out.q.c3
  have c4 : wo3.cell? ⟨hb, 4, none⟩ = some (.int .i64 (qh)) := SNb.out.q.c4
  have c5 : wo3.cell? ⟨hb, 5, none⟩ = some (.int .i64 (qb)) := SNb.out.q.c5
  have c6 : wo3.cell? ⟨hb, 6, none⟩ = some (.int .i64 (qo)) := SNb.out.q.c6
  go_upto_region 20 with (go_at_call 22; refine (eof_is (HST.out.fr0 SNb.out.fr) HSND.out (q := ⟨qk, qt, qc, mid + 1, qh, qb, qo⟩) HV2.out HO2.out).mono ?_; rintro e wx ⟨Ap, np, kp, rfl, hnp, hl, fx, had⟩; have HNp := Lib.hid hnp; have FX := Lib.hid fx; have Lp := Lib.hid hl; have ND := Lib.hid had; clear fx hnp hl had)
  clear c0 c1 c2 c3 c4 c5 c6
  have FZ := FX.out.alloc (.cells #[.slice Ap np kp, .int .i64 (v2), .bool f2] 27)
  replace SNq := Lib.hid (SNq.out.fr0 FZ)
  replace SN3 := Lib.hid (SN3.out.fr0 FZ)
  replace Ra := Lib.hid (Ra.out.fr FZ (by simp))
  replace Ro := Lib.hid (Ro.out.fr FZ (by simp))
  replace La := Lib.hid (La.out.fr0 FZ)
  replace Lo := Lib.hid (Lo.out.fr0 FZ)
  replace Lp := Lib.hid (Lp.out.fr0 ((Fr.refl [] wx).alloc (.cells #[.slice Ap np kp, .int .i64 (v2), .bool f2] 27)))
  have Np : Hid (∀ ad, Ap = some ad → hb < ad.block) := Lib.hid (fun ad e => Nat.lt_of_lt_of_le (Blk.lt SNb.out.q) (ND.out ad e))
  have Rp := Lib.hid (RsAt.new wx (.slice Ap np kp) (v2) f2)
  have SN4 := Lib.hid (SNb.out.fr0 FZ)
  clear FZ FX ND 
  generalize hwz : wx.alloc (.cells #[.slice Ap np kp, .int .i64 (v2), .bool f2] 27) = wp4 at *
  clear hwz SNb
  generalize wx.heap.size = gp at *
  have hna : na = rw_.length := HNa.out
  have hno : no = r1.length := HNo.out
  have hnp : np = r2.length := HNp.out
  have FE := Lib.hid (FW.out.trans SNq.out.fr)
  have a0 := Ra.out.c0
  have o0 := Ro.out.c0
  have p0 := Rp.out.c0
  have HNA := Lib.hid hna
  have HNO := Lib.hid hno
  have HNP := Lib.hid hnp
  clear hna hno hnp
  obtain ⟨i0, TR⟩ := etRow
  have FD := Lib.hid (Fr.refl [] wp4).drew
  have FD1 := Lib.hid (FD.out.alloc (.cells #[] 31))
  have FD1sz : Hid ((wp4).drew.heap.size ≤ ((wp4).drew.alloc (.cells #[] 31)).heap.size) := Lib.hid (by rw [World.size_alloc]; exact Nat.le_succ _)
  have HLS : Hid (r1.length + r2.length ≤ 8000) := Lib.hid (by have := L1.out; have := L2.out; omega)
  have OE := Lib.hid (own_empty (wp4).drew)
  have RO := Lib.hid (reads_of_rows (Lo.out.fr0 FD1.out))
  rw [← HNO.out] at RO
  have hD1 := (Ra.out.fr FD.out (by simp)).c0
  have hD2 := (Ro.out.fr FD.out (by simp)).c0
  have hD3 := (Rp.out.fr FD.out (by simp)).c0
  have hE1 := (Ra.out.fr FD1.out (by simp)).c0
  have hE2 := (Ro.out.fr FD1.out (by simp)).c0
  have hE3 := (Rp.out.fr FD1.out (by simp)).c0
  go_region_held3 (fun w' => w'.cell? ⟨ga, 0, none⟩ = some (.slice Aa na ka) ∧ w'.cell? ⟨go, 0, none⟩ = some (.slice Ao no ko) ∧ w'.cell? ⟨gp, 0, none⟩ = some (.slice Ap np kp))
    (first | exact ⟨hD1, hD2, hD3⟩ | exact ⟨hE1, hE2, hE3⟩ | exact ⟨hF1, hF2, hF3⟩ | exact ⟨hG1, hG2, hG3⟩ | exact ⟨hH1, hH2, hH3⟩ | go_keep)
    (first
      | (refine step_appendL rfl _ _ rfl TR RowV.cells_len RowV.cells_one rfl OE.out _ _ _ _ r1 rfl HNO.out RO.out (Nat.le_trans (by simpa using L1.out) (by decide)) (Nat.le_trans (Nat.mul_le_mul_right 40 (by simpa using L1.out)) (by decide)) ?_; intro v5 w5 hown5 hg5 hat5; rw [List.nil_append] at hown5; have O5 := Lib.hid hown5; have F5 := Lib.hid ((FD1.out).grown hg5 (fun g hg => .inr (by injection hg with hg; rw [← hg]; exact Nat.le_refl _))); have W5 := Lib.hid (app_ge (W := (wp4).drew) (own_lit _ _ _) FD1sz.out hat5); have RP := reads_of_rows (Lp.out.fr0 F5.out); rw [← HNP.out] at RP; have RP5 := Lib.hid RP; clear RP; clear hown5 hg5 hat5; have hF1 := (Ra.out.fr F5.out (by simp)).c0; have hF2 := (Ro.out.fr F5.out (by simp)).c0; have hF3 := (Rp.out.fr F5.out (by simp)).c0)
      | (refine step_appendL rfl _ _ rfl TR RowV.cells_len RowV.cells_one rfl O5.out _ _ _ _ r2 rfl HNP.out RP5.out (Nat.le_trans HLS.out (by decide)) (Nat.le_trans (Nat.mul_le_mul_right 40 HLS.out) (by decide)) ?_; intro v6 w6 hown6 hg6 hat6; have F6 := Lib.hid ((F5.out).grown hg6 (fun g hg => .inr (Nat.le_trans (Nat.le_refl _) (W5.out g hg)))); obtain ⟨A6, n6, k6, hv6⟩ : ∃ A n c, v6 = .slice A n c := (match hown6.val with | ⟨_, _, hv⟩ => ⟨_, _, _, hv⟩); subst hv6; have X6 := Lib.hid (OwnL.rowsAt hown6); clear hown6 hg6 hat6; have hG1 := (Ra.out.fr F6.out (by simp)).c0; have hG2 := (Ro.out.fr F6.out (by simp)).c0; have hG3 := (Rp.out.fr F6.out (by simp)).c0)
      | (go_at_call 27; refine (same3_eq A6 n6 k6 (r1 ++ r2) Aa na ka rw_ w6 X6.out.1 X6.out.2 (La.out.fr0 F6.out) HNA.out (by rw [X6.out.2, List.length_append]; exact HLS.out) HD.out.rows.symm (by rw [HNA.out]; exact LW.out)).mono ?_; rintro e w7 ⟨rfl, f7⟩; have F7 := Lib.hid (F6.out.trans f7); clear f7; have hH1 := (Ra.out.fr F7.out (by simp)).c0; have hH2 := (Ro.out.fr F7.out (by simp)).c0; have hH3 := (Rp.out.fr F7.out (by simp)).c0))
  clear hD1 hD2 hD3 hE1 hE2 hE3 hF1 hF2 hF3 hG1 hG2 hG3 a0 o0 p0
  have hqf := SNq.out.q.fr F7.out (by simp)
  have c0 := hqf.c0
  clear hqf
  have a1 := (Ra.out.fr F7.out (by simp)).c1
  have a2 := (Ra.out.fr F7.out (by simp)).c2
  have o1 := (Ro.out.fr F7.out (by simp)).c1
  have o2 := (Ro.out.fr F7.out (by simp)).c2
  have p1 := (Rp.out.fr F7.out (by simp)).c1
  have p2 := (Rp.out.fr F7.out (by simp)).c2
  have FF := Lib.hid (FE.out.trans F7.out)
  have HDS := HD.out.sum
  have HDN := HD.out.mn
  have HDX := HD.out.mx
  dsimp only at HDS HDN HDX
  have HS := Lib.hid HDS
  have HN := Lib.hid HDN
  have HM := Lib.hid HDX
  clear HDS HDN HDX
  by_cases k3 : qk = 3 ∨ qk = 4
  · obtain ⟨hs, hb1, hb2⟩ := HS.out k3
    have ev : (v1 + v2 == vw) = true := by simp [hs]
    have HSS := Lib.hid hs
    clear hs
    rcases k3 with rfl | rfl
    all_goals
      go_wp2_with fail
      go_ret
      exact ⟨rfl, FF.out.below⟩
  by_cases k5 : qk = 5
  · obtain ⟨hf, h1, h2, h3⟩ := HN.out k5
    subst k5
    cases hf1 : f1 <;> cases hf2 : f2 <;> subst hf1 <;> subst hf2 <;> simp at hf h1 h2 h3 <;> subst hf <;> simp at h3
    · go_wp2_with fail
      go_ret
      exact ⟨rfl, FF.out.below⟩
    · have ev : (vw == v2) = true := by simp [h3]
      have e2 : decide (vw ≤ v2) = true := by simp [h2]
      clear h3
      go_wp2_with fail
      go_ret
      exact ⟨rfl, FF.out.below⟩
    · have ev : (vw == v1) = true := by simp [h3]
      have e2 : decide (vw ≤ v1) = true := by simp [h1]
      clear h3
      go_wp2_with fail
      go_ret
      exact ⟨rfl, FF.out.below⟩
    · have e1 : decide (vw ≤ v1) = true := by simp [h1]
      have e2 : decide (vw ≤ v2) = true := by simp [h2]
      by_cases hv : vw = v1
      · have ev : (vw == v1) = true := by simp [hv]
        clear h3 hv
        go_wp2_with fail
        go_ret
        exact ⟨rfl, FF.out.below⟩
      · have ev1 : (vw == v1) = false := by simp [hv]
        have ev : (vw == v2) = true := by simp; omega
        clear h3 hv
        go_wp2_with fail
        go_ret
        exact ⟨rfl, FF.out.below⟩
  by_cases k6 : qk = 6
  · obtain ⟨hf, h1, h2, h3⟩ := HM.out k6
    subst k6
    cases hf1 : f1 <;> cases hf2 : f2 <;> subst hf1 <;> subst hf2 <;> simp at hf h1 h2 h3 <;> subst hf <;> simp at h3
    · go_wp2_with fail
      go_ret
      exact ⟨rfl, FF.out.below⟩
    · have ev : (vw == v2) = true := by simp [h3]
      have e2 : decide (v2 ≤ vw) = true := by simp [h2]
      clear h3
      go_wp2_with fail
      go_ret
      exact ⟨rfl, FF.out.below⟩
    · have ev : (vw == v1) = true := by simp [h3]
      have e2 : decide (v1 ≤ vw) = true := by simp [h1]
      clear h3
      go_wp2_with fail
      go_ret
      exact ⟨rfl, FF.out.below⟩
    · have e1 : decide (v1 ≤ vw) = true := by simp [h1]
      have e2 : decide (v2 ≤ vw) = true := by simp [h2]
      by_cases hv : vw = v1
      · have ev : (vw == v1) = true := by simp [hv]
        clear h3 hv
        go_wp2_with fail
        go_ret
        exact ⟨rfl, FF.out.below⟩
      · have ev1 : (vw == v1) = false := by simp [hv]
        have ev : (vw == v2) = true := by simp; omega
        clear h3 hv
        go_wp2_with fail
        go_ret
        exact ⟨rfl, FF.out.below⟩
  have n3 : (qk == 3) = false := by simp; omega
  have n4 : (qk == 4) = false := by simp; omega
  have n5 : (qk == 5) = false := by simp [k5]
  have n6 : (qk == 6) = false := by simp [k6]
  go_wp2_with fail
  go_ret
  exact ⟨rfl, FF.out.below⟩
end Go.Proofs.Ytlicjokgcahmlaa
