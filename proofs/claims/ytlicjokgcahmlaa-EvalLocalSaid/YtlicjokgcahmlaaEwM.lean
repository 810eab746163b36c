/-
  EvalLocal: the walk of the law.
-/
import Derived.Test.YtlicjokgcahmlaaEwL
namespace Go.Proofs.Ytlicjokgcahmlaa
open Go.RowKit

theorem sat_n (A : Option Addr) (n cap : Nat) (l : List Rec) (p : Int) (k : Nat) (w : World) (h : RecsAt w A l) (hn : n = l.length) (hl : l.length ≤ 1000) (hp : p = k) (hk : k ≤ l.length) (hlc : n ≤ cap) (hok : ∀ i (h : i < l.length), Sm.fits (Lg.run (l.take i)) l[i] = true) :
    Calls Try.prog 20 #[.slice A n cap, .int .i64 p] w fun e w' => ∃ b m, e = .returned (.tuple #[.pointer (some ⟨b, 0, none⟩), .int .i64 0]) ∧ StaAt w' b m (Lg.run (l.take k)) ∧ Fr [] w w' := by
  subst hn hp
  exact (sat_ok A cap l k w h hl hk hlc (fun i h _ => hok i h)).mono fun e w' ⟨b, m, h1, h2, h3, _⟩ => ⟨b, m, h1, h2, h3⟩
/-- A change's cells where the record's changes lie. -/
theorem HoldsC.one {w : World} {A : Option Addr} {c : Chg} (h : HoldsC w A [c]) : ∃ b off, A = some ⟨b, off, none⟩ ∧ b < w.heap.size ∧ w.cell? ⟨b, off, none⟩ = some (.int .i64 c.t) ∧ w.cell? ⟨b, off + 1, none⟩ = some (.int .i64 c.k) ∧ w.cell? ⟨b, off + 2, none⟩ = some (.bool c.had) ∧ w.cell? ⟨b, off + 3, none⟩ = some (.int .i64 c.o0) ∧ w.cell? ⟨b, off + 4, none⟩ = some (.int .i64 c.o1) ∧
    w.cell? ⟨b, off + 5, none⟩ = some (.int .i64 c.o2) ∧ w.cell? ⟨b, off + 6, none⟩ = some (.bool c.has) ∧ w.cell? ⟨b, off + 7, none⟩ = some (.int .i64 c.n0) ∧ w.cell? ⟨b, off + 8, none⟩ = some (.int .i64 c.n1) ∧ w.cell? ⟨b, off + 9, none⟩ = some (.int .i64 c.n2) := by
  obtain ⟨b, off, e, hb, hc⟩ := h.1 (by simp)
  refine ⟨b, off, e, hb, ?_⟩
  have h0 := hc 0 (by simp)
  exact ⟨h0 0 (by decide), h0 1 (by decide), h0 2 (by decide), h0 3 (by decide), h0 4 (by decide), h0 5 (by decide), h0 6 (by decide), h0 7 (by decide), h0 8 (by decide), h0 9 (by decide)⟩

set_option maxRecDepth 100000 in
set_option maxHeartbeats 8000000 in
theorem local_walk (A : Option Addr) (n cap : Nat) (x0 x1 x2 x3 : Int)  (w : World) (hn : n ≤ cap) (hcap : cap ≤ maxLen) (hx : Fours w A n) (o0 : okI x0) (o1 : okI x1) (o2 : okI x2) (o3 : okI x3)  :
    Calls Try.prog 8 #[.slice A n cap, .agg #[.int .i64 x0, .int .i64 x1, .int .i64 x2, .int .i64 x3]] w fun e w' => e = .returned (.bool true) ∧ Below w.heap.size w w' := by
  have F0 := (Fr.refl [] w).alloc (.cells #[.int .i64 x0, .int .i64 x1, .int .i64 x2, .int .i64 x3] 24)
  have HX := Lib.hid (hx.fr0 F0)
  have H4 : Hid (Four (w.alloc (.cells #[.int .i64 x0, .int .i64 x1, .int .i64 x2, .int .i64 x3] 24)) w.heap.size x0 x1 x2 x3) := Lib.hid (Blk.new _ _ _)
  have HF0 := Lib.hid F0
  have O0 := Lib.hid o0
  have O1 := Lib.hid o1
  have O2 := Lib.hid o2
  have O3 := Lib.hid o3
  clear hx o0 o1 o2 o3 F0
  go_enter Try.func8, Try.ntmps8
  go_upto_region 4 with (first
    | (go_at_call 11; refine (sane6_any _).mono ?_; rintro e wa ⟨rfl, fa⟩; have FA := Lib.hid fa; clear fa)
    | (go_at_call 19; refine (changes_any A n cap _ hn hcap (HX.out.fr0 FA.out)).mono ?_; rintro e wb ⟨A2, n2, c2, out, rfl, hown, hn2, hok, hol, fb, -⟩; have HN2 := Lib.hid hn2; have HRA0 := Lib.hid hown.recs.1; have HCAP : Hid (n2 ≤ c2) := Lib.hid (by rw [hn2] at hown ⊢; exact hown.cap); have HCG := Lib.hid hok; have HOL := Lib.hid hol; have FB := Lib.hid (FA.out.trans fb); have H4b := Lib.hid (H4.out.fr FB.out (by simp)); have g0 := H4b.out.cells.1; have g1 := H4b.out.cells.2.1; have g2 := H4b.out.cells.2.2.1; have g3 := H4b.out.cells.2.2.2; clear hown hn2 hok hol fb)
    | (go_at_call 12; refine (query6_any _ x1 x2 x3 _ (by first | exact O0.out | exact okI_wrap64 _ | exact okI_wrap _) O1.out O2.out O3.out).mono ?_; rintro e w1 ⟨⟨qk, qt, qc, ql, qh, qb, qo⟩, rfl, hq, f1⟩; have HQ := Lib.hid hq; have F1 := Lib.hid f1; clear hq f1))
  clear g0 g1 g2 g3 H4 HX
  have HRA := Lib.hid (HRA0.out.fr0 F1.out)
  have FW := Lib.hid ((HF0.out.trans FB.out).trans F1.out)
  have SN0 : Hid (Sn w1 (w1.alloc (.cells #[.int .i64 qk, .int .i64 qt, .int .i64 qc, .int .i64 ql, .int .i64 qh, .int .i64 qb, .int .i64 qo] 23)) w1.heap.size ⟨qk, qt, qc, ql, qh, qb, qo⟩) := Lib.hid ⟨(Fr.refl _ _).alloc _, QAt.new w1 ⟨qk, qt, qc, ql, qh, qb, qo⟩, Nat.le_refl _⟩
  clear HRA0 FB F1 H4b FA HF0 O0 O1 O2 O3
  generalize hwa : w1.alloc (.cells #[.int .i64 qk, .int .i64 qt, .int .i64 qc, .int .i64 ql, .int .i64 qh, .int .i64 qb, .int .i64 qo] 23) = wa0 at *
  clear hwa
  obtain ⟨gq, hgq⟩ : ∃ g, w1.heap.size = g := ⟨_, rfl⟩
  rw [hgq] at SN0 ⊢
  have HGQ : Hid (w1.heap.size ≤ gq) := Lib.hid (Nat.le_of_eq hgq)
  clear hgq
  have HQB := HQ.out
  have hqk := HQB.k
  have hqt := HQB.t
  have hqc := HQB.c
  have hql := HQB.lo
  have hqo := HQB.o
  have hqb := HQB.b
  dsimp only at hqk hqt hqc hql hqo hqb
  clear HQB
  have hn40 : n2 ≤ 40 := by rw [HN2.out]; exact HOL.out
  by_cases hz : n2 = 0
  · have ez : ((n2 : Int) == 0) = true := by simp [hz]
    have HZ := Lib.hid hz
    clear hz
    go_wp2_with fail
    go_ret
    exact ⟨rfl, (FW.out.trans SN0.out.fr).below⟩
  obtain ⟨nn, hnn⟩ : ∃ nn, n2 = nn + 1 := ⟨n2 - 1, by omega⟩
  have hlen : out.length = nn + 1 := by rw [← HN2.out, hnn]
  obtain ⟨pp, ⟨ct, ck, chad, q0, q1, q2, chas, m0, m1, m2⟩, hi, hlast, hcc, hchg, hid, hms, hput⟩ := HCG.out.last hlen
  have ez : ((n2 : Int) == 0) = false := by simp [hz]
  have HNN := Lib.hid hnn
  have HLEN := Lib.hid hlen

  have HLAST := Lib.hid hlast
  have HCH := Lib.hid (And.intro hid (And.intro hms hput))
  have HC1 := Lib.hid hcc.t
  clear hz hnn hlen hlast hcc hchg hid hms hput
  have hnn1 : (nn : Int) = n2 - 1 := by have := HNN.out; omega
  have HNI := Lib.hid hnn1
  clear hnn1
  go_upto_region 8 with (first
    | (go_at_call 20; (with_reducible refine (sat_n A2 n2 c2 out _ nn wa0 (HRA.out.fr0 SN0.out.fr) HN2.out (by have := HOL.out; omega) (by have := HNI.out; omega) (by rw [HLEN.out]; exact Nat.le_succ _) HCAP.out HCG.out.fits).mono ?_); rintro e ws ⟨b1, m1', rfl, hs1, fs⟩; have HS1 := Lib.hid hs1; have FS := Lib.hid fs; clear hs1 fs)
    | (go_at_call 20; (with_reducible refine (sat_n A2 n2 c2 out _ (nn + 1) ws ((HRA.out.fr0 SN0.out.fr).fr0 FS.out) HN2.out (by have := HOL.out; omega) (by have := HNN.out; omega) (by rw [HLEN.out]; exact Nat.le_refl _) HCAP.out HCG.out.fits).mono ?_); rintro e wt ⟨b2, m2', rfl, hs2, ft⟩; have HS2 := Lib.hid hs2; have FT := Lib.hid (FS.out.trans ft); have FTT := Lib.hid ft; clear hs2 ft))
  have SN1 := Lib.hid (SN0.out.fr0 FT.out)
  have HS1t := Lib.hid (HS1.out.fr0 FTT.out)
  have HRT := Lib.hid (HRA.out.fr0 SN1.out.fr)
  clear SN0 HS1 FS FT FTT HRA
  obtain ⟨bb, off, Ak, ckk, hA2, hbb, -, hcs, hhold, -⟩ := HRT.out.open_ hi
  rw [HLAST.out] at hcs hhold
  obtain ⟨bc, oc, hAk, hbc, k0, k1, k2, k3, k4, k5, k6, k7, k8, k9⟩ := hhold.one
  dsimp only at k0 k1 k2 k3 k4 k5 k6 k7 k8 k9
  subst hA2 hAk
  have hcs' : wt.cell? ⟨bb, off + nn * 2 + 1, none⟩ = some (.slice (some ⟨bc, oc, none⟩) 1 ckk) := hcs
  clear hcs hhold
  have hnc : (n2 : Int) - 1 = nn := by have := HNI.out; omega
  go_upto_region 11 with (fail)
  clear k0 k1 k2 k3 k4 k5 k6 k7 k8 k9 hcs' hnc
  have FC0 := (Fr.refl [] wt).alloc (.cells #[.int .i64 ct, .int .i64 ck, .bool chad, .int .i64 q0, .int .i64 q1, .int .i64 q2, .bool chas, .int .i64 m0, .int .i64 m1, .int .i64 m2] 62)
  have BC := Lib.hid (Blk.new wt 62 #[.int .i64 ct, .int .i64 ck, .bool chad, .int .i64 q0, .int .i64 q1, .int .i64 q2, .bool chas, .int .i64 m0, .int .i64 m1, .int .i64 m2])
  have SN2 := Lib.hid (SN1.out.fr0 FC0)
  have FC := Lib.hid FC0
  clear FC0 SN1
  generalize hw5 : wt.alloc (.cells #[.int .i64 ct, .int .i64 ck, .bool chad, .int .i64 q0, .int .i64 q1, .int .i64 q2, .bool chas, .int .i64 m0, .int .i64 m1, .int .i64 m2] 62) = wc5 at *
  clear hw5
  generalize wt.heap.size = gc at *
  have k0 : wc5.cell? ⟨gc, 0, none⟩ = some (.int .i64 ct) := BC.out.cell 0
  have k1 : wc5.cell? ⟨gc, 1, none⟩ = some (.int .i64 ck) := BC.out.cell 1
  have k2 : wc5.cell? ⟨gc, 2, none⟩ = some (.bool chad) := BC.out.cell 2
  have k3 : wc5.cell? ⟨gc, 3, none⟩ = some (.int .i64 q0) := BC.out.cell 3
  have k4 : wc5.cell? ⟨gc, 4, none⟩ = some (.int .i64 q1) := BC.out.cell 4
  have k5 : wc5.cell? ⟨gc, 5, none⟩ = some (.int .i64 q2) := BC.out.cell 5
  have k6 : wc5.cell? ⟨gc, 6, none⟩ = some (.bool chas) := BC.out.cell 6
  have k7 : wc5.cell? ⟨gc, 7, none⟩ = some (.int .i64 m0) := BC.out.cell 7
  have k8 : wc5.cell? ⟨gc, 8, none⟩ = some (.int .i64 m1) := BC.out.cell 8
  have k9 : wc5.cell? ⟨gc, 9, none⟩ = some (.int .i64 m2) := BC.out.cell 9
  go_upto_region 12 with (go_at_call 31; refine (before_any ⟨ct, ck, chad, q0, q1, q2, chas, m0, m1, m2⟩ _).mono ?_; rintro e wx ⟨u1, u2, u3, u4, u5, rfl, fx, hu⟩; have FX := Lib.hid fx; have HU := Lib.hid hu; clear fx hu)
  clear k0 k1 k2 k3 k4 k5 k6 k7 k8 k9
  have FZ := FX.out.alloc (.cells #[.int .i64 u1, .int .i64 u2, .int .i64 u3, .int .i64 u4, .int .i64 u5] 31)
  have BU := Lib.hid (Blk.new wx 31 #[.int .i64 u1, .int .i64 u2, .int .i64 u3, .int .i64 u4, .int .i64 u5])
  have SN3 := Lib.hid (SN2.out.fr0 FZ)
  replace FC := Lib.hid (FC.out.trans FZ)
  replace BC := Lib.hid (BC.out.fr FZ (by simp))
  clear FZ FX SN2
  generalize hw6 : wx.alloc (.cells #[.int .i64 u1, .int .i64 u2, .int .i64 u3, .int .i64 u4, .int .i64 u5] 31) = w6 at *
  clear hw6
  generalize wx.heap.size = gu at *
  have k0 : w6.cell? ⟨gc, 0, none⟩ = some (.int .i64 ct) := BC.out.cell 0
  have k1 : w6.cell? ⟨gc, 1, none⟩ = some (.int .i64 ck) := BC.out.cell 1
  have k2 : w6.cell? ⟨gc, 2, none⟩ = some (.bool chad) := BC.out.cell 2
  have k3 : w6.cell? ⟨gc, 3, none⟩ = some (.int .i64 q0) := BC.out.cell 3
  have k4 : w6.cell? ⟨gc, 4, none⟩ = some (.int .i64 q1) := BC.out.cell 4
  have k5 : w6.cell? ⟨gc, 5, none⟩ = some (.int .i64 q2) := BC.out.cell 5
  have k6 : w6.cell? ⟨gc, 6, none⟩ = some (.bool chas) := BC.out.cell 6
  have k7 : w6.cell? ⟨gc, 7, none⟩ = some (.int .i64 m0) := BC.out.cell 7
  have k8 : w6.cell? ⟨gc, 8, none⟩ = some (.int .i64 m1) := BC.out.cell 8
  have k9 : w6.cell? ⟨gc, 9, none⟩ = some (.int .i64 m2) := BC.out.cell 9
  go_upto_region 13 with (go_at_call 32; refine (after_any ⟨ct, ck, chad, q0, q1, q2, chas, m0, m1, m2⟩ _).mono ?_; rintro e wx ⟨v1, v2, v3, v4, v5, rfl, fx, hv⟩; have FX := Lib.hid fx; have HV := Lib.hid hv; clear fx hv)
  clear k0 k1 k2 k3 k4 k5 k6 k7 k8 k9
  have FZ := FX.out.alloc (.cells #[.int .i64 v1, .int .i64 v2, .int .i64 v3, .int .i64 v4, .int .i64 v5] 31)
  have BV := Lib.hid (Blk.new wx 31 #[.int .i64 v1, .int .i64 v2, .int .i64 v3, .int .i64 v4, .int .i64 v5])
  have SN4 := Lib.hid (SN3.out.fr0 FZ)
  replace FC := Lib.hid (FC.out.trans FZ)
  replace BC := Lib.hid (BC.out.fr FZ (by simp))
  replace BU := Lib.hid (BU.out.fr FZ (by simp))
  clear FZ FX SN3
  generalize hw7 : wx.alloc (.cells #[.int .i64 v1, .int .i64 v2, .int .i64 v3, .int .i64 v4, .int .i64 v5] 31) = w7 at *
  clear hw7
  generalize wx.heap.size = gv at *
  have k0 : w7.cell? ⟨gc, 0, none⟩ = some (.int .i64 ct) := BC.out.cell 0
  have u10 : w7.cell? ⟨gu, 0, none⟩ = some (.int .i64 u1) := BU.out.cell 0
  have u11 : w7.cell? ⟨gu, 1, none⟩ = some (.int .i64 u2) := BU.out.cell 1
  have u12 : w7.cell? ⟨gu, 2, none⟩ = some (.int .i64 u3) := BU.out.cell 2
  have u13 : w7.cell? ⟨gu, 3, none⟩ = some (.int .i64 u4) := BU.out.cell 3
  have u14 : w7.cell? ⟨gu, 4, none⟩ = some (.int .i64 u5) := BU.out.cell 4
  have c0 := SN4.out.q.c0
  have c1 := SN4.out.q.c1
  have c2 := SN4.out.q.c2
  have c3 := SN4.out.q.c3
  have c4 := SN4.out.q.c4
  have c5 := SN4.out.q.c5
  have c6 := SN4.out.q.c6
  obtain ⟨i1, HI1⟩ : ∃ b, Hid ((chad && inRng qt qc ql qh ⟨u1, u2, u3, u4, u5⟩) = b) := ⟨_, Lib.hid rfl⟩
  obtain ⟨i2, HI2⟩ : ∃ b, Hid ((chas && inRng qt qc ql qh ⟨v1, v2, v3, v4, v5⟩) = b) := ⟨_, Lib.hid rfl⟩
  have HIN1 := Lib.hid (fun W => in6_any ⟨qk, qt, qc, ql, qh, qb, qo⟩ u1 u2 u3 u4 u5 chad W)
  have HIN2 := Lib.hid (fun W => in6_any ⟨qk, qt, qc, ql, qh, qb, qo⟩ v1 v2 v3 v4 v5 chas W)
  dsimp only at HIN1 HIN2
  rw [HI1.out] at HIN1
  rw [HI2.out] at HIN2
  have FEND := Lib.hid (FW.out.trans SN4.out.fr)
  have SNE := SN4
  cases hi1 : i1
  case true =>
    subst hi1
    go_wp2_with (go_at_call 33; refine (HIN1.out _).mono ?_; rintro e wy ⟨rfl, fy⟩; have FY := Lib.hid fy; clear fy)
    go_ret
    exact ⟨rfl, (FEND.out.trans FY.out).below⟩
  subst hi1
  cases hi2 : i2
  case true =>
    subst hi2
    go_wp2_with (first | (go_at_call 33; (with_reducible refine (HIN1.out _).mono ?_); rintro e wy ⟨rfl, fy⟩; have FY := Lib.hid fy; replace BC := Lib.hid (BC.out.fr fy (by simp)); replace BV := Lib.hid (BV.out.fr fy (by simp)); replace SN4 := Lib.hid (SN4.out.fr0 fy); clear fy; have k0 : wy.cell? ⟨gc, 0, none⟩ = some (.int .i64 ct) := BC.out.cell 0; have v10 : wy.cell? ⟨gv, 0, none⟩ = some (.int .i64 v1) := BV.out.cell 0; have v11 : wy.cell? ⟨gv, 1, none⟩ = some (.int .i64 v2) := BV.out.cell 1; have v12 : wy.cell? ⟨gv, 2, none⟩ = some (.int .i64 v3) := BV.out.cell 2; have v13 : wy.cell? ⟨gv, 3, none⟩ = some (.int .i64 v4) := BV.out.cell 3; have v14 : wy.cell? ⟨gv, 4, none⟩ = some (.int .i64 v5) := BV.out.cell 4; have c0 := SN4.out.q.c0; have c1 := SN4.out.q.c1; have c2 := SN4.out.q.c2; have c3 := SN4.out.q.c3; have c4 := SN4.out.q.c4; have c5 := SN4.out.q.c5; have c6 := SN4.out.q.c6) | (go_at_call 33; (with_reducible refine (HIN2.out _).mono ?_); rintro e wz ⟨rfl, fz⟩; have FZ := Lib.hid (FY.out.trans fz); replace BC := Lib.hid (BC.out.fr fz (by simp)); replace SN4 := Lib.hid (SN4.out.fr0 fz); clear fz; have k0 : wz.cell? ⟨gc, 0, none⟩ = some (.int .i64 ct) := BC.out.cell 0; have c0 := SN4.out.q.c0; have c1 := SN4.out.q.c1; have c2 := SN4.out.q.c2; have c3 := SN4.out.q.c3; have c4 := SN4.out.q.c4; have c5 := SN4.out.q.c5; have c6 := SN4.out.q.c6))
    go_ret
    exact ⟨rfl, (FEND.out.trans FZ.out).below⟩
  subst hi2
  by_cases hjo : qk = 7 ∧ ct = qo
  · have e7 : (qk == 7) = true := by simp [hjo.1]
    have eo : (ct == qo) = true := by simp [hjo.2]
    have HJO := Lib.hid hjo
    clear hjo
    go_wp2_with (first | (go_at_call 33; (with_reducible refine (HIN1.out _).mono ?_); rintro e wy ⟨rfl, fy⟩; have FY := Lib.hid fy; replace BC := Lib.hid (BC.out.fr fy (by simp)); replace BV := Lib.hid (BV.out.fr fy (by simp)); replace SN4 := Lib.hid (SN4.out.fr0 fy); clear fy; have k0 : wy.cell? ⟨gc, 0, none⟩ = some (.int .i64 ct) := BC.out.cell 0; have v10 : wy.cell? ⟨gv, 0, none⟩ = some (.int .i64 v1) := BV.out.cell 0; have v11 : wy.cell? ⟨gv, 1, none⟩ = some (.int .i64 v2) := BV.out.cell 1; have v12 : wy.cell? ⟨gv, 2, none⟩ = some (.int .i64 v3) := BV.out.cell 2; have v13 : wy.cell? ⟨gv, 3, none⟩ = some (.int .i64 v4) := BV.out.cell 3; have v14 : wy.cell? ⟨gv, 4, none⟩ = some (.int .i64 v5) := BV.out.cell 4; have c0 := SN4.out.q.c0; have c1 := SN4.out.q.c1; have c2 := SN4.out.q.c2; have c3 := SN4.out.q.c3; have c4 := SN4.out.q.c4; have c5 := SN4.out.q.c5; have c6 := SN4.out.q.c6) | (go_at_call 33; (with_reducible refine (HIN2.out _).mono ?_); rintro e wz ⟨rfl, fz⟩; have FZ := Lib.hid (FY.out.trans fz); replace BC := Lib.hid (BC.out.fr fz (by simp)); replace SN4 := Lib.hid (SN4.out.fr0 fz); clear fz; have k0 : wz.cell? ⟨gc, 0, none⟩ = some (.int .i64 ct) := BC.out.cell 0; have c0 := SN4.out.q.c0; have c1 := SN4.out.q.c1; have c2 := SN4.out.q.c2; have c3 := SN4.out.q.c3; have c4 := SN4.out.q.c4; have c5 := SN4.out.q.c5; have c6 := SN4.out.q.c6))
    go_ret
    exact ⟨rfl, (FEND.out.trans FZ.out).below⟩
  have HSND1 := Lib.hid (Lg.run_sound (out.take nn))
  have HSND2 := Lib.hid (Lg.run_sound (out.take (nn + 1)))
  have HOK1 := Lib.hid (Lg.run_ok (out.take nn))
  have HEQ : Hid (Em.of (Lg.run (out.take (nn + 1))) ⟨qk, qt, qc, ql, qh, qb, qo⟩ = Em.of (Lg.run (out.take nn)) ⟨qk, qt, qc, ql, qh, qb, qo⟩) := Lib.hid (Em.of_local HOK1.out HCH.out.2.2 HCH.out.1 HCH.out.2.1
    (fun hh => by
      obtain ⟨e1, e2, e3, e4, e5⟩ := HU.out hh
      have h := HI1.out
      rw [e1, e2, e3, e4, e5] at h
      dsimp only at hh
      rw [hh] at h
      simpa [Em.beforeR] using h)
    (fun hh => by
      obtain ⟨e1, e2, e3, e4, e5⟩ := HV.out hh
      have h := HI2.out
      rw [e1, e2, e3, e4, e5] at h
      dsimp only at hh
      rw [hh] at h
      simpa [Sm.after] using h)
    (fun hk ht => hjo ⟨hk, ht⟩))
  have HVW : Hid (Em.valid ⟨qk, qt, qc, ql, qh, qb, qo⟩ = true) := Lib.hid HQ.out.valid
  obtain ⟨⟨rr, vv, ff⟩, HO1⟩ : ∃ r, Hid (Em.of (Lg.run (out.take nn)) ⟨qk, qt, qc, ql, qh, qb, qo⟩ = r) := ⟨_, Lib.hid rfl⟩
  have HO2 : Hid (Em.of (Lg.run (out.take (nn + 1))) ⟨qk, qt, qc, ql, qh, qb, qo⟩ = ⟨rr, vv, ff⟩) := Lib.hid (by rw [HEQ.out, HO1.out])
  have HRL : Hid (rr.length ≤ 4000) := Lib.hid (by have h := Em.of_len HOK1.out ⟨qk, qt, qc, ql, qh, qb, qo⟩; rw [HO1.out] at h; exact h)
  go_cut [91] (fun v wc => v = .bool false ∧ Hid (Sn w1 wc gq ⟨qk, qt, qc, ql, qh, qb, qo⟩) ∧ Hid (Fr [] wt wc))
  case first =>
    by_cases h7 : qk = 7
    · have e7 : (qk == 7) = true := by simp [h7]
      have eo : (ct == qo) = false := by simp; exact fun h => hjo ⟨h7, h⟩
      have HH := Lib.hid h7
      clear h7 hjo
      go_wp2_with (first | (go_at_call 33; (with_reducible refine (HIN1.out _).mono ?_); rintro e wy ⟨rfl, fy⟩; have FY := Lib.hid fy; replace BC := Lib.hid (BC.out.fr fy (by simp)); replace BV := Lib.hid (BV.out.fr fy (by simp)); replace SN4 := Lib.hid (SN4.out.fr0 fy); clear fy; have k0 : wy.cell? ⟨gc, 0, none⟩ = some (.int .i64 ct) := BC.out.cell 0; have v10 : wy.cell? ⟨gv, 0, none⟩ = some (.int .i64 v1) := BV.out.cell 0; have v11 : wy.cell? ⟨gv, 1, none⟩ = some (.int .i64 v2) := BV.out.cell 1; have v12 : wy.cell? ⟨gv, 2, none⟩ = some (.int .i64 v3) := BV.out.cell 2; have v13 : wy.cell? ⟨gv, 3, none⟩ = some (.int .i64 v4) := BV.out.cell 3; have v14 : wy.cell? ⟨gv, 4, none⟩ = some (.int .i64 v5) := BV.out.cell 4; have c0 := SN4.out.q.c0; have c1 := SN4.out.q.c1; have c2 := SN4.out.q.c2; have c3 := SN4.out.q.c3; have c4 := SN4.out.q.c4; have c5 := SN4.out.q.c5; have c6 := SN4.out.q.c6) | (go_at_call 33; (with_reducible refine (HIN2.out _).mono ?_); rintro e wz ⟨rfl, fz⟩; have FZ := Lib.hid (FY.out.trans fz); replace BC := Lib.hid (BC.out.fr fz (by simp)); replace SN4 := Lib.hid (SN4.out.fr0 fz); clear fz; have k0 : wz.cell? ⟨gc, 0, none⟩ = some (.int .i64 ct) := BC.out.cell 0; have c0 := SN4.out.q.c0; have c1 := SN4.out.q.c1; have c2 := SN4.out.q.c2; have c3 := SN4.out.q.c3; have c4 := SN4.out.q.c4; have c5 := SN4.out.q.c5; have c6 := SN4.out.q.c6))
      go_meet
      exact ⟨rfl, SN4, Lib.hid (FC.out.trans FZ.out)⟩
    · have e7 : (qk == 7) = false := by simp [h7]
      clear hjo
      go_wp2_with (first | (go_at_call 33; (with_reducible refine (HIN1.out _).mono ?_); rintro e wy ⟨rfl, fy⟩; have FY := Lib.hid fy; replace BC := Lib.hid (BC.out.fr fy (by simp)); replace BV := Lib.hid (BV.out.fr fy (by simp)); replace SN4 := Lib.hid (SN4.out.fr0 fy); clear fy; have k0 : wy.cell? ⟨gc, 0, none⟩ = some (.int .i64 ct) := BC.out.cell 0; have v10 : wy.cell? ⟨gv, 0, none⟩ = some (.int .i64 v1) := BV.out.cell 0; have v11 : wy.cell? ⟨gv, 1, none⟩ = some (.int .i64 v2) := BV.out.cell 1; have v12 : wy.cell? ⟨gv, 2, none⟩ = some (.int .i64 v3) := BV.out.cell 2; have v13 : wy.cell? ⟨gv, 3, none⟩ = some (.int .i64 v4) := BV.out.cell 3; have v14 : wy.cell? ⟨gv, 4, none⟩ = some (.int .i64 v5) := BV.out.cell 4; have c0 := SN4.out.q.c0; have c1 := SN4.out.q.c1; have c2 := SN4.out.q.c2; have c3 := SN4.out.q.c3; have c4 := SN4.out.q.c4; have c5 := SN4.out.q.c5; have c6 := SN4.out.q.c6) | (go_at_call 33; (with_reducible refine (HIN2.out _).mono ?_); rintro e wz ⟨rfl, fz⟩; have FZ := Lib.hid (FY.out.trans fz); replace BC := Lib.hid (BC.out.fr fz (by simp)); replace SN4 := Lib.hid (SN4.out.fr0 fz); clear fz; have k0 : wz.cell? ⟨gc, 0, none⟩ = some (.int .i64 ct) := BC.out.cell 0; have c0 := SN4.out.q.c0; have c1 := SN4.out.q.c1; have c2 := SN4.out.q.c2; have c3 := SN4.out.q.c3; have c4 := SN4.out.q.c4; have c5 := SN4.out.q.c5; have c6 := SN4.out.q.c6))
      go_meet
      exact ⟨rfl, SN4, Lib.hid (FC.out.trans FZ.out)⟩
  case rest =>
  obtain ⟨rfl, SN5, FT5⟩ := hcut
  clear SN4 SNE c0 c1 c2 c3 c4 c5 c6 k0 u10 u11 u12 u13 u14 FC HIN1 HIN2 BC BU BV

  have c0 : wc.cell? ⟨gq, 0, none⟩ = some (.int .i64 (qk)) := SN5.out.q.c0
  have c1 : wc.cell? ⟨gq, 1, none⟩ = some (.int .i64 (qt)) := SN5.out.q.c1
  have c2 : wc.cell? ⟨gq, 2, none⟩ = some (.int .i64 (qc)) := SN5.out.q.c2
  have c3 : wc.cell? ⟨gq, 3, none⟩ = some (.int .i64 (ql)) := SN5.out.q.c3
  have c4 : wc.cell? ⟨gq, 4, none⟩ = some (.int .i64 (qh)) := SN5.out.q.c4
  have c5 : wc.cell? ⟨gq, 5, none⟩ = some (.int .i64 (qb)) := SN5.out.q.c5
  have c6 : wc.cell? ⟨gq, 6, none⟩ = some (.int .i64 (qo)) := SN5.out.q.c6
  go_upto_region 16 with (go_at_call 22; refine (eof_is (HS1t.out.fr0 FT5.out) HSND1.out (q := ⟨qk, qt, qc, ql, qh, qb, qo⟩) HVW.out HO1.out).mono ?_; rintro e wx ⟨Aa, na, ka, rfl, hna, hl, fx, had⟩; have HNa := Lib.hid hna; have FX := Lib.hid fx; have La := Lib.hid hl; have ND := Lib.hid had; clear fx hna hl had)
  clear c0 c1 c2 c3 c4 c5 c6
  have FZ := FX.out.alloc (.cells #[.slice Aa na ka, .int .i64 (vv), .bool ff] 27)
  replace FT5 := Lib.hid (FT5.out.trans FZ)
  replace La := Lib.hid (La.out.fr0 ((Fr.refl [] wx).alloc (.cells #[.slice Aa na ka, .int .i64 (vv), .bool ff] 27)))
  have Na : Hid (∀ ad, Aa = some ad → gq < ad.block) := Lib.hid (fun ad e => Nat.lt_of_lt_of_le (Blk.lt SN5.out.q) (ND.out ad e))
  have Ra := Lib.hid (RsAt.new wx (.slice Aa na ka) (vv) ff)
  have SN6 := Lib.hid (SN5.out.fr0 FZ)
  clear FZ FX ND 
  generalize hwz : wx.alloc (.cells #[.slice Aa na ka, .int .i64 (vv), .bool ff] 27) = wa6 at *
  clear hwz SN5
  generalize wx.heap.size = ga at *
  have c0 : wa6.cell? ⟨gq, 0, none⟩ = some (.int .i64 (qk)) := SN6.out.q.c0
  have c1 : wa6.cell? ⟨gq, 1, none⟩ = some (.int .i64 (qt)) := SN6.out.q.c1
  have c2 : wa6.cell? ⟨gq, 2, none⟩ = some (.int .i64 (qc)) := SN6.out.q.c2
  have c3 : wa6.cell? ⟨gq, 3, none⟩ = some (.int .i64 (ql)) := SN6.out.q.c3
  have c4 : wa6.cell? ⟨gq, 4, none⟩ = some (.int .i64 (qh)) := SN6.out.q.c4
  have c5 : wa6.cell? ⟨gq, 5, none⟩ = some (.int .i64 (qb)) := SN6.out.q.c5
  have c6 : wa6.cell? ⟨gq, 6, none⟩ = some (.int .i64 (qo)) := SN6.out.q.c6
  go_upto_region 17 with (go_at_call 22; refine (eof_is (HS2.out.fr0 FT5.out) HSND2.out (q := ⟨qk, qt, qc, ql, qh, qb, qo⟩) HVW.out HO2.out).mono ?_; rintro e wx ⟨Ab, nb, kb, rfl, hnb, hl, fx, had⟩; have HNb := Lib.hid hnb; have FX := Lib.hid fx; have Lb := Lib.hid hl; have ND := Lib.hid had; clear fx hnb hl had)
  clear c0 c1 c2 c3 c4 c5 c6
  have FZ := FX.out.alloc (.cells #[.slice Ab nb kb, .int .i64 (vv), .bool ff] 27)
  replace FT5 := Lib.hid (FT5.out.trans FZ)
  replace Ra := Lib.hid (Ra.out.fr FZ (by simp))
  replace La := Lib.hid (La.out.fr0 FZ)
  replace Lb := Lib.hid (Lb.out.fr0 ((Fr.refl [] wx).alloc (.cells #[.slice Ab nb kb, .int .i64 (vv), .bool ff] 27)))
  have Nb : Hid (∀ ad, Ab = some ad → gq < ad.block) := Lib.hid (fun ad e => Nat.lt_of_lt_of_le (Blk.lt SN6.out.q) (ND.out ad e))
  have Rb := Lib.hid (RsAt.new wx (.slice Ab nb kb) (vv) ff)
  have SN7 := Lib.hid (SN6.out.fr0 FZ)
  clear FZ FX ND 
  generalize hwz : wx.alloc (.cells #[.slice Ab nb kb, .int .i64 (vv), .bool ff] 27) = wb7 at *
  clear hwz SN6
  generalize wx.heap.size = gb at *
  have FE := Lib.hid (FW.out.trans SN7.out.fr)
  have a0 := Ra.out.c0
  have a1 := Ra.out.c1
  have a2 := Ra.out.c2
  have b0 := Rb.out.c0
  have b1 := Rb.out.c1
  have b2 := Rb.out.c2
  have HSM : Hid (∀ W : World, Fr [] wb7 W → Calls Try.prog 15 #[.agg #[.slice Aa na ka, .int .i64 vv, .bool ff], .agg #[.slice Ab nb kb, .int .i64 vv, .bool ff]] W fun e w' => e = .returned (.bool true) ∧ Fr [] W w') := Lib.hid (fun W hf => by
    have h := rsame_any Aa na ka vv ff rr Ab nb kb vv ff rr W (La.out.fr0 hf) HNa.out (Lb.out.fr0 hf) HNb.out (by rw [HNa.out]; exact HRL.out) (by rw [HNb.out]; exact HRL.out)
    rwa [decide_eq_true rfl] at h)
  go_wp2_with (go_at_call 15; refine (HSM.out _ (Fr.refl [] _)).mono ?_; rintro e wy ⟨rfl, fy⟩; have FY := Lib.hid fy; clear fy)
  go_ret
  exact ⟨rfl, (FE.out.trans FY.out).below⟩
end Go.Proofs.Ytlicjokgcahmlaa
