/-
  EvalMatchesReference: the walk of the law.
-/
import Derived.Test.YtlicjokgcahmlaaEwR
import Derived.Test.YtlicjokgcahmlaaRfI
import Derived.Test.YtlicjokgcahmlaaEwL
namespace Go.Proofs.Ytlicjokgcahmlaa
open Go.RowKit

theorem sat_n2 (A : Option Addr) (n cap : Nat) (l : List Rec) (w : World) (h : RecsAt w A l) (hn : n = l.length) (hl : l.length ≤ 1000) (hlc : n ≤ cap) (hok : ∀ i (h : i < l.length), Sm.fits (Lg.run (l.take i)) l[i] = true) :
    Calls Try.prog 20 #[.slice A n cap, .int .i64 n] w fun e w' => ∃ b m, e = .returned (.tuple #[.pointer (some ⟨b, 0, none⟩), .int .i64 0]) ∧ StaAt w' b m (Lg.run l) ∧ Fr [] w w' := by
  subst hn
  have h2 := sat_ok A cap l l.length w h hl (Nat.le_refl _) hlc (fun i h _ => hok i h)
  rw [List.take_length] at h2
  exact h2.mono fun e w' ⟨b, m, h1, h2, h3, _⟩ => ⟨b, m, h1, h2, h3⟩
theorem rfat_n (A : Option Addr) (n cap : Nat) (l : List Rec) (w : World) (h : RecsAt w A l) (hn : n = l.length) (hl : l.length ≤ 1000) (hok : ∀ i (h : i < l.length), Sm.fits (Lg.run (l.take i)) l[i] = true) :
    Calls Try.prog 21 #[.slice A n cap, .int .i64 n] w fun e w' => ∃ b v L, e = .returned (.tuple #[.pointer (some ⟨b, 0, none⟩), .int .i64 0]) ∧ RfAt w' b v L (Lg.run l) ∧ Fr [] w w' := by
  subst hn
  have h2 := rfat_ok A cap l l.length w h hl (Nat.le_refl _) (fun i h _ => hok i h)
  rw [List.take_length] at h2
  exact h2.mono fun e w' hh => by
    obtain ⟨b, v, L, h1, h2, h3⟩ := hh
    exact ⟨b, v, L, h1, h2, h3.1⟩
set_option maxRecDepth 100000 in
set_option maxHeartbeats 8000000 in
theorem ematch_walk (A : Option Addr) (n cap : Nat) (q : Qry) (x0 x1 x2 x3 : Int) (w : World) (hn : n ≤ cap) (hcap : cap ≤ maxLen) (hx : Fours w A n) (o0 : okI x0) (o1 : okI x1) (o2 : okI x2) (o3 : okI x3) :
    Calls Try.prog 4 #[.slice A n cap, q.val, .agg #[.int .i64 x0, .int .i64 x1, .int .i64 x2, .int .i64 x3]] w fun e w' => e = .returned (.bool true) ∧ Below w.heap.size w w' := by
  obtain ⟨rk, rt, rc, rl, rh, rb, ro⟩ := q
  unfold Qry.val
  dsimp only
  have F0 := ((Fr.refl [] w).alloc (.cells #[.int .i64 rk, .int .i64 rt, .int .i64 rc, .int .i64 rl, .int .i64 rh, .int .i64 rb, .int .i64 ro] 23)).alloc (.cells #[.int .i64 x0, .int .i64 x1, .int .i64 x2, .int .i64 x3] 24)
  have HX := Lib.hid (hx.fr0 F0)
  have HQ0 : Hid (QAt ((w.alloc (.cells #[.int .i64 rk, .int .i64 rt, .int .i64 rc, .int .i64 rl, .int .i64 rh, .int .i64 rb, .int .i64 ro] 23)).alloc (.cells #[.int .i64 x0, .int .i64 x1, .int .i64 x2, .int .i64 x3] 24)) w.heap.size ⟨rk, rt, rc, rl, rh, rb, ro⟩) := Lib.hid ((QAt.new w ⟨rk, rt, rc, rl, rh, rb, ro⟩).fr ((Fr.refl [] _).alloc _) (by simp))
  have h4 : Four ((w.alloc (.cells #[.int .i64 rk, .int .i64 rt, .int .i64 rc, .int .i64 rl, .int .i64 rh, .int .i64 rb, .int .i64 ro] 23)).alloc (.cells #[.int .i64 x0, .int .i64 x1, .int .i64 x2, .int .i64 x3] 24)) (w.heap.size + 1) x0 x1 x2 x3 := by
    have h := Blk.new (w.alloc (.cells #[.int .i64 rk, .int .i64 rt, .int .i64 rc, .int .i64 rl, .int .i64 rh, .int .i64 rb, .int .i64 ro] 23)) 24 #[.int .i64 x0, .int .i64 x1, .int .i64 x2, .int .i64 x3]
    rw [World.size_alloc] at h
    exact h
  have H4 := Lib.hid h4
  have HF0 := Lib.hid F0
  have O0 := Lib.hid o0
  have O1 := Lib.hid o1
  have O2 := Lib.hid o2
  have O3 := Lib.hid o3
  clear hx o0 o1 o2 o3 F0 h4
  go_enter Try.func4, Try.ntmps4
  go_upto_region 5 with (first
    | (go_at_call 11; refine (sane6_any _).mono ?_; rintro e wa ⟨rfl, fa⟩; have FA := Lib.hid fa; clear fa)
    | (go_at_call 19; refine (changes_any A n cap _ hn hcap (HX.out.fr0 FA.out)).mono ?_; rintro e wb ⟨A2, n2, c2, out, rfl, hown, hn2, hok, hol, fb, -⟩; have HN2 := Lib.hid hn2; have HRA := Lib.hid hown.recs.1; have HCAP : Hid (n2 ≤ c2) := Lib.hid (by rw [hn2] at hown ⊢; exact hown.cap); have HCG := Lib.hid hok; have HOL := Lib.hid hol; have FB := Lib.hid (FA.out.trans fb); clear hown hn2 hok hol fb)
    | (go_at_call 20; refine (sat_n2 A2 n2 c2 out wb HRA.out HN2.out (by have := HOL.out; omega) HCAP.out HCG.out.fits).mono ?_; rintro e ws ⟨bs, m, rfl, hs1, fs⟩; have HS1 := Lib.hid hs1; have FS := Lib.hid fs; clear hs1 fs)
    | (go_at_call 21; refine (rfat_n A2 n2 c2 out ws (HRA.out.fr0 FS.out) HN2.out (by have := HOL.out; omega) HCG.out.fits).mono ?_; rintro e w1 ⟨bt, vt, LT, rfl, hs2, ft⟩; have HT1 := Lib.hid hs2; have HST := Lib.hid (HS1.out.fr0 ft); have F1 := Lib.hid ((FB.out.trans FS.out).trans ft); clear hs2 ft))
  have FW := Lib.hid (HF0.out.trans F1.out)
  have HQ1 := Lib.hid (HQ0.out.fr F1.out (by simp))
  have H41 := Lib.hid (H4.out.fr F1.out (by simp))
  have HSND := Lib.hid (Lg.run_sound out)
  have HSOK := Lib.hid (Lg.run_ok out)
  clear HS1 FS F1 FB FA HF0 HQ0 H4 HX HRA
  have g0 := H41.out.cells.1
  have g1 := H41.out.cells.2.1
  have g2 := H41.out.cells.2.2.1
  have g3 := H41.out.cells.2.2.2
  have q0 := HQ1.out.c0
  have q1 := HQ1.out.c1
  have q2 := HQ1.out.c2
  have q3 := HQ1.out.c3
  have q4 := HQ1.out.c4
  have q5 := HQ1.out.c5
  have q6 := HQ1.out.c6
  dsimp only at q0 q1 q2 q3 q4 q5 q6
  go_upto_region 7 with (fail)
  have FD := Lib.hid (Fr.refl [] w1).drew
  go_region_held3 (fun w' => (w'.cell? ⟨w.heap.size, 0, none⟩ = some (.int .i64 rk) ∧ w'.cell? ⟨w.heap.size, 1, none⟩ = some (.int .i64 rt) ∧ w'.cell? ⟨w.heap.size, 2, none⟩ = some (.int .i64 rc) ∧ w'.cell? ⟨w.heap.size, 3, none⟩ = some (.int .i64 rl) ∧ w'.cell? ⟨w.heap.size, 4, none⟩ = some (.int .i64 rh) ∧ w'.cell? ⟨w.heap.size, 5, none⟩ = some (.int .i64 rb) ∧ w'.cell? ⟨w.heap.size, 6, none⟩ = some (.int .i64 ro)) ∧ w'.cell? ⟨w.heap.size + 1, 0, none⟩ = some (.int .i64 x0) ∧ w'.cell? ⟨w.heap.size + 1, 1, none⟩ = some (.int .i64 x1) ∧ w'.cell? ⟨w.heap.size + 1, 2, none⟩ = some (.int .i64 x2) ∧ w'.cell? ⟨w.heap.size + 1, 3, none⟩ = some (.int .i64 x3))
    (first | exact ⟨⟨q0, q1, q2, q3, q4, q5, q6⟩, g0, g1, g2, g3⟩ | exact ⟨⟨QY.out.c0, QY.out.c1, QY.out.c2, QY.out.c3, QY.out.c4, QY.out.c5, QY.out.c6⟩, FY4.out.cells⟩ | exact ⟨⟨QZ.out.c0, QZ.out.c1, QZ.out.c2, QZ.out.c3, QZ.out.c4, QZ.out.c5, QZ.out.c6⟩, FZ4.out.cells⟩ | go_keep)
    ((go_at_call 12; refine (query6_any _ x1 x2 x3 _ O0.out O1.out O2.out O3.out).mono ?_; rintro e wy ⟨⟨qk, qt, qc, ql, qh, qb, qo⟩, rfl, hq, fy⟩; have HQY := Lib.hid hq; have FY := Lib.hid (FD.out.trans fy); have QY := Lib.hid (HQ1.out.fr FY.out (by simp)); have FY4 := Lib.hid (H41.out.fr FY.out (by simp)); have QZ := Lib.hid (QY.out.fr ((Fr.refl [] wy).alloc (.cells #[.int .i64 rk, .int .i64 rt, .int .i64 rc, .int .i64 rl, .int .i64 rh, .int .i64 rb, .int .i64 ro, .int .i64 qk, .int .i64 qt, .int .i64 qc, .int .i64 ql, .int .i64 qh, .int .i64 qb, .int .i64 qo] 23)) (by simp)); have FZ4 := Lib.hid (FY4.out.fr ((Fr.refl [] wy).alloc (.cells #[.int .i64 rk, .int .i64 rt, .int .i64 rc, .int .i64 rl, .int .i64 rh, .int .i64 rb, .int .i64 ro, .int .i64 qk, .int .i64 qt, .int .i64 qc, .int .i64 ql, .int .i64 qh, .int .i64 qb, .int .i64 qo] 23)) (by simp)); clear hq fy))
  have FZ := Lib.hid (FY.out.alloc (.cells #[.int .i64 rk, .int .i64 rt, .int .i64 rc, .int .i64 rl, .int .i64 rh, .int .i64 rb, .int .i64 ro, .int .i64 qk, .int .i64 qt, .int .i64 qc, .int .i64 ql, .int .i64 qh, .int .i64 qb, .int .i64 qo] 23))
  have BZ := Lib.hid (Blk.new wy 23 #[.int .i64 rk, .int .i64 rt, .int .i64 rc, .int .i64 rl, .int .i64 rh, .int .i64 rb, .int .i64 ro, .int .i64 qk, .int .i64 qt, .int .i64 qc, .int .i64 ql, .int .i64 qh, .int .i64 qb, .int .i64 qo])
  clear q0 q1 q2 q3 q4 q5 q6 g0 g1 g2 g3 QY FY4 QZ FZ4 FD
  generalize hwz : wy.alloc (.cells #[.int .i64 rk, .int .i64 rt, .int .i64 rc, .int .i64 rl, .int .i64 rh, .int .i64 rb, .int .i64 ro, .int .i64 qk, .int .i64 qt, .int .i64 qc, .int .i64 ql, .int .i64 qh, .int .i64 qb, .int .i64 qo] 23) = w7 at *
  clear hwz
  generalize wy.heap.size = gz at *
  have HS7 := Lib.hid (HST.out.fr0 FZ.out)
  have HT7 := Lib.hid (HT1.out.fr0 FZ.out)
  have FW7 := Lib.hid (FW.out.trans FZ.out)
  clear HST HT1 FZ FY FW H41 HQ1
  have HOF := Lib.hid (fun W z (h : StaAt W bs m (Lg.run out)) => eof_any bs m (Lg.run out) z W h HSND.out)
  have HRF := Lib.hid (fun W z (h : RfAt W bt vt LT (Lg.run out)) => rof_any bt vt LT (Lg.run out) z W h HSND.out)
  have HLN := Lib.hid (fun z => Em.of_len HSOK.out z)
  generalize Lg.run out = st at *
  go_wp2_with fail
  go_loopw [47] (fun i wr => ∃ k : Nat, k ≤ 2 ∧ i = .int .i64 k ∧ Hid (Fr [] w7 wr)) (fun i _ => 2 - (intOf i).toNat)
  case atStart => exact ⟨0, Nat.zero_le _, rfl, Lib.hid (Fr.refl _ _)⟩
  case round =>
    obtain ⟨k, hk, rfl, HF⟩ := hrel
    have hk3 : k = 0 ∨ k = 1 ∨ k = 2 := by omega
    have BR := Lib.hid (BZ.out.fr HF.out (by simp))
    rcases hk3 with rfl | rfl | rfl
    · have c0 : wr.cell? ⟨gz, 0, none⟩ = some (.int .i64 rk) := BR.out.cell 0
      have c1 : wr.cell? ⟨gz, 1, none⟩ = some (.int .i64 rt) := BR.out.cell 1
      have c2 : wr.cell? ⟨gz, 2, none⟩ = some (.int .i64 rc) := BR.out.cell 2
      have c3 : wr.cell? ⟨gz, 3, none⟩ = some (.int .i64 rl) := BR.out.cell 3
      have c4 : wr.cell? ⟨gz, 4, none⟩ = some (.int .i64 rh) := BR.out.cell 4
      have c5 : wr.cell? ⟨gz, 5, none⟩ = some (.int .i64 rb) := BR.out.cell 5
      have c6 : wr.cell? ⟨gz, 6, none⟩ = some (.int .i64 ro) := BR.out.cell 6
      go_upto_region 10 with (fail)
      have FA := Lib.hid (HF.out.alloc (.cells #[.int .i64 rk, .int .i64 rt, .int .i64 rc, .int .i64 rl, .int .i64 rh, .int .i64 rb, .int .i64 ro] 23))
      have QA := Lib.hid (QAt.new wr ⟨rk, rt, rc, rl, rh, rb, ro⟩)
      clear c0 c1 c2 c3 c4 c5 c6 BR
      generalize hw8 : wr.alloc (.cells #[.int .i64 rk, .int .i64 rt, .int .i64 rc, .int .i64 rl, .int .i64 rh, .int .i64 rb, .int .i64 ro] 23) = w8 at *
      clear hw8
      generalize wr.heap.size = ga at *
      have c0 := QA.out.c0
      have c1 := QA.out.c1
      have c2 := QA.out.c2
      have c3 := QA.out.c3
      have c4 := QA.out.c4
      have c5 := QA.out.c5
      have c6 := QA.out.c6
      dsimp only at c0 c1 c2 c3 c4 c5 c6
      have H1 := Lib.hid (HOF.out w8 ⟨rk, rt, rc, rl, rh, rb, ro⟩ (HS7.out.fr0 FA.out))
      obtain ⟨⟨er, ev_, ef⟩, HE⟩ : ∃ r, Hid (Em.of st ⟨rk, rt, rc, rl, rh, rb, ro⟩ = r) := ⟨_, Lib.hid rfl⟩
      have HEL : Hid (er.length ≤ 4000) := Lib.hid (by have h := HLN.out ⟨rk, rt, rc, rl, rh, rb, ro⟩; rw [HE.out] at h; exact h)
      obtain ⟨ec, HEC⟩ : ∃ c, Hid (Em.code ⟨rk, rt, rc, rl, rh, rb, ro⟩ = c) := ⟨_, Lib.hid rfl⟩
      rw [HE.out, HEC.out] at H1
      dsimp only at H1
      go_upto_region 11 with (go_at_call 22; refine H1.out.mono ?_; rintro e wo ⟨vo, rfl, hres⟩; obtain ⟨Ao, no, ko, hvo⟩ : ∃ A n c, vo = .slice A n c := (match hres.own.val with | ⟨_, _, hv⟩ => ⟨_, _, _, hv⟩); subst hvo; have FO := Lib.hid hres.fr; have LO := Lib.hid (OwnL.rowsAt hres.own); clear hres)
      have F9 := Lib.hid (FO.out.alloc (.cells #[.slice Ao no ko, .int .i64 ev_, .bool ef] 27))
      have RO := Lib.hid (RsAt.new wo (.slice Ao no ko) ev_ ef)
      have LO9 := Lib.hid (LO.out.1.fr0 ((Fr.refl [] wo).alloc (.cells #[.slice Ao no ko, .int .i64 ev_, .bool ef] 27)))
      have HNO := Lib.hid LO.out.2
      have Q9 := Lib.hid (QA.out.fr F9.out (by simp))
      clear c0 c1 c2 c3 c4 c5 c6 H1 LO QA FO
      generalize hw9 : wo.alloc (.cells #[.slice Ao no ko, .int .i64 ev_, .bool ef] 27) = w9 at *
      clear hw9
      generalize wo.heap.size = go at *
      have c0 := Q9.out.c0
      have c1 := Q9.out.c1
      have c2 := Q9.out.c2
      have c3 := Q9.out.c3
      have c4 := Q9.out.c4
      have c5 := Q9.out.c5
      have c6 := Q9.out.c6
      dsimp only at c0 c1 c2 c3 c4 c5 c6
      have H2 := Lib.hid (HRF.out w9 ⟨rk, rt, rc, rl, rh, rb, ro⟩ (HT7.out.fr0 (FA.out.trans F9.out)))
      rw [HE.out, HEC.out] at H2
      dsimp only at H2
      go_upto_region 12 with (go_at_call 23; refine H2.out.mono ?_; rintro e wo ⟨vp, rfl, hres⟩; obtain ⟨Ap, np, kp, hvp⟩ : ∃ A n c, vp = .slice A n c := (match hres.own.val with | ⟨_, _, hv⟩ => ⟨_, _, _, hv⟩); subst hvp; have FP := Lib.hid hres.fr; have LP := Lib.hid (OwnL.rowsAt hres.own); clear hres)
      have F10 := Lib.hid (FP.out.alloc (.cells #[.slice Ap np kp, .int .i64 ev_, .bool ef] 27))
      have RP := Lib.hid (RsAt.new wo (.slice Ap np kp) ev_ ef)
      have LP10 := Lib.hid (LP.out.1.fr0 ((Fr.refl [] wo).alloc (.cells #[.slice Ap np kp, .int .i64 ev_, .bool ef] 27)))
      have HNP := Lib.hid LP.out.2
      have RO10 := Lib.hid (RO.out.fr F10.out (by simp))
      have LO10 := Lib.hid (LO9.out.fr0 F10.out)
      clear c0 c1 c2 c3 c4 c5 c6 H2 LP Q9 FP RO LO9
      generalize hw10 : wo.alloc (.cells #[.slice Ap np kp, .int .i64 ev_, .bool ef] 27) = w10 at *
      clear hw10
      generalize wo.heap.size = gp at *
      have a0 := RO10.out.c0
      have a1 := RO10.out.c1
      have a2 := RO10.out.c2
      have b0 := RP.out.c0
      have b1 := RP.out.c1
      have b2 := RP.out.c2
      have HSM : Hid (Calls Try.prog 15 #[.agg #[.slice Ao no ko, .int .i64 ev_, .bool ef], .agg #[.slice Ap np kp, .int .i64 ev_, .bool ef]] w10 fun e w' => e = .returned (.bool true) ∧ Fr [] w10 w') := Lib.hid (by
        have h := rsame_any Ao no ko ev_ ef er Ap np kp ev_ ef er w10 LO10.out HNO.out LP10.out HNP.out (by rw [HNO.out]; exact HEL.out) (by rw [HNP.out]; exact HEL.out)
        rwa [decide_eq_true rfl] at h)
      go_wp2_with (go_at_call 15; refine HSM.out.mono ?_; rintro e wu ⟨rfl, fu⟩; have FU := Lib.hid (((FA.out.trans F9.out).trans F10.out).trans fu); clear fu)
      go_roundw
      case rel => exact ⟨1, by omega, by go_num, FU⟩
      case measure => simp [intOf]
    · have c0 : wr.cell? ⟨gz, 7, none⟩ = some (.int .i64 qk) := BR.out.cell 7
      have c1 : wr.cell? ⟨gz, 8, none⟩ = some (.int .i64 qt) := BR.out.cell 8
      have c2 : wr.cell? ⟨gz, 9, none⟩ = some (.int .i64 qc) := BR.out.cell 9
      have c3 : wr.cell? ⟨gz, 10, none⟩ = some (.int .i64 ql) := BR.out.cell 10
      have c4 : wr.cell? ⟨gz, 11, none⟩ = some (.int .i64 qh) := BR.out.cell 11
      have c5 : wr.cell? ⟨gz, 12, none⟩ = some (.int .i64 qb) := BR.out.cell 12
      have c6 : wr.cell? ⟨gz, 13, none⟩ = some (.int .i64 qo) := BR.out.cell 13
      go_upto_region 10 with (fail)
      have FA := Lib.hid (HF.out.alloc (.cells #[.int .i64 qk, .int .i64 qt, .int .i64 qc, .int .i64 ql, .int .i64 qh, .int .i64 qb, .int .i64 qo] 23))
      have QA := Lib.hid (QAt.new wr ⟨qk, qt, qc, ql, qh, qb, qo⟩)
      clear c0 c1 c2 c3 c4 c5 c6 BR
      generalize hw8 : wr.alloc (.cells #[.int .i64 qk, .int .i64 qt, .int .i64 qc, .int .i64 ql, .int .i64 qh, .int .i64 qb, .int .i64 qo] 23) = w8 at *
      clear hw8
      generalize wr.heap.size = ga at *
      have c0 := QA.out.c0
      have c1 := QA.out.c1
      have c2 := QA.out.c2
      have c3 := QA.out.c3
      have c4 := QA.out.c4
      have c5 := QA.out.c5
      have c6 := QA.out.c6
      dsimp only at c0 c1 c2 c3 c4 c5 c6
      have H1 := Lib.hid (HOF.out w8 ⟨qk, qt, qc, ql, qh, qb, qo⟩ (HS7.out.fr0 FA.out))
      obtain ⟨⟨er, ev_, ef⟩, HE⟩ : ∃ r, Hid (Em.of st ⟨qk, qt, qc, ql, qh, qb, qo⟩ = r) := ⟨_, Lib.hid rfl⟩
      have HEL : Hid (er.length ≤ 4000) := Lib.hid (by have h := HLN.out ⟨qk, qt, qc, ql, qh, qb, qo⟩; rw [HE.out] at h; exact h)
      obtain ⟨ec, HEC⟩ : ∃ c, Hid (Em.code ⟨qk, qt, qc, ql, qh, qb, qo⟩ = c) := ⟨_, Lib.hid rfl⟩
      rw [HE.out, HEC.out] at H1
      dsimp only at H1
      go_upto_region 11 with (go_at_call 22; refine H1.out.mono ?_; rintro e wo ⟨vo, rfl, hres⟩; obtain ⟨Ao, no, ko, hvo⟩ : ∃ A n c, vo = .slice A n c := (match hres.own.val with | ⟨_, _, hv⟩ => ⟨_, _, _, hv⟩); subst hvo; have FO := Lib.hid hres.fr; have LO := Lib.hid (OwnL.rowsAt hres.own); clear hres)
      have F9 := Lib.hid (FO.out.alloc (.cells #[.slice Ao no ko, .int .i64 ev_, .bool ef] 27))
      have RO := Lib.hid (RsAt.new wo (.slice Ao no ko) ev_ ef)
      have LO9 := Lib.hid (LO.out.1.fr0 ((Fr.refl [] wo).alloc (.cells #[.slice Ao no ko, .int .i64 ev_, .bool ef] 27)))
      have HNO := Lib.hid LO.out.2
      have Q9 := Lib.hid (QA.out.fr F9.out (by simp))
      clear c0 c1 c2 c3 c4 c5 c6 H1 LO QA FO
      generalize hw9 : wo.alloc (.cells #[.slice Ao no ko, .int .i64 ev_, .bool ef] 27) = w9 at *
      clear hw9
      generalize wo.heap.size = go at *
      have c0 := Q9.out.c0
      have c1 := Q9.out.c1
      have c2 := Q9.out.c2
      have c3 := Q9.out.c3
      have c4 := Q9.out.c4
      have c5 := Q9.out.c5
      have c6 := Q9.out.c6
      dsimp only at c0 c1 c2 c3 c4 c5 c6
      have H2 := Lib.hid (HRF.out w9 ⟨qk, qt, qc, ql, qh, qb, qo⟩ (HT7.out.fr0 (FA.out.trans F9.out)))
      rw [HE.out, HEC.out] at H2
      dsimp only at H2
      go_upto_region 12 with (go_at_call 23; refine H2.out.mono ?_; rintro e wo ⟨vp, rfl, hres⟩; obtain ⟨Ap, np, kp, hvp⟩ : ∃ A n c, vp = .slice A n c := (match hres.own.val with | ⟨_, _, hv⟩ => ⟨_, _, _, hv⟩); subst hvp; have FP := Lib.hid hres.fr; have LP := Lib.hid (OwnL.rowsAt hres.own); clear hres)
      have F10 := Lib.hid (FP.out.alloc (.cells #[.slice Ap np kp, .int .i64 ev_, .bool ef] 27))
      have RP := Lib.hid (RsAt.new wo (.slice Ap np kp) ev_ ef)
      have LP10 := Lib.hid (LP.out.1.fr0 ((Fr.refl [] wo).alloc (.cells #[.slice Ap np kp, .int .i64 ev_, .bool ef] 27)))
      have HNP := Lib.hid LP.out.2
      have RO10 := Lib.hid (RO.out.fr F10.out (by simp))
      have LO10 := Lib.hid (LO9.out.fr0 F10.out)
      clear c0 c1 c2 c3 c4 c5 c6 H2 LP Q9 FP RO LO9
      generalize hw10 : wo.alloc (.cells #[.slice Ap np kp, .int .i64 ev_, .bool ef] 27) = w10 at *
      clear hw10
      generalize wo.heap.size = gp at *
      have a0 := RO10.out.c0
      have a1 := RO10.out.c1
      have a2 := RO10.out.c2
      have b0 := RP.out.c0
      have b1 := RP.out.c1
      have b2 := RP.out.c2
      have HSM : Hid (Calls Try.prog 15 #[.agg #[.slice Ao no ko, .int .i64 ev_, .bool ef], .agg #[.slice Ap np kp, .int .i64 ev_, .bool ef]] w10 fun e w' => e = .returned (.bool true) ∧ Fr [] w10 w') := Lib.hid (by
        have h := rsame_any Ao no ko ev_ ef er Ap np kp ev_ ef er w10 LO10.out HNO.out LP10.out HNP.out (by rw [HNO.out]; exact HEL.out) (by rw [HNP.out]; exact HEL.out)
        rwa [decide_eq_true rfl] at h)
      go_wp2_with (go_at_call 15; refine HSM.out.mono ?_; rintro e wu ⟨rfl, fu⟩; have FU := Lib.hid (((FA.out.trans F9.out).trans F10.out).trans fu); clear fu)
      go_roundw
      case rel => exact ⟨2, by omega, by go_num, FU⟩
      case measure => simp [intOf]
    · go_wp2_with fail
      go_ret
      exact ⟨rfl, (FW7.out.trans HF.out).below⟩
end Go.Proofs.Ytlicjokgcahmlaa
