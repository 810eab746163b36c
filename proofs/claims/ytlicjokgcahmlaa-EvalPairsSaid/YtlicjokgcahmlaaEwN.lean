/-
  EvalPairs: the walk of the law.
-/
import Derived.Test.YtlicjokgcahmlaaEwI
import Derived.Test.YtlicjokgcahmlaaStF
import Derived.BigQuiet
namespace Go.Proofs.Ytlicjokgcahmlaa
open Go.RowKit

namespace Em
theorem partner_get {s : Sm.Sta} (ho : Sm.Ok s) {t k : Int} (ht : okI t) (hk : okI k) : partner (tab s t) t k = mget s.M (idOf t k) := by
  have hp := sel_picked s 0 (inTab t)
  have hm : ∀ r, r ∈ tab s t ↔ r ∈ s.M.map (·.2) ∧ r.t = t := fun r => by
    unfold tab
    rw [hp.perm.mem_iff, List.mem_filter]
    simp [inTab]
  unfold partner
  cases hf : (tab s t).find? (fun x => decide (x.t = t) && decide (x.k = k)) with
  | some r =>
    have h1 := List.find?_some hf
    have h2 := List.mem_of_find?_eq_some hf
    simp only [Bool.and_eq_true, decide_eq_true_eq] at h1
    exact ((Sm.mem_of_mget ho.nd ho.key ht hk).2 ⟨((hm r).1 h2).1, h1.1, h1.2⟩).symm
  | none =>
    cases hg : mget s.M (idOf t k) with
    | none => rfl
    | some r =>
      obtain ⟨h1, h2, h3⟩ := (Sm.mem_of_mget ho.nd ho.key ht hk).1 hg
      have h4 := List.find?_eq_none.1 hf r ((hm r).2 ⟨h1, h2⟩)
      simp [h2, h3] at h4
theorem joined_even (q : Qry) (others : List RowV) : ∀ rows : List RowV, (joined q rows others).length % 2 = 0
  | [] => by simp [joined]
  | r :: l => by
    have h := joined_even q others l
    unfold joined at *
    rw [List.flatMap_cons, List.length_append]
    have : (pair q others r).length % 2 = 0 := by unfold pair; split <;> simp
    omega
theorem joined_at (q : Qry) (others : List RowV) {rows : List RowV} {k : Nat} (hk : k < rows.length) : joined q rows others = joined q (rows.take k) others ++ (pair q others rows[k] ++ joined q (rows.drop (k + 1)) others) := by
  unfold joined
  conv => lhs; rw [← List.take_append_drop k rows, List.drop_eq_getElem_cons hk, List.flatMap_append, List.flatMap_cons]
theorem joined_succ (q : Qry) (others : List RowV) {rows : List RowV} {k : Nat} (hk : k < rows.length) : joined q (rows.take (k + 1)) others = joined q (rows.take k) others ++ pair q others rows[k] := by
  unfold joined
  rw [List.take_succ_eq_append_getElem hk, List.flatMap_append]
  simp
end Em

set_option maxRecDepth 100000 in
set_option maxHeartbeats 8000000 in
theorem pairs_walk (A : Option Addr) (n cap : Nat) (x0 x1 x2 x3 by_ other : Int) (w : World) (hn : n ≤ cap) (hcap : cap ≤ maxLen) (hx : Fours w A n) (o0 : okI x0) (o1 : okI x1) (o2 : okI x2) (o3 : okI x3) (ob : okI by_) (oo : okI other) :
    Calls Try.prog 9 #[.slice A n cap, .agg #[.int .i64 x0, .int .i64 x1, .int .i64 x2, .int .i64 x3], .int .i64 by_, .int .i64 other] w fun e w' => e = .returned (.bool true) ∧ Below w.heap.size w w' := by
  have F0 := (Fr.refl [] w).alloc (.cells #[.int .i64 x0, .int .i64 x1, .int .i64 x2, .int .i64 x3] 24)
  have HX := Lib.hid (hx.fr0 F0)
  have H4 : Hid (Four (w.alloc (.cells #[.int .i64 x0, .int .i64 x1, .int .i64 x2, .int .i64 x3] 24)) w.heap.size x0 x1 x2 x3) := Lib.hid (Blk.new _ _ _)
  have HF0 := Lib.hid F0
  obtain ⟨p0, b0, -, K0⟩ := pick_is2 o0 (n := 2) (by decide) (by decide)
  obtain ⟨p1, b1, -, K1⟩ := pick_is2 o1 (n := 4) (by decide) (by decide)
  obtain ⟨p2, b2, -, K2⟩ := pick_is2 o2 (n := 12) (by decide) (by decide)
  obtain ⟨p3, b3, -, K3⟩ := pick_is2 o3 (n := 12) (by decide) (by decide)
  obtain ⟨p4, b4, -, K4⟩ := pick_is2 ob (n := 3) (by decide) (by decide)
  obtain ⟨p5, b5, -, K5⟩ := pick_is2 oo (n := 2) (by decide) (by decide)
  have W3 : Hid (IntKind.i64.wrap (12 + p3) = 12 + p3) := Lib.hid (IntWalk.i64_in _ ⟨by omega, by omega⟩)
  have W4 : Hid (IntKind.i64.wrap (1 + p4) = 1 + p4) := Lib.hid (IntWalk.i64_in _ ⟨by omega, by omega⟩)
  clear hx o0 o1 o2 o3 ob oo F0
  go_enter Try.func9, Try.ntmps9
  go_upto_region 3 with (first
    | (go_at_call 11; refine (sane6_any _).mono ?_; rintro e wa ⟨rfl, fa⟩; have FA := Lib.hid fa; clear fa)
    | (go_at_call 24; refine (state6_any A n cap _ hn hcap (HX.out.fr0 FA.out)).mono ?_; rintro e w1 ⟨bs, m, out, rfl, hst, hok, hol, fb⟩; have HST := Lib.hid hst; have HCG := Lib.hid hok; have HOL := Lib.hid hol; have FB := Lib.hid (FA.out.trans fb); have H4b := Lib.hid (H4.out.fr FB.out (by simp)); clear hst hok hol fb))
  have FW := Lib.hid (HF0.out.trans FB.out)
  have g0 := H4b.out.cells.1
  have g1 := H4b.out.cells.2.1
  have g2 := H4b.out.cells.2.2.1
  have g3 := H4b.out.cells.2.2.2
  have HSND := Lib.hid (Lg.run_sound out)
  have HSOK := Lib.hid (Lg.run_ok out)
  clear FA HF0 FB H4 HX
  go_cut [11] (fun v wc => v = .pointer (some ⟨w1.heap.size, 0, none⟩) ∧ Hid (Sn w1 wc w1.heap.size ⟨7, p0, p1, p2, 12 + p3, 1 + p4, p5⟩))
  case first =>
    go_region_held3 (fun w' => w'.cell? ⟨w.heap.size, 0, none⟩ = some (.int .i64 x0) ∧ w'.cell? ⟨w.heap.size, 1, none⟩ = some (.int .i64 x1) ∧ w'.cell? ⟨w.heap.size, 2, none⟩ = some (.int .i64 x2) ∧ w'.cell? ⟨w.heap.size, 3, none⟩ = some (.int .i64 x3))
      (first | exact ⟨g0, g1, g2, g3⟩ | go_keep)
      (first
        | (go_at_call 25; (with_reducible refine (K0.out _).mono ?_); rintro e w' ⟨rfl, rfl⟩)
        | (go_at_call 25; (with_reducible refine (K1.out _).mono ?_); rintro e w' ⟨rfl, rfl⟩)
        | (go_at_call 25; (with_reducible refine (K2.out _).mono ?_); rintro e w' ⟨rfl, rfl⟩)
        | (go_at_call 25; (with_reducible refine (K3.out _).mono ?_); rintro e w' ⟨rfl, rfl⟩)
        | (go_at_call 25; (with_reducible refine (K4.out _).mono ?_); rintro e w' ⟨rfl, rfl⟩)
        | (go_at_call 25; (with_reducible refine (K5.out _).mono ?_); rintro e w' ⟨rfl, rfl⟩))
    all_goals
      go_wp2_with fail
      go_meet
      refine ⟨rfl, Lib.hid ?_⟩
      rw [W3.out, W4.out]
      exact ⟨((Fr.refl [] w1).alloc _).drew, (QAt.new w1 ⟨7, p0, p1, p2, 12 + p3, 1 + p4, p5⟩).fr (Fr.refl [] _).drew (by simp), Nat.le_refl _⟩
  case rest =>
  obtain ⟨rfl, SN⟩ := hcut
  clear g0 g1 g2 g3 H4b K0 K1 K2 K3 K4 K5 W3 W4
  generalize w1.heap.size = gq at *
  have HV : Hid (Em.valid ⟨7, p0, p1, p2, 12 + p3, 1 + p4, p5⟩ = true) := Lib.hid (by unfold Em.valid Em.base Em.within; simp; omega)
  obtain ⟨hi, hhi, HHI⟩ : ∃ x, (12 ≤ x ∧ x ≤ 23) ∧ Hid (12 + p3 = x) := ⟨_, by omega, Lib.hid rfl⟩
  obtain ⟨b, hb, HB⟩ : ∃ x, (1 ≤ x ∧ x ≤ 3) ∧ Hid (1 + p4 = x) := ⟨_, by omega, Lib.hid rfl⟩
  rw [HHI.out, HB.out] at HV SN
  clear b3 b4
  obtain ⟨R, HR⟩ : ∃ R, Hid (Em.sel (Lg.run out) p1 (inRng p0 p1 p2 hi) = R) := ⟨_, Lib.hid rfl⟩
  obtain ⟨T, HT⟩ : ∃ T, Hid (Em.tab (Lg.run out) p5 = T) := ⟨_, Lib.hid rfl⟩
  have HRL : Hid (R.length ≤ 2000) := Lib.hid (by rw [← HR.out]; exact (Em.sel_picked _ _ _).len HSOK.out)
  have HRV : Hid (∀ r ∈ R, -1000000000 ≤ r.value b ∧ r.value b ≤ 1000000000) := Lib.hid (fun r hr => by rw [← HR.out] at hr; exact RowV.value_bounds ((Em.sel_picked _ _ _).vals HSND.out hr) b)
  obtain ⟨J, HJ⟩ : ∃ J, Hid (Em.joined ⟨7, p0, p1, p2, hi, b, p5⟩ R T = J) := ⟨_, Lib.hid rfl⟩
  have HO : Hid (Em.of (Lg.run out) ⟨7, p0, p1, p2, hi, b, p5⟩ = ⟨J, 0, false⟩) := Lib.hid (by rw [← HJ.out, ← HR.out, ← HT.out]; exact Em.of_join HV.out rfl)
  have HJL : Hid (J.length ≤ 4000) := Lib.hid (by have h := Em.joined_len ⟨7, p0, p1, p2, hi, b, p5⟩ T R; rw [HJ.out] at h; have := HRL.out; omega)
  have HJE : Hid (J.length % 2 = 0) := Lib.hid (by rw [← HJ.out]; exact Em.joined_even _ _ _)
  have HPG : Hid (∀ k, okI k → Em.partner T p5 k = mget (Lg.run out).M (idOf p5 k)) := Lib.hid (fun k hk => by rw [← HT.out]; exact Em.partner_get HSOK.out (okI_mk (by omega) (by omega)) hk)
  have HRNG := Lib.hid (fun W (h : StaAt W bs m (Lg.run out)) => srange_any bs m (Lg.run out) p0 p1 p2 hi W h (by omega) (by omega))
  have HUQ : Hid (∀ R', Picked (Lg.run out) p1 (inRng p0 p1 p2 hi) R' → R' = R) := Lib.hid (fun R' h => by rw [← HR.out]; exact h.uniq (Em.sel_picked _ _ _) HSOK.out inRng_t)
  have HGT := Lib.hid (fun W (h : StaAt W bs m (Lg.run out)) (k : Int) (hk : okI k) => sget_any bs m (Lg.run out) p5 k W h (okI_mk (by omega) (by omega)) hk)
  generalize Lg.run out = st at *
  have c0 : wc.cell? ⟨gq, 0, none⟩ = some (.int .i64 (7)) := SN.out.q.c0
  have c1 : wc.cell? ⟨gq, 1, none⟩ = some (.int .i64 (p0)) := SN.out.q.c1
  have c2 : wc.cell? ⟨gq, 2, none⟩ = some (.int .i64 (p1)) := SN.out.q.c2
  have c3 : wc.cell? ⟨gq, 3, none⟩ = some (.int .i64 (p2)) := SN.out.q.c3
  have c4 : wc.cell? ⟨gq, 4, none⟩ = some (.int .i64 (hi)) := SN.out.q.c4
  have c5 : wc.cell? ⟨gq, 5, none⟩ = some (.int .i64 (b)) := SN.out.q.c5
  have c6 : wc.cell? ⟨gq, 6, none⟩ = some (.int .i64 (p5)) := SN.out.q.c6
  go_upto_region 5 with (go_at_call 22; refine (eof_is (HST.out.fr0 SN.out.fr) HSND.out (q := ⟨7, p0, p1, p2, hi, b, p5⟩) HV.out HO.out).mono ?_; rintro e wx ⟨Aa, na, ka, rfl, hna, hl, fx, had⟩; have HNa := Lib.hid hna; have FX := Lib.hid fx; have La := Lib.hid hl; have ND := Lib.hid had; clear fx hna hl had)
  clear c0 c1 c2 c3 c4 c5 c6
  have FZ := FX.out.alloc (.cells #[.slice Aa na ka, .int .i64 (0), .bool false] 27)
  replace La := Lib.hid (La.out.fr0 ((Fr.refl [] wx).alloc (.cells #[.slice Aa na ka, .int .i64 (0), .bool false] 27)))
  have Na : Hid (∀ ad, Aa = some ad → gq < ad.block) := Lib.hid (fun ad e => Nat.lt_of_lt_of_le (Blk.lt SN.out.q) (ND.out ad e))
  have Ra := Lib.hid (RsAt.new wx (.slice Aa na ka) (0) false)
  have SN1 := Lib.hid (SN.out.fr0 FZ)
  clear FZ FX ND 
  generalize hwz : wx.alloc (.cells #[.slice Aa na ka, .int .i64 (0), .bool false] 27) = wa1 at *
  clear hwz SN
  generalize wx.heap.size = ga at *
  have hna : na = J.length := HNa.out
  have hev : (na : Int).tmod 2 = 0 := by
    have h := HJE.out
    rw [← hna] at h
    rw [Int.tmod_eq_emod_of_nonneg (by omega)]
    omega
  have hna4 : na ≤ 4000 := by rw [hna]; exact HJL.out
  have HNA := Lib.hid hna
  clear hna
  have a0 := Ra.out.c0
  have c1 : wa1.cell? ⟨gq, 1, none⟩ = some (.int .i64 p0) := SN1.out.q.c1
  have c2 : wa1.cell? ⟨gq, 2, none⟩ = some (.int .i64 p1) := SN1.out.q.c2
  have c3 : wa1.cell? ⟨gq, 3, none⟩ = some (.int .i64 p2) := SN1.out.q.c3
  have c4 : wa1.cell? ⟨gq, 4, none⟩ = some (.int .i64 hi) := SN1.out.q.c4
  go_upto_region 8 with (go_at_call 28; refine (HRNG.out _ (HST.out.fr0 SN1.out.fr)).mono ?_; rintro e wx ⟨vr, R', rfl, ho, hp, fx, -⟩; have he := HUQ.out R' hp; subst he; obtain ⟨Ar, nr, kr, hv⟩ : ∃ A n c, vr = .slice A n c := (match ho.val with | ⟨_, _, hv⟩ => ⟨_, _, _, hv⟩); subst hv; have HRA := Lib.hid (OwnL.rowsAt ho); have FX := Lib.hid fx; clear ho hp fx)
  clear a0 c1 c2 c3 c4 hev
  have hnr : nr = R'.length := HRA.out.2
  have hnr2 : nr ≤ 2000 := by rw [hnr]; exact HRL.out
  have HNR := Lib.hid hnr
  clear hnr
  have hq := neq_row
  have hg := eqGuard_row
  have HQN := Lib.hid hq
  clear hq
  go_wp2_with fail
  go_loopw [15, 16] (fun nv i wr => ∃ k nj : Nat, k ≤ nr ∧ nj ≤ 4000 ∧ i = .int .i64 k ∧ nv = .int .i64 nj ∧ Hid ((Em.joined ⟨7, p0, p1, p2, hi, b, p5⟩ (R'.take k) T).length = nj) ∧ Hid (Fr [] wx wr)) (fun _ i _ => nr - (intOf i).toNat)
  case atStart => exact ⟨0, 0, Nat.zero_le _, Nat.zero_le _, rfl, rfl, Lib.hid rfl, Lib.hid (Fr.refl _ _)⟩
  case round =>
    obtain ⟨k, nj, hk, hnj, rfl, rfl, HN, HF⟩ := hrel
    have FXR := Lib.hid (FX.out.trans HF.out)
    by_cases hlt : k < nr
    · have hkR : k < R'.length := by rw [← HNR.out]; exact hlt
      obtain ⟨ba, oa, hba, hbl, hca⟩ := (HRA.out.1.fr0 HF.out) (by omega)
      subst hba
      have hyb := HRV.out _ (List.getElem_mem hkR)
      have HJA := Lib.hid (Em.joined_at ⟨7, p0, p1, p2, hi, b, p5⟩ T hkR)
      have HJS := Lib.hid (Em.joined_succ ⟨7, p0, p1, p2, hi, b, p5⟩ T hkR)
      rw [HJ.out] at HJA
      have hr0 := hca k hkR 0 (by decide)
      have hr1 := hca k hkR 1 (by decide)
      have hr2 := hca k hkR 2 (by decide)
      have hr3 := hca k hkR 3 (by decide)
      have hr4 := hca k hkR 4 (by decide)
      generalize R'[k] = r at *
      obtain ⟨y, hy⟩ : ∃ y, r.value b = y := ⟨_, rfl⟩
      rw [hy] at hyb
      have hok : okI y := okI_mk (by omega) (by omega)
      have HPR : Hid (Em.pair ⟨7, p0, p1, p2, hi, b, p5⟩ T r = match mget st.M (idOf p5 y) with | some x => [r, x] | none => []) := Lib.hid (by unfold Em.pair; dsimp only; rw [hy, HPG.out y hok]; cases mget st.M (idOf p5 y) <;> rfl)
      have hget := HGT.out
      obtain ⟨rt, rk, rx, ry, rz⟩ := r
      have HV := Lib.hid (fun W => value5 rt rk rx ry rz b W)
      rw [hy] at HV
      have HYY := Lib.hid hy
      have HOKY := Lib.hid hok
      have hl6 := Blk.lt (SN1.out.q.fr FXR.out (by simp))
      have c5 : wr.cell? ⟨gq, 5, none⟩ = some (.int .i64 b) := (SN1.out.q.fr FXR.out (by simp)).c5
      have l1 : ∀ p : Later wr, p.w.cell? ⟨ba, oa + k * 5, none⟩ = some (.int .i64 rt) := fun p => p.cell hbl hr0
      have l2 : ∀ p : Later wr, p.w.cell? ⟨ba, oa + k * 5 + 1, none⟩ = some (.int .i64 rk) := fun p => p.cell hbl hr1
      have l3 : ∀ p : Later wr, p.w.cell? ⟨ba, oa + k * 5 + 2, none⟩ = some (.int .i64 rx) := fun p => p.cell hbl hr2
      have l4 : ∀ p : Later wr, p.w.cell? ⟨ba, oa + k * 5 + 3, none⟩ = some (.int .i64 ry) := fun p => p.cell hbl hr3
      have l5 : ∀ p : Later wr, p.w.cell? ⟨ba, oa + k * 5 + 4, none⟩ = some (.int .i64 rz) := fun p => p.cell hbl hr4
      have l6 : ∀ p : Later wr, p.w.cell? ⟨gq, 5, none⟩ = some (.int .i64 b) := fun p => p.cell hl6 c5
      have HR0 := Lib.hid (And.intro hr0 (And.intro hr1 (And.intro hr2 (And.intro hr3 hr4))))
      have HBL := Lib.hid hbl
      clear hr0 hr1 hr2 hr3 hr4 hca hbl hget hy hok hl6 c5
      go_upto_region 12 with (fail)
      refine wp_region_later (by kernel_rfl) (by kernel_rfl) ?_
      repeat (go_big_quiet_step (exact Later.calls ((HV.out _).mono fun e w' h => ⟨h.1, h.2 ▸ (Fr.refl _ _).alloc _⟩)))
      refine wpQuiet_nil ?_
      rintro wq ⟨p, hp⟩
      have fq : Fr [] wr wq := hp ▸ p.fr
      clear hp p l1 l2 l3 l4 l5 l6
      have FQ := Lib.hid fq
      clear fq
      have c6 : wq.cell? ⟨gq, 6, none⟩ = some (.int .i64 p5) := (SN1.out.q.fr (FXR.out.trans FQ.out) (by simp)).c6
      cases hmg : mget st.M (idOf p5 y) with
      | none =>
        rw [hmg] at HPR
        have HP := HPR.out
        dsimp only at HP
        have HPP := Lib.hid HP
        have hgt := HGT.out wq (HST.out.fr0 (SN1.out.fr.trans (FXR.out.trans FQ.out))) y HOKY.out
        rw [hmg] at hgt
        have HG := Lib.hid hgt
        clear hgt HP hmg
        go_wp2_with (go_at_call 34; refine HG.out.mono ?_; rintro e wv ⟨rfl, fv⟩; have FV := Lib.hid ((FQ.out.trans fv).alloc (.cells #[.int .i64 0, .int .i64 0, .int .i64 0, .int .i64 0, .int .i64 0] 31)); clear fv)
        go_roundw
        case rel => exact ⟨k + 1, nj, by omega, hnj, by go_num, rfl, Lib.hid (by rw [HJS.out, HPP.out, List.append_nil]; exact HN.out), Lib.hid (HF.out.trans FV.out)⟩
        case measure => simp [intOf]; omega
      | some x =>
        rw [hmg] at HPR
        have HP := HPR.out
        dsimp only at HP
        have hgt := HGT.out wq (HST.out.fr0 (SN1.out.fr.trans (FXR.out.trans FQ.out))) y HOKY.out
        have hxk : x.k = y := by
          have h1 := HPG.out y HOKY.out
          rw [hmg] at h1
          unfold Em.partner at h1
          have h2 := List.find?_some h1
          simp only [Bool.and_eq_true, decide_eq_true_eq] at h2
          exact h2.2
        rw [hmg] at hgt
        have HJB := HJA.out
        rw [HP] at HJB
        have hjl : nj + 1 < J.length := by rw [HJB, ← HN.out]; simp
        have hnja : nj + 1 < na := by rw [HNA.out]; exact hjl
        obtain ⟨bj, oj, hbj, hbjl, hcj⟩ := (La.out.fr0 FXR.out) (by omega)
        subst hbj
        have hj0 : J[nj]'(by omega) = ⟨rt, rk, rx, ry, rz⟩ := by
          have e1 : J[nj]? = some ⟨rt, rk, rx, ry, rz⟩ := by rw [HJB, ← HN.out, List.getElem?_append_right (Nat.le_refl _)]; simp
          have e2 := List.getElem?_eq_getElem (l := J) (i := nj) (by omega)
          rw [e1] at e2
          injection e2 with e2
          exact e2.symm
        have hj1 : J[nj + 1]'hjl = x := by
          have e1 : J[nj + 1]? = some x := by rw [HJB, ← HN.out, List.getElem?_append_right (Nat.le_succ _)]; simp
          have e2 := List.getElem?_eq_getElem (l := J) (i := nj + 1) hjl
          rw [e1] at e2
          injection e2 with e2
          exact e2.symm
        obtain ⟨xt, xk, xx, xy, xz⟩ := x
        dsimp only at hxk
        have s0 := hcj nj (by omega) 0 (by decide)
        have s1 := hcj nj (by omega) 1 (by decide)
        have s2 := hcj nj (by omega) 2 (by decide)
        have s3 := hcj nj (by omega) 3 (by decide)
        have s4 := hcj nj (by omega) 4 (by decide)
        have t0 := hcj (nj + 1) hjl 0 (by decide)
        have t1 := hcj (nj + 1) hjl 1 (by decide)
        have t2 := hcj (nj + 1) hjl 2 (by decide)
        have t3 := hcj (nj + 1) hjl 3 (by decide)
        have t4 := hcj (nj + 1) hjl 4 (by decide)
        rw [hj0] at s0 s1 s2 s3 s4
        rw [hj1] at t0 t1 t2 t3 t4
        have HS0 := Lib.hid (And.intro s0 (And.intro s1 (And.intro s2 (And.intro s3 s4))))
        have HT0 := Lib.hid (And.intro t0 (And.intro t1 (And.intro t2 (And.intro t3 t4))))
        have HG := Lib.hid hgt
        have HXK := Lib.hid hxk
        have HPP := Lib.hid HP
        have HBJ := Lib.hid hbjl
        clear hgt HP hmg hj0 hj1 HJB hcj s0 s1 s2 s3 s4 t0 t1 t2 t3 t4 hxk hbjl hjl
        go_upto_region 15 with (go_at_call 34; refine HG.out.mono ?_; rintro e wv ⟨rfl, fv⟩; have FV := Lib.hid (FQ.out.trans fv); clear fv)
        have FZ := FV.out.alloc (.cells #[.int .i64 xt, .int .i64 xk, .int .i64 xx, .int .i64 xy, .int .i64 xz] 31)
        have BX := Blk.new wv 31 #[.int .i64 xt, .int .i64 xk, .int .i64 xx, .int .i64 xy, .int .i64 xz]
        generalize hwz : wv.alloc (.cells #[.int .i64 xt, .int .i64 xk, .int .i64 xx, .int .i64 xy, .int .i64 xz] 31) = w8 at *
        clear hwz c6
        generalize wv.heap.size = gx at *
        have hbx := BX.lt
        have F8 := FXR.out.trans FZ
        have hga := Blk.lt (Ra.out.fr F8 (by simp))
        have hba := Nat.lt_of_lt_of_le HBL.out FZ.size
        have hbj := Nat.lt_of_lt_of_le HBJ.out FZ.size
        have hra := HBL.out
        have hrj := HBJ.out
        have l0 : ∀ p : Later w8, p.w.cell? ⟨ga, 0, none⟩ = some (.slice (some ⟨bj, oj, none⟩) na ka) := fun p => p.cell hga (Ra.out.fr F8 (by simp)).c0
        have l1 : ∀ p : Later w8, p.w.cell? ⟨ba, oa + k * 5, none⟩ = some (.int .i64 rt) := fun p => p.cell hba ((FZ.rules.1 ba _ hra).trans HR0.out.1)
        have l2 : ∀ p : Later w8, p.w.cell? ⟨ba, oa + k * 5 + 1, none⟩ = some (.int .i64 rk) := fun p => p.cell hba ((FZ.rules.1 ba _ hra).trans HR0.out.2.1)
        have l3 : ∀ p : Later w8, p.w.cell? ⟨ba, oa + k * 5 + 2, none⟩ = some (.int .i64 rx) := fun p => p.cell hba ((FZ.rules.1 ba _ hra).trans HR0.out.2.2.1)
        have l4 : ∀ p : Later w8, p.w.cell? ⟨ba, oa + k * 5 + 3, none⟩ = some (.int .i64 ry) := fun p => p.cell hba ((FZ.rules.1 ba _ hra).trans HR0.out.2.2.2.1)
        have l5 : ∀ p : Later w8, p.w.cell? ⟨ba, oa + k * 5 + 4, none⟩ = some (.int .i64 rz) := fun p => p.cell hba ((FZ.rules.1 ba _ hra).trans HR0.out.2.2.2.2)
        have s1 : ∀ p : Later w8, p.w.cell? ⟨bj, oj + nj * 5, none⟩ = some (.int .i64 rt) := fun p => p.cell hbj ((FZ.rules.1 bj _ hrj).trans HS0.out.1)
        have s2 : ∀ p : Later w8, p.w.cell? ⟨bj, oj + nj * 5 + 1, none⟩ = some (.int .i64 rk) := fun p => p.cell hbj ((FZ.rules.1 bj _ hrj).trans HS0.out.2.1)
        have s3 : ∀ p : Later w8, p.w.cell? ⟨bj, oj + nj * 5 + 2, none⟩ = some (.int .i64 rx) := fun p => p.cell hbj ((FZ.rules.1 bj _ hrj).trans HS0.out.2.2.1)
        have s4 : ∀ p : Later w8, p.w.cell? ⟨bj, oj + nj * 5 + 3, none⟩ = some (.int .i64 ry) := fun p => p.cell hbj ((FZ.rules.1 bj _ hrj).trans HS0.out.2.2.2.1)
        have s5 : ∀ p : Later w8, p.w.cell? ⟨bj, oj + nj * 5 + 4, none⟩ = some (.int .i64 rz) := fun p => p.cell hbj ((FZ.rules.1 bj _ hrj).trans HS0.out.2.2.2.2)
        have t1 : ∀ p : Later w8, p.w.cell? ⟨bj, oj + (nj + 1) * 5, none⟩ = some (.int .i64 xt) := fun p => p.cell hbj ((FZ.rules.1 bj _ hrj).trans HT0.out.1)
        have t2 : ∀ p : Later w8, p.w.cell? ⟨bj, oj + (nj + 1) * 5 + 1, none⟩ = some (.int .i64 xk) := fun p => p.cell hbj ((FZ.rules.1 bj _ hrj).trans HT0.out.2.1)
        have t3 : ∀ p : Later w8, p.w.cell? ⟨bj, oj + (nj + 1) * 5 + 2, none⟩ = some (.int .i64 xx) := fun p => p.cell hbj ((FZ.rules.1 bj _ hrj).trans HT0.out.2.2.1)
        have t4 : ∀ p : Later w8, p.w.cell? ⟨bj, oj + (nj + 1) * 5 + 3, none⟩ = some (.int .i64 xy) := fun p => p.cell hbj ((FZ.rules.1 bj _ hrj).trans HT0.out.2.2.2.1)
        have t5 : ∀ p : Later w8, p.w.cell? ⟨bj, oj + (nj + 1) * 5 + 4, none⟩ = some (.int .i64 xz) := fun p => p.cell hbj ((FZ.rules.1 bj _ hrj).trans HT0.out.2.2.2.2)
        have u1 : ∀ p : Later w8, p.w.cell? ⟨gx, 0, none⟩ = some (.int .i64 xt) := fun p => p.cell hbx (BX.cell 0)
        have u2 : ∀ p : Later w8, p.w.cell? ⟨gx, 1, none⟩ = some (.int .i64 xk) := fun p => p.cell hbx (BX.cell 1)
        have u3 : ∀ p : Later w8, p.w.cell? ⟨gx, 2, none⟩ = some (.int .i64 xx) := fun p => p.cell hbx (BX.cell 2)
        have u4 : ∀ p : Later w8, p.w.cell? ⟨gx, 3, none⟩ = some (.int .i64 xy) := fun p => p.cell hbx (BX.cell 3)
        have u5 : ∀ p : Later w8, p.w.cell? ⟨gx, 4, none⟩ = some (.int .i64 xz) := fun p => p.cell hbx (BX.cell 4)
        have q1 := HQN.out ⟨rt, rk, rx, ry, rz⟩ ⟨rt, rk, rx, ry, rz⟩
        have q2 := HQN.out ⟨xt, xk, xx, xy, xz⟩ ⟨xt, xk, xx, xy, xz⟩
        rw [decide_eq_true rfl] at q1 q2
        unfold RowV.val at q1 q2
        dsimp only at q1 q2
        have exy : (xk != y) = false := by simp [HXK.out]
        have exy2 : (xk == y) = true := by simp [HXK.out]
        have ege : decide ((na : Int) ≤ nj + 1) = false := by simp; omega
        have ecast : ((nj + 1 : Nat) : Int) = nj + 1 := by simp
        have FZ9 := Lib.hid FZ
        clear hbx hga hba hbj hra hrj BX F8 FZ FV
        refine wp_region_later (by kernel_rfl) (by kernel_rfl) ?_
        repeat (go_big_quiet_step (fail))
        refine wpQuiet_nil ?_
        rintro wu ⟨p, hp⟩
        have fu : Fr [] w8 wu := hp ▸ p.fr
        clear hp p l0 l1 l2 l3 l4 l5 s1 s2 s3 s4 s5 t1 t2 t3 t4 t5 u1 u2 u3 u4 u5 q1 q2
        have FU := Lib.hid (HF.out.trans (FZ9.out.trans fu))
        clear fu
        go_wp2_with fail
        go_roundw
        case rel => exact ⟨k + 1, nj + 2, by omega, by omega, by go_num, by go_num, Lib.hid (by rw [HJS.out, HPP.out, List.length_append, HN.out]; rfl), FU⟩
        case measure => simp [intOf]; omega
    · obtain rfl : k = nr := by omega
      have hfin : nj = na := by
        have h := HN.out
        rw [HNR.out, List.take_length, HJ.out] at h
        rw [HNA.out, h]
      subst hfin
      have a0 := (Ra.out.fr FXR.out (by simp)).c0
      have a1 := (Ra.out.fr FXR.out (by simp)).c1
      have a2 := (Ra.out.fr FXR.out (by simp)).c2
      go_wp2_with fail
      go_ret
      exact ⟨rfl, ((FW.out.trans SN1.out.fr).trans FXR.out).below⟩
end Go.Proofs.Ytlicjokgcahmlaa
