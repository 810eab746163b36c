/-
  PredicateKept: the walk of the law.
-/
import Derived.Test.YtjiikpmkedkbkaaGreatMy
import Derived.Test.YtjiikpmkedkbkaaGreatMx
import Derived.Test.YtjiikpmkedkbkaaGreatMd
import Derived.Test.YtjiikpmkedkbkaaGreatMq
import Derived.Deep.DeepCutAuto
import Derived.Deep.RegionLaw
import Derived.Deep.RegionWith
import Derived.Deep.CutBlock
import Derived.StillTailTactics
namespace Go.Proofs.YtjiikpmkedkbkaaGreat
open Go.RowKit

theorem esame_rv {w : World} {g g' : Nat} {A A' : Option Addr} {n n' c c' : Nat} {r r' : Res} (h : RvAt w g A n c r) (h' : RvAt w g' A' n' c' r') (hl : r.rows.length ≤ 4000) (hl' : r'.rows.length ≤ 4000) {b : Bool} (hb : decide (r = r') = b) :
    Calls Tryz.prog 23 #[.agg #[.slice A n c, .int .i64 r.value, .bool r.found], .agg #[.slice A' n' c', .int .i64 r'.value, .bool r'.found]] w fun e w' => e = .returned (.bool b) ∧ Fr [] w w' := by
  subst hb
  exact esame_any A n c r.value r.found r.rows A' n' c' r'.value r'.found r'.rows w h.rows h.len h'.rows h'.len (by rw [h.len]; exact hl) (by rw [h'.len]; exact hl')

set_option maxRecDepth 100000 in
set_option maxHeartbeats 8000000 in
theorem kept_walk (A : Option Addr) (n cap : Nat) (x0 x1 x2 x3 x4 : Int) (fr : Int) (w : World) (hn : n ≤ cap) (hcap : cap ≤ maxLen) (hx : n = 0 ∨ ∃ bx ox, A = some ⟨bx, ox, none⟩ ∧ SixAt w bx ox n) (o0 : okI x0) (o1 : okI x1) (o2 : okI x2) (o3 : okI x3) (o4 : okI x4) (hfr : okI fr) :
    Calls Tryz.prog 7 #[.slice A n cap, .agg #[.int .i64 x0, .int .i64 x1, .int .i64 x2, .int .i64 x3, .int .i64 x4], .int .i64 fr] w fun e w' => e = .returned (.bool true) ∧ Below w.heap.size w w' := by
  have hb63 : cap < 9223372036854775808 := by simp only [maxLen] at hcap; omega
  have F0 : Hid (Fr [] w (w.alloc (.cells #[.int .i64 x0, .int .i64 x1, .int .i64 x2, .int .i64 x3, .int .i64 x4] 23))) := Lib.hid ((Fr.refl [] w).alloc _)
  have B5 : Hid (Five (w.alloc (.cells #[.int .i64 x0, .int .i64 x1, .int .i64 x2, .int .i64 x3, .int .i64 x4] 23)) w.heap.size x0 x1 x2 x3 x4) := Lib.hid (Blk.new w _ _)
  have HX := Lib.hid hx
  have HO := Lib.hid (And.intro o0 (And.intro o1 (And.intro o2 (And.intro o3 o4))))
  clear hx o0 o1 o2 o3 o4
  go_enter Tryz.func7, Tryz.ntmps7
  go_wp2_with fail
  refine (sane7 _).mono ?_
  rintro e wa ⟨rfl, fa⟩
  replace B5 := Lib.hid (B5.out.fr fa (by simp))
  replace F0 := Lib.hid (F0.out.trans fa)
  clear fa
  go_wp2_with fail
  obtain ⟨mN, hmN⟩ : ∃ m : Nat, (min (n : Int) 25).toNat = m := ⟨_, rfl⟩
  have hm1 : mN ≤ 25 ∧ mN ≤ n := by omega
  rw [hmN]
  refine (log_any A mN cap wa (by omega) (by
    rcases HX.out with h0 | ⟨bx, ox, h1, h2⟩
    · exact .inl (by omega)
    · exact .inr ⟨bx, ox, h1, (h2.le hm1.2).fr0 F0.out⟩)).mono ?_
  clear hmN
  rintro e w2 ⟨vl, l, rfl, hor, hok, hll, f2, hvo⟩
  obtain ⟨A2, n2, c2, hv⟩ : ∃ A n c, vl = .slice A n c := by
    obtain ⟨us, hus, _⟩ := hor
    obtain ⟨A2, cap2, hv⟩ := hus.val
    exact ⟨_, _, _, hv⟩
  subst hv
  have HROW := Lib.hid hor
  have HOK := Lib.hid hok
  have HN2 : Hid (n2 = l.length) := Lib.hid hor.recs.2
  have hnM : n2 ≤ 25 := by rw [HN2.out]; omega
  replace B5 := Lib.hid (B5.out.fr f2 (by simp))
  replace F0 := Lib.hid (F0.out.trans f2)
  clear hor hok f2 hvo hll HX hm1 hn
  obtain ⟨g0, g1, g2, g3, g4⟩ := B5.out.cells
  go_wp2_with fail
  refine (query_any x0 x1 x2 x3 x4 _ HO.out.1 HO.out.2.1 HO.out.2.2.1 HO.out.2.2.2.1 HO.out.2.2.2.2).mono ?_
  rintro e wq ⟨q, rfl, hq, fq⟩
  have HQ := Lib.hid hq
  have fq1 := fq.alloc (.cells #[.int .i64 q.kind, .int .i64 q.table, .int .i64 q.column, .int .i64 q.low, .int .i64 q.high, .int .i64 q.by_, .int .i64 q.other] 28)
  have HBQ := Lib.hid (QAt.new wq q)
  replace F0 := Lib.hid (F0.out.trans fq1)
  replace HROW := Lib.hid (HROW.out.keep0 fq1)
  clear g0 g1 g2 g3 g4 B5 HO hq fq fq1 hcap
  go_wp2_with fail
  obtain ⟨k0, hk0, hk0n⟩ : ∃ k : Nat, pickI fr ((n2 : Int) + 1) = k ∧ k ≤ n2 := by
    have h1 := pickI_nonneg fr (n := (n2 : Int) + 1) (by omega)
    have h2 := pickI_lt fr (n := (n2 : Int) + 1) (by omega)
    exact ⟨(pickI fr ((n2 : Int) + 1)).toNat, by omega, by omega⟩
  have HPK0 := Lib.hid (fun W => pick_any fr ((n2 : Int) + 1) W hfr (by omega) (by omega))
  rw [hk0] at HPK0
  clear hk0 hfr
  refine (HPK0.out _).mono ?_
  rintro e wk ⟨rfl, rfl⟩
  have HREC := Lib.hid (OwnR.recs HROW.out).1
  have HCAP : Hid (l.length ≤ c2) := Lib.hid (by have h := HROW.out; rw [HN2.out] at h; exact h.cap)
  have HSAT := Lib.hid (fun W (h : RecsAt W A2 l) => sat_ok A2 c2 l k0 W h (by rw [← HN2.out]; omega) (by rw [← HN2.out]; exact hk0n) HCAP.out (fun i h _ => HOK.out.fits i h))
  rw [← HN2.out] at HSAT
  go_wp2_with fail
  refine (HSAT.out _ HREC.out).mono ?_
  rintro e ws ⟨bs, ms, rfl, hst, fs, hbs, hms⟩
  rw [World.size_alloc] at hbs hms
  have PG : Hid (PgAt w ws bs ms wq.heap.size l A2 n2 c2 q (Lg.run (l.take k0))) := Lib.hid ⟨hst, HROW.out.keep0 fs, HBQ.out.fr fs (by simp), F0.out.trans fs, by have := F0.out.size; rw [World.size_alloc] at this; omega, by have := F0.out.size; rw [World.size_alloc] at this; omega⟩
  clear hst fs HROW HBQ HPK0 HSAT HREC HCAP hbs hms
  generalize wq.heap.size = gq at *
  clear F0
  have HV : Hid (Em.valid q = true) := Lib.hid HQ.out.valid
  have hok : okI q.kind := okI_mk (by have := HQ.out.k; omega) (by have := HQ.out.k; omega)
  have HOKI := Lib.hid hok
  clear hok HQ
  have HSO0 := Lib.hid (Lg.run_ok (l.take k0))
  have HSS0 := Lib.hid (Lg.run_sound (l.take k0))
  have HW0 := Lib.hid PG.out.fr.size
  obtain ⟨Ra, HRRa⟩ : ∃ R, Hid (Em.of (Lg.run (l.take k0)) q = R) := ⟨_, Lib.hid rfl⟩
  have HBa := Lib.hid (Em.of_bounds HSO0.out HSS0.out q)
  have HOF := Lib.hid (PG.out.of HSS0.out HV.out)
  rw [HRRa.out] at HBa HOF
  have hbq : Blk ws gq 28 #[.int .i64 q.kind, .int .i64 q.table, .int .i64 q.column, .int .i64 q.low, .int .i64 q.high, .int .i64 q.by_, .int .i64 q.other] := PG.out.q
  go_upto_region 9 with (first
    | (refine wpList_load_row rfl _ _ rfl gq rfl 28 _ (0, 0) _ hbq Tryz.underlying28 rfl (by kernel_rfl) ?_)
    | (go_at_call 12; refine HOF.out.mono ?_; rintro e wx ⟨Aa, na, ca, rfl, hrw⟩; have RW := Lib.hid hrw; clear hrw))
  clear hbq HOF
  have RVa := Lib.hid (RvAt.of (c := ca) RW.out)
  have Fa := Lib.hid (RW.out.fr.trans ((Fr.refl [] wx).alloc (.cells #[.slice Aa na ca, .int .i64 Ra.value, .bool Ra.found] 34)))
  replace PG := Lib.hid (PG.out.fr0 Fa.out)
  have HGX := Lib.hid RW.out.fr.size
  clear RW
  have HGa : Hid (ws.heap.size ≤ wx.heap.size) := Lib.hid HGX.out
  clear HGX
  generalize hw5 : wx.alloc (.cells #[.slice Aa na ca, .int .i64 Ra.value, .bool Ra.found] 34) = wa at *
  clear hw5
  generalize wx.heap.size = ga at *
  have HGA0 : Hid (w.heap.size ≤ ga) := Lib.hid (Nat.le_trans HW0.out HGa.out)
  clear Fa HBa HSO0 HSS0 HGa HW0
  go_wp2_with fail
  go_loopw [15] (fun i wr => ∃ (k : Nat) (Ra : Res) (Aa : Option Addr) (na ca : Nat), i = .int .i64 k ∧ k ≤ n2 ∧ Hid (Em.of (Lg.run (l.take k)) q = Ra) ∧ Hid (PgAt w wr bs ms gq l A2 n2 c2 q (Lg.run (l.take k))) ∧ Hid (RvAt wr ga Aa na ca Ra)) (fun i _ => n2 - (intOf i).toNat)
  case atStart => exact ⟨k0, Ra, Aa, na, ca, rfl, hk0n, HRRa, PG, RVa⟩
  case round =>
    clear PG RVa HRRa
    obtain ⟨k, Ra, Aa, na, ca, rfl, hk, HRRa, PG, RVa⟩ := hrel
    by_cases hlt : k < n2
    · have hkl : k < l.length := by rw [← HN2.out]; exact hlt
      have HFIT := Lib.hid (HOK.out.fits k hkl)
      have HSO := Lib.hid (Lg.run_ok (l.take k))
      have HSS := Lib.hid (Lg.run_sound (l.take k))
      have HSO' := Lib.hid (Lg.run_ok (l.take (k + 1)))
      have HSS' := Lib.hid (Lg.run_sound (l.take (k + 1)))
      have HRUN := Lib.hid (Lg.run_succ l hkl)
      rw [HRUN.out] at HSS' HSO'
      obtain ⟨s, HS⟩ : ∃ s, Hid (Lg.run (l.take k) = s) := ⟨_, Lib.hid rfl⟩
      obtain ⟨r, HR⟩ : ∃ r, Hid (l[k] = r) := ⟨_, Lib.hid rfl⟩
      rw [HS.out] at HFIT HSO HSS HSS' HSO' PG HRUN HRRa
      rw [HR.out] at HFIT HSS' HSO' HRUN
      have HBa := Lib.hid (Em.of_bounds HSO.out HSS.out q)
      rw [HRRa.out] at HBa
      obtain ⟨bb, off, Ak, ck, hA, hbb, hc0, hc1, hhc, hl8⟩ := PG.out.open_ hkl
      subst hA
      rw [HR.out] at hc0 hc1 hhc hl8
      obtain ⟨nk, hnk⟩ : ∃ n, n = r.cs.length := ⟨_, rfl⟩
      rw [← hnk] at hc1 hl8
      have HNK := Lib.hid hnk
      obtain ⟨pk, hpk⟩ : ∃ n, n = r.p := ⟨_, rfl⟩
      rw [← hpk] at hc0
      have HPK := Lib.hid hpk
      clear hnk hpk
      have HAP := Lib.hid (PG.out.apply (cap := ck) hhc (by rw [← HNK.out]; exact hl8) HNK.out HPK.out HFIT.out)
      go_upto_region 16 with (go_at_call 13; refine HAP.out.mono ?_; rintro e wy ⟨rfl, hpg, fS⟩; have PG2 := Lib.hid hpg; have FS := Lib.hid fS; clear hpg fS)
      replace RVa := Lib.hid (RVa.out.frS PG.out.sta FS.out)
      clear hc0 hc1 hhc HAP PG
      have PG := PG2
      clear PG2
      clear FS
      have HLA := Lib.hid (Blk.lt RVa.out.blk)
      obtain ⟨Rb, HRRb⟩ : ∃ R, Hid (Em.of (Sm.apply s r) q = R) := ⟨_, Lib.hid rfl⟩
      have HBb := Lib.hid (Em.of_bounds HSO'.out HSS'.out q)
      have HOF := Lib.hid (PG.out.of HSS'.out HV.out)
      rw [HRRb.out] at HBb HOF
      have hbq : Blk wy gq 28 #[.int .i64 q.kind, .int .i64 q.table, .int .i64 q.column, .int .i64 q.low, .int .i64 q.high, .int .i64 q.by_, .int .i64 q.other] := PG.out.q
      go_upto_region 17 with (first
        | (refine wpList_load_row rfl _ _ rfl gq rfl 28 _ (0, 0) _ hbq Tryz.underlying28 rfl (by kernel_rfl) ?_)
        | (go_at_call 12; refine HOF.out.mono ?_; rintro e wx ⟨Ab, nb, cb, rfl, hrw⟩; have RW := Lib.hid hrw; clear hrw))
      clear hbq HOF
      have RVb := Lib.hid (RvAt.of (c := cb) RW.out)
      have Fb := Lib.hid (RW.out.fr.trans ((Fr.refl [] wx).alloc (.cells #[.slice Ab nb cb, .int .i64 Rb.value, .bool Rb.found] 34)))
      replace PG := Lib.hid (PG.out.fr0 Fb.out)
      have HGX := Lib.hid RW.out.fr.size
      clear RW
      have HGb : Hid (wy.heap.size ≤ wx.heap.size) := Lib.hid HGX.out
      clear HGX
      generalize hw5 : wx.alloc (.cells #[.slice Ab nb cb, .int .i64 Rb.value, .bool Rb.found] 34) = wb at *
      clear hw5
      generalize wx.heap.size = gb at *
      replace RVa := Lib.hid (RVa.out.fr0 Fb.out)
      have HNB : Hid (ga ≠ gb) := Lib.hid (by have := HLA.out; have := HGb.out; omega)
      have HLB := Lib.hid (Blk.lt RVb.out.blk)
      have HLA2 := Lib.hid (Blk.lt RVa.out.blk)
      have HWB := Lib.hid PG.out.fr.size
      clear Fb
      obtain ⟨bb', off', Ak', ck', hA', hbb2, hc0, hc1, hhc, _⟩ := PG.out.open_ hkl
      rw [HR.out] at hc0 hc1 hhc
      rw [← HNK.out] at hc1
      rw [← HPK.out] at hc0
      have eA : bb' = bb ∧ off' = off := by
        injection hA' with hA'
        injection hA' with h1 h2
        exact ⟨h1.symm, h2.symm⟩
      obtain ⟨rfl, rfl⟩ := eA
      clear hA'
      have HSW : Hid (∀ w', Fr [] wb w' → Blk w' gq 28 #[.int .i64 q.kind, .int .i64 q.table, .int .i64 q.column, .int .i64 q.low, .int .i64 q.high, .int .i64 q.by_, .int .i64 q.other] ∧ Blk w' ga 34 #[.slice Aa na ca, .int .i64 Ra.value, .bool Ra.found] ∧ w'.cell? ⟨bb', off' + k * 2, none⟩ = some (.int .i64 pk) ∧ w'.cell? ⟨bb', off' + k * 2 + 1, none⟩ = some (.slice Ak' nk ck')) := Lib.hid (fun w' hf => ⟨(PG.out.fr0 hf).q, (RVa.out.fr0 hf).blk, (hf.rules.1 bb' _ hbb2).trans hc0, (hf.rules.1 bb' _ hbb2).trans hc1⟩)
      have HAR : Hid (∀ w1, Fr [] wb w1 → Calls Tryz.prog 16 #[q.val, .agg #[.slice Aa na ca, .int .i64 Ra.value, .bool Ra.found], .agg #[.int .i64 pk, .slice Ak' nk ck']] w1 fun e w' => ∃ (r' : Res) (A' : Option Addr) (n' c' : Nat) (t k : Bool), e = .returned (.tuple #[.agg #[.slice A' n' c', .int .i64 r'.value, .bool r'.found], .bool t, .bool k]) ∧ ApAt w1 w' (Pm.apply q Ra r.cs) A' n' r' t k (na + 2 * nk) ∧ Fr [] wb w') := Lib.hid (fun w1 hf => (apply_rv HOKI.out (RVa.out.fr0 hf) (Nat.le_trans HBa.out.1 (by decide)) (by have := HBa.out.2; omega) (ck := ck') (p := pk) (hhc.fr hf NoC.nil).1 hl8 HNK.out).mono (fun e w' ⟨r', A', n', c', t, k, h1, h2⟩ => ⟨r', A', n', c', t, k, h1, h2, hf.trans h2.fr⟩))
      have s0 := HSW.out _ (Fr.refl [] _)
      clear hc0 hc1 hhc
      go_cut [18, 19, 20] (fun vp vt vk wn => ∃ (gg : Nat) (Rg : Res) (Ag : Option Addr) (ng cg : Nat) (tg kg : Bool), vp = .pointer (some ⟨gg, 0, none⟩) ∧ vt = .bool tg ∧ vk = .bool kg ∧ Hid (AOut (Pm.apply q Ra r.cs) Rg tg kg) ∧ Hid (RvAt wn gg Ag ng cg Rg) ∧ Hid (Fr [] wb wn) ∧ Hid (wb.heap.size ≤ gg))
      case first =>
        refine wp_region_head (fun W => Blk W gq 28 #[.int .i64 q.kind, .int .i64 q.table, .int .i64 q.column, .int .i64 q.low, .int .i64 q.high, .int .i64 q.by_, .int .i64 q.other] ∧ Blk W ga 34 #[.slice Aa na ca, .int .i64 Ra.value, .bool Ra.found] ∧ W.cell? ⟨bb', off' + k * 2, none⟩ = some (.int .i64 pk) ∧ W.cell? ⟨bb', off' + k * 2 + 1, none⟩ = some (.slice Ak' nk ck')) 14 (by kernel_rfl) (by kernel_rfl) (HSW.out _ (Fr.refl [] wb).drew) (fun hHeld => ?_)
        refine wpHead_take (i := 0) (oi := ⟨some 72, _, _, _, _, _⟩) (v := .agg (#[.int .i64 q.kind, .int .i64 q.table, .int .i64 q.column, .int .i64 q.low, .int .i64 q.high, .int .i64 q.by_, .int .i64 q.other])) rfl (by kernel_rfl) (fun _ _ _ h => h) (yieldsIf_load_blk (by rfl) _ _ rfl gq rfl 28 (#[.int .i64 q.kind, .int .i64 q.table, .int .i64 q.column, .int .i64 q.low, .int .i64 q.high, .int .i64 q.by_, .int .i64 q.other]) _ (fun _ h => h.1) Tryz.underlying28 rfl (by kernel_rfl)) hHeld ?_
        try simp only [Act.put, List.setIfInBounds_toArray, List.set_cons_zero, List.set_cons_succ]
        refine wpHead_take (i := 1) (oi := ⟨some 73, _, _, _, _, _⟩) (v := .agg (#[.slice Aa na ca, .int .i64 Ra.value, .bool Ra.found])) rfl (by kernel_rfl) (fun _ _ _ h => h) (yieldsIf_load_blk (by rfl) _ _ rfl ga rfl 34 (#[.slice Aa na ca, .int .i64 Ra.value, .bool Ra.found]) _ (fun _ h => h.2.1) Tryz.underlying34 rfl (by kernel_rfl)) hHeld ?_
        try simp only [Act.put, List.setIfInBounds_toArray, List.set_cons_zero, List.set_cons_succ]
        refine wpHead_take (i := 2) (oi := ⟨some 74, _, _, _, _, _⟩) (v := ?_) rfl (by kernel_rfl) (fun _ _ _ h => h) (Or.inl ⟨by rfl, ?_⟩) hHeld ?_
        rotate_left
        · (intro w hSw; (try dsimp only at hSw); go_simp; try with_reducible rfl)
        try simp only [Act.put, List.setIfInBounds_toArray, List.set_cons_zero, List.set_cons_succ]
        refine wpHead_take (i := 3) (oi := ⟨some 75, _, _, _, _, _⟩) (v := ?_) rfl (by kernel_rfl) (fun _ _ _ h => h) (Or.inl ⟨by rfl, ?_⟩) hHeld ?_
        rotate_left
        · (intro w hSw; (try dsimp only at hSw); go_simp; try with_reducible rfl)
        try simp only [Act.put, List.setIfInBounds_toArray, List.set_cons_zero, List.set_cons_succ]
        refine wpHead_take (i := 4) (oi := ⟨some 76, _, _, _, _, _⟩) (v := ?_) rfl (by kernel_rfl) (fun _ _ _ h => h) (Or.inl ⟨by rfl, ?_⟩) hHeld ?_
        rotate_left
        · (intro w hSw; (try dsimp only at hSw); go_simp; try with_reducible rfl)
        try simp only [Act.put, List.setIfInBounds_toArray, List.set_cons_zero, List.set_cons_succ]
        refine wpHead_take (i := 5) (oi := ⟨some 77, _, _, _, _, _⟩) (v := ?_) rfl (by kernel_rfl) (fun _ _ _ h => h) (Or.inl ⟨by rfl, ?_⟩) hHeld ?_
        rotate_left
        · (intro w hSw; (try dsimp only at hSw); go_simp; try with_reducible rfl)
        try simp only [Act.put, List.setIfInBounds_toArray, List.set_cons_zero, List.set_cons_succ]
        refine wpHead_two (i := 6) (j := 11) (oi := ⟨some 78, _, _, _, _, _⟩) (oj := ⟨some 18, _, _, _, _, _⟩) rfl rfl (by kernel_rfl) (by decide) (by decide) ?_ ?_
        · refine fun K hK => ?_
          go_simp
          refine (HAR.out _ (Fr.refl [] wb).drew).mono ?_
          rintro e wz ⟨Rg, Ag, ng, cg, tg, kg, rfl, hap, hfz⟩
          have AP := Lib.hid hap
          have FZ := Lib.hid hfz
          refine hK.out _ _ ?_ (fun hHeld => ?_)
          · exact HSW.out _ FZ.out
          clear hK K
          try simp only [Act.put, List.setIfInBounds_toArray, List.set_cons_zero, List.set_cons_succ]
          clear hap hfz
          refine wpHead_take (i := 7) (oi := ⟨some 71, _, _, _, _, _⟩) (v := ?_) rfl (by kernel_rfl) (fun _ _ _ h => h) (Or.inl ⟨by rfl, ?_⟩) hHeld ?_
          rotate_left
          · (intro w hSw; (try dsimp only at hSw); go_simp; try with_reducible rfl)
          try simp only [Act.put, List.setIfInBounds_toArray, List.set_cons_zero, List.set_cons_succ]
          refine wpHead_take (i := 8) (oi := ⟨some 79, _, _, _, _, _⟩) (v := ?_) rfl (by kernel_rfl) (fun _ _ _ h => h) (Or.inl ⟨by rfl, ?_⟩) hHeld ?_
          rotate_left
          · (intro w hSw; (try dsimp only at hSw); go_simp; try with_reducible rfl)
          try simp only [Act.put, List.setIfInBounds_toArray, List.set_cons_zero, List.set_cons_succ]
          refine wpHead_take (i := 9) (oi := ⟨some 80, _, _, _, _, _⟩) (v := ?_) rfl (by kernel_rfl) (fun _ _ _ h => h) (Or.inl ⟨by rfl, ?_⟩) hHeld ?_
          rotate_left
          · (intro w hSw; (try dsimp only at hSw); go_simp; try with_reducible rfl)
          try simp only [Act.put, List.setIfInBounds_toArray, List.set_cons_zero, List.set_cons_succ]
          refine wpHead_take (i := 10) (oi := ⟨some 81, _, _, _, _, _⟩) (v := ?_) rfl (by kernel_rfl) (fun _ _ _ h => h) (Or.inl ⟨by rfl, ?_⟩) hHeld ?_
          rotate_left
          · (intro w hSw; (try dsimp only at hSw); go_simp; try with_reducible rfl)
          try simp only [Act.put, List.setIfInBounds_toArray, List.set_cons_zero, List.set_cons_succ]
          refine wpHead_one (i := 11) (o := ⟨some 18, _, _, _, _, _⟩) rfl (by kernel_rfl) (by decide) (fun K hK => ?_)
          go_simp
          skip
          refine hK.out _ _ ?_ (fun hHeld => ?_)
          · exact HSW.out _ (FZ.out.alloc _)
          clear hK K
          try simp only [Act.put, List.setIfInBounds_toArray, List.set_cons_zero, List.set_cons_succ]
          refine wpHead_one (i := 12) (o := ⟨none, _, _, _, _, _⟩) rfl (by kernel_rfl) (by decide) (fun K hK => ?_)
          go_simp
          skip
          refine hK.out _ _ ?_ (fun hHeld => ?_)
          · exact HSW.out _ (FZ.out.alloc _)
          clear hK K
          try simp only [Act.put, List.setIfInBounds_toArray, List.set_cons_zero, List.set_cons_succ]
          refine wpHead_take (i := 13) (oi := ⟨some 19, _, _, _, _, _⟩) (v := ?_) rfl (by kernel_rfl) (fun _ _ _ h => h) (Or.inl ⟨by rfl, ?_⟩) hHeld ?_
          rotate_left
          · (intro w hSw; (try dsimp only at hSw); go_simp; try with_reducible rfl)
          try simp only [Act.put, List.setIfInBounds_toArray, List.set_cons_zero, List.set_cons_succ]
          refine wpHead_done (by kernel_rfl) ?_
          simp only [List.drop_succ_cons, List.drop_zero]
          go_wp2_with fail
          go_meet
          exact ⟨wz.heap.size, Rg, Ag, ng, cg, tg, kg, rfl, rfl, rfl, Lib.hid AP.out.out, Lib.hid (RvAt.ofA AP.out), Lib.hid (FZ.out.alloc _), Lib.hid FZ.out.size⟩

        · refine fun K hK => ?_
          go_simp
          skip
          refine hK.out _ _ ?_ (fun hHeld => ?_)
          · exact HSW.out _ ((Fr.refl [] wb).drew.alloc _)
          clear hK K
          try simp only [Act.put, List.setIfInBounds_toArray, List.set_cons_zero, List.set_cons_succ]
          refine wpHead_one (i := 6) (o := ⟨some 78, _, _, _, _, _⟩) rfl (by kernel_rfl) (by decide) (fun K hK => ?_)
          go_simp
          refine (HAR.out _ ((Fr.refl [] wb).drew.alloc _)).mono ?_
          rintro e wz ⟨Rg, Ag, ng, cg, tg, kg, rfl, hap, hfz⟩
          have AP := Lib.hid hap
          have FZ := Lib.hid hfz
          have hbz := Blk.fr (w := _) (g := wb.heap.size) (t := 34) (cs := #[.slice none 0 0, .int .i64 0, .bool false]) (Blk.new wb.drew _ _) hap.fr (by simp)
          have z0 := hbz.frozen 0
          have z1 := hbz.frozen 1
          have z2 := hbz.frozen 2
          have u0 := hbz.cell 0
          have u1 := hbz.cell 1
          have u2 := hbz.cell 2
          have HBZ := Lib.hid hbz
          clear hbz hap hfz
          refine hK.out _ _ ?_ (fun hHeld => ?_)
          · exact HSW.out _ FZ.out
          clear hK K
          try simp only [Act.put, List.setIfInBounds_toArray, List.set_cons_zero, List.set_cons_succ]
          refine wpHead_take (i := 7) (oi := ⟨some 71, _, _, _, _, _⟩) (v := ?_) rfl (by kernel_rfl) (fun _ _ _ h => h) (Or.inl ⟨by rfl, ?_⟩) hHeld ?_
          rotate_left
          · (intro w hSw; (try dsimp only at hSw); go_simp; try with_reducible rfl)
          try simp only [Act.put, List.setIfInBounds_toArray, List.set_cons_zero, List.set_cons_succ]
          refine wpHead_take (i := 8) (oi := ⟨some 79, _, _, _, _, _⟩) (v := ?_) rfl (by kernel_rfl) (fun _ _ _ h => h) (Or.inl ⟨by rfl, ?_⟩) hHeld ?_
          rotate_left
          · (intro w hSw; (try dsimp only at hSw); go_simp; try with_reducible rfl)
          try simp only [Act.put, List.setIfInBounds_toArray, List.set_cons_zero, List.set_cons_succ]
          refine wpHead_take (i := 9) (oi := ⟨some 80, _, _, _, _, _⟩) (v := ?_) rfl (by kernel_rfl) (fun _ _ _ h => h) (Or.inl ⟨by rfl, ?_⟩) hHeld ?_
          rotate_left
          · (intro w hSw; (try dsimp only at hSw); go_simp; try with_reducible rfl)
          try simp only [Act.put, List.setIfInBounds_toArray, List.set_cons_zero, List.set_cons_succ]
          refine wpHead_take (i := 10) (oi := ⟨some 81, _, _, _, _, _⟩) (v := ?_) rfl (by kernel_rfl) (fun _ _ _ h => h) (Or.inl ⟨by rfl, ?_⟩) hHeld ?_
          rotate_left
          · (intro w hSw; (try dsimp only at hSw); go_simp; try with_reducible rfl)
          try simp only [Act.put, List.setIfInBounds_toArray, List.set_cons_zero, List.set_cons_succ]
          refine wpHead_one (i := 12) (o := ⟨none, _, _, _, _, _⟩) rfl (by kernel_rfl) (by decide) (fun K hK => ?_)
          go_simp
          skip
          refine hK.out _ _ ?_ (fun hHeld => ?_)
          · exact HSW.out _ (((FZ.out.setCell (.inr (Nat.le_refl _)) _).setCell (.inr (Nat.le_refl _)) _).setCell (.inr (Nat.le_refl _)) _)
          clear hK K
          try simp only [Act.put, List.setIfInBounds_toArray, List.set_cons_zero, List.set_cons_succ]
          refine wpHead_take (i := 13) (oi := ⟨some 19, _, _, _, _, _⟩) (v := ?_) rfl (by kernel_rfl) (fun _ _ _ h => h) (Or.inl ⟨by rfl, ?_⟩) hHeld ?_
          rotate_left
          · (intro w hSw; (try dsimp only at hSw); go_simp; try with_reducible rfl)
          try simp only [Act.put, List.setIfInBounds_toArray, List.set_cons_zero, List.set_cons_succ]
          refine wpHead_done (by kernel_rfl) ?_
          simp only [List.drop_succ_cons, List.drop_zero]
          go_wp2_with fail
          go_meet
          exact ⟨wb.heap.size, Rg, Ag, ng, cg, tg, kg, rfl, rfl, rfl, Lib.hid AP.out.out, Lib.hid (RvAt.ofB AP.out HBZ.out).1, Lib.hid (((FZ.out.setCell (.inr (Nat.le_refl _)) _).setCell (.inr (Nat.le_refl _)) _).setCell (.inr (Nat.le_refl _)) _), Lib.hid (Nat.le_refl _)⟩

      case rest =>
      clear HSW HAR s0
      obtain ⟨gg, Rg, Ag, ng, cg, tg, kg, rfl, rfl, rfl, HAO, RVg, Fg, HGg⟩ := hcut
      have HPT := Lib.hid (Pm.patched HV.out HSO.out HFIT.out HRRa.out HRRb.out HAO.out)
      clear HRRa HAO
      replace RVb := Lib.hid (RVb.out.fr0 Fg.out)
      replace RVa := Lib.hid (RVa.out.fr0 Fg.out)
      replace PG := Lib.hid (PG.out.fr0 Fg.out)
      rw [← HRUN.out] at PG HRRb
      have HN1 : Hid (gb ≠ gg ∧ ga ≠ gg ∧ w.heap.size ≤ gg) := Lib.hid (by have := HLB.out; have := HLA2.out; have := HGg.out; have := HWB.out; omega)
      clear HLB HLA2 HLA HWB HGb HGg Fg
      cases kg
      · clear HPT
        have hb : Blk wc gb 34 #[.slice Ab nb cb, .int .i64 Rb.value, .bool Rb.found] := RVb.out.blk
        have z0 := RVg.out.blk.z 0
        have z1 := RVg.out.blk.z 1
        have z2 := RVg.out.blk.z 2
        have u0 := RVg.out.blk.c0
        have u1 := RVg.out.blk.c1
        have u2 := RVg.out.blk.c2
        go_upto_region 20 with (refine wpList_load_row rfl _ _ rfl gb rfl 34 _ (0, 0) _ hb Tryz.underlying34 rfl (by kernel_rfl) ?_)
        clear hb z0 z1 z2 u0 u1 u2
        have h3 := RvAt.put RVg.out RVb.out
        have RVb2 := Lib.hid (RVb.out.frG RVg.out h3.2 HN1.out.1)
        have RVa2 := Lib.hid (RVa.out.frG RVg.out h3.2 HN1.out.2.1)
        have PG2 := Lib.hid (PG.out.frR RVg.out.blk h3.2 HN1.out.2.2)
        have RVg2 := Lib.hid h3.1
        clear h3 RVb RVa PG RVg
        generalize ((wc.setCell ⟨gg, 0, none⟩ (.slice Ab nb cb)).setCell ⟨gg, 1, none⟩ (.int .i64 Rb.value)).setCell ⟨gg, 2, none⟩ (.bool Rb.found) = wk at *
        have RVb := RVb2
        have RVa := RVa2
        have PG := PG2
        have RVg := RVg2
        clear RVb2 RVa2 PG2 RVg2
        have g0 := RVg.out.blk.c0
        have g1 := RVg.out.blk.c1
        have g2 := RVg.out.blk.c2
        have b0 := RVb.out.blk.c0
        have b1 := RVb.out.blk.c1
        have b2 := RVb.out.blk.c2
        have HSM := Lib.hid (esame_rv RVg.out RVb.out HBb.out.1 HBb.out.1 (decide_eq_true rfl))
        go_wp2_with fail
        refine HSM.out.mono ?_
        rintro e w9 ⟨rfl, f9⟩
        have F9 := Lib.hid f9
        clear f9 HSM g0 g1 g2 b0 b1 b2
        replace RVg := Lib.hid (RVg.out.fr0 F9.out)
        replace RVa := Lib.hid (RVa.out.fr0 F9.out)
        replace PG := Lib.hid (PG.out.fr0 F9.out)
        have hg : Blk w9 gg 34 #[.slice Ab nb cb, .int .i64 Rb.value, .bool Rb.found] := RVg.out.blk
        have z0 := RVa.out.blk.z 0
        have z1 := RVa.out.blk.z 1
        have z2 := RVa.out.blk.z 2
        have u0 := RVa.out.blk.c0
        have u1 := RVa.out.blk.c1
        have u2 := RVa.out.blk.c2
        have h3 := RvAt.put RVa.out RVg.out
        have RV3 := Lib.hid h3.1
        have PG3 := Lib.hid (PG.out.frR RVa.out.blk h3.2 HGA0.out)
        clear h3
        go_wp2_with (refine wpList_load_row rfl _ _ rfl gg rfl 34 _ (0, 0) _ hg Tryz.underlying34 rfl (by kernel_rfl) ?_)
        go_roundw
        case rel => exact ⟨k + 1, Rb, _, _, _, by go_num, by omega, HRRb, PG3, RV3⟩
        case measure => simp [intOf]; omega
      · have HEQ := HPT.out.1 rfl
        clear HPT
        rw [HEQ] at RVg
        clear HEQ
        have g0 := RVg.out.blk.c0
        have g1 := RVg.out.blk.c1
        have g2 := RVg.out.blk.c2
        have b0 := RVb.out.blk.c0
        have b1 := RVb.out.blk.c1
        have b2 := RVb.out.blk.c2
        have HSM := Lib.hid (esame_rv RVg.out RVb.out HBb.out.1 HBb.out.1 (decide_eq_true rfl))
        go_wp2_with fail
        refine HSM.out.mono ?_
        rintro e w9 ⟨rfl, f9⟩
        have F9 := Lib.hid f9
        clear f9 HSM g0 g1 g2 b0 b1 b2
        replace RVg := Lib.hid (RVg.out.fr0 F9.out)
        replace RVa := Lib.hid (RVa.out.fr0 F9.out)
        replace PG := Lib.hid (PG.out.fr0 F9.out)
        have hg : Blk w9 gg 34 #[.slice Ag ng cg, .int .i64 Rb.value, .bool Rb.found] := RVg.out.blk
        have z0 := RVa.out.blk.z 0
        have z1 := RVa.out.blk.z 1
        have z2 := RVa.out.blk.z 2
        have u0 := RVa.out.blk.c0
        have u1 := RVa.out.blk.c1
        have u2 := RVa.out.blk.c2
        have h3 := RvAt.put RVa.out RVg.out
        have RV3 := Lib.hid h3.1
        have PG3 := Lib.hid (PG.out.frR RVa.out.blk h3.2 HGA0.out)
        clear h3
        go_wp2_with (refine wpList_load_row rfl _ _ rfl gg rfl 34 _ (0, 0) _ hg Tryz.underlying34 rfl (by kernel_rfl) ?_)
        go_roundw
        case rel => exact ⟨k + 1, Rb, _, _, _, by go_num, by omega, HRRb, PG3, RV3⟩
        case measure => simp [intOf]; omega
    · go_wp2_with fail
      go_ret
      exact ⟨rfl, PG.out.fr.below⟩
end Go.Proofs.YtjiikpmkedkbkaaGreat
