/-
  PredicatePatched: the walk of the law.
-/
import Derived.Test.YtjiikpmkedkbkaaGreatMy
import Derived.Test.YtjiikpmkedkbkaaGreatMx
import Derived.Test.YtjiikpmkedkbkaaGreatMd
import Derived.Deep.DeepCutAuto
import Derived.Deep.RegionLaw
import Derived.Deep.RegionWith
import Derived.Deep.CutBlock
import Derived.StillTailTactics
namespace Go.Proofs.YtjiikpmkedkbkaaGreat
open Go.RowKit

set_option maxRecDepth 100000 in
set_option maxHeartbeats 8000000 in
theorem patched_walk (A : Option Addr) (n cap : Nat) (x0 x1 x2 x3 x4 : Int)  (w : World) (hn : n ≤ cap) (hcap : cap ≤ maxLen) (hx : n = 0 ∨ ∃ bx ox, A = some ⟨bx, ox, none⟩ ∧ SixAt w bx ox n) (o0 : okI x0) (o1 : okI x1) (o2 : okI x2) (o3 : okI x3) (o4 : okI x4)  :
    Calls Tryz.prog 4 #[.slice A n cap, .agg #[.int .i64 x0, .int .i64 x1, .int .i64 x2, .int .i64 x3, .int .i64 x4]] w fun e w' => e = .returned (.bool true) ∧ Below w.heap.size w w' := by
  have hb63 : cap < 9223372036854775808 := by simp only [maxLen] at hcap; omega
  have F0 : Hid (Fr [] w (w.alloc (.cells #[.int .i64 x0, .int .i64 x1, .int .i64 x2, .int .i64 x3, .int .i64 x4] 23))) := Lib.hid ((Fr.refl [] w).alloc _)
  have B5 : Hid (Five (w.alloc (.cells #[.int .i64 x0, .int .i64 x1, .int .i64 x2, .int .i64 x3, .int .i64 x4] 23)) w.heap.size x0 x1 x2 x3 x4) := Lib.hid (Blk.new w _ _)
  have HX := Lib.hid hx
  have HO := Lib.hid (And.intro o0 (And.intro o1 (And.intro o2 (And.intro o3 o4))))
  clear hx o0 o1 o2 o3 o4
  go_enter Tryz.func4, Tryz.ntmps4
  go_wp2_with fail
  refine (sane7 _).mono ?_
  rintro e wa ⟨rfl, fa⟩
  replace B5 := Lib.hid (B5.out.fr fa (by simp))
  replace F0 := Lib.hid (F0.out.trans fa)
  clear fa
  go_wp2_with fail
  obtain ⟨mN, hmN⟩ : ∃ m : Nat, (min (n : Int) 25).toNat = m := ⟨_, rfl⟩
  have hm1 : mN ≤ 25 ∧ mN ≤ n := by omega
  rw [hmN]
  refine (log_any A mN cap wa (by omega) (by
    rcases HX.out with h0 | ⟨bx, ox, h1, h2⟩
    · exact .inl (by omega)
    · exact .inr ⟨bx, ox, h1, (h2.le hm1.2).fr0 F0.out⟩)).mono ?_
  clear hmN
  rintro e w2 ⟨vl, l, rfl, hor, hok, hll, f2, hvo⟩
  obtain ⟨A2, n2, c2, hv⟩ : ∃ A n c, vl = .slice A n c := by
    obtain ⟨us, hus, _⟩ := hor
    obtain ⟨A2, cap2, hv⟩ := hus.val
    exact ⟨_, _, _, hv⟩
  subst hv
  have HROW := Lib.hid hor
  have HOK := Lib.hid hok
  have HN2 : Hid (n2 = l.length) := Lib.hid hor.recs.2
  have hnM : n2 ≤ 25 := by rw [HN2.out]; omega
  replace B5 := Lib.hid (B5.out.fr f2 (by simp))
  replace F0 := Lib.hid (F0.out.trans f2)
  clear hor hok f2 hvo hll HX hm1 hn
  obtain ⟨g0, g1, g2, g3, g4⟩ := B5.out.cells
  go_wp2_with fail
  refine (query_any x0 x1 x2 x3 x4 _ HO.out.1 HO.out.2.1 HO.out.2.2.1 HO.out.2.2.2.1 HO.out.2.2.2.2).mono ?_
  rintro e wq ⟨q, rfl, hq, fq⟩
  have HQ := Lib.hid hq
  have fq1 := fq.alloc (.cells #[.int .i64 q.kind, .int .i64 q.table, .int .i64 q.column, .int .i64 q.low, .int .i64 q.high, .int .i64 q.by_, .int .i64 q.other] 28)
  have HBQ := Lib.hid (QAt.new wq q)
  replace F0 := Lib.hid (F0.out.trans fq1)
  replace HROW := Lib.hid (HROW.out.keep0 fq1)
  clear g0 g1 g2 g3 g4 B5 HO hq fq fq1 hcap
  go_wp2_with fail
  refine (snew_any _).mono ?_
  rintro e ws ⟨rfl, hst, fs⟩
  rw [World.size_alloc] at hst
  try rw [World.size_alloc]
  have PG : Hid (PgAt w ws (wq.heap.size + 1 + 1) (wq.heap.size + 1) wq.heap.size l A2 n2 c2 q Sm.new) := Lib.hid ⟨hst, HROW.out.keep0 fs, HBQ.out.fr fs (by simp), F0.out.trans fs, by have := F0.out.size; rw [World.size_alloc] at this; omega, by have := F0.out.size; rw [World.size_alloc] at this; omega⟩
  clear hst fs HROW HBQ
  generalize wq.heap.size + 1 + 1 = bs at *
  generalize wq.heap.size + 1 = ms at *
  generalize wq.heap.size = gq at *
  clear F0
  go_wp2_with fail
  have HV : Hid (Em.valid q = true) := Lib.hid HQ.out.valid
  have hok : okI q.kind := okI_mk (by have := HQ.out.k; omega) (by have := HQ.out.k; omega)
  have HOKI := Lib.hid hok
  have HTO := Lib.hid (fun c W => touches_any q c hok W)
  clear hok HQ
  go_loopw [9] (fun i wr => ∃ k : Nat, i = .int .i64 k ∧ k ≤ n2 ∧ Hid (PgAt w wr bs ms gq l A2 n2 c2 q (Lg.run (l.take k)))) (fun i _ => n2 - (intOf i).toNat)
  case atStart => exact ⟨0, rfl, Nat.zero_le _, PG⟩
  case round =>
    clear PG
    obtain ⟨k, rfl, hk, PG⟩ := hrel
    by_cases hlt : k < n2
    · have hkl : k < l.length := by rw [← HN2.out]; exact hlt
      have HFIT := Lib.hid (HOK.out.fits k hkl)
      have HSO := Lib.hid (Lg.run_ok (l.take k))
      have HSS := Lib.hid (Lg.run_sound (l.take k))
      have HSO' := Lib.hid (Lg.run_ok (l.take (k + 1)))
      have HSS' := Lib.hid (Lg.run_sound (l.take (k + 1)))
      have HRUN := Lib.hid (Lg.run_succ l hkl)
      rw [HRUN.out] at HSS' HSO'
      obtain ⟨s, HS⟩ : ∃ s, Hid (Lg.run (l.take k) = s) := ⟨_, Lib.hid rfl⟩
      obtain ⟨r, HR⟩ : ∃ r, Hid (l[k] = r) := ⟨_, Lib.hid rfl⟩
      rw [HS.out] at HFIT HSO HSS HSS' HSO' PG HRUN
      rw [HR.out] at HFIT HSS' HSO' HRUN
      obtain ⟨Ra, HRRa⟩ : ∃ R, Hid (Em.of s q = R) := ⟨_, Lib.hid rfl⟩
      have HBa := Lib.hid (Em.of_bounds HSO.out HSS.out q)
      have HOF := Lib.hid (PG.out.of HSS.out HV.out)
      rw [HRRa.out] at HBa HOF
      have hbq : Blk wr gq 28 #[.int .i64 q.kind, .int .i64 q.table, .int .i64 q.column, .int .i64 q.low, .int .i64 q.high, .int .i64 q.by_, .int .i64 q.other] := PG.out.q
      go_upto_region 9 with (first
        | (refine wpList_load_row rfl _ _ rfl gq rfl 28 _ (0, 0) _ hbq Tryz.underlying28 rfl (by kernel_rfl) ?_)
        | (go_at_call 12; refine HOF.out.mono ?_; rintro e wx ⟨Aa, na, ca, rfl, hrw⟩; have RW := Lib.hid hrw; clear hrw))
      clear hbq HOF
      have RVa := Lib.hid (RvAt.of (c := ca) RW.out)
      have Fa := Lib.hid (RW.out.fr.trans ((Fr.refl [] wx).alloc (.cells #[.slice Aa na ca, .int .i64 Ra.value, .bool Ra.found] 34)))
      replace PG := Lib.hid (PG.out.fr0 Fa.out)
      have HGX := Lib.hid RW.out.fr.size
      clear RW
      have HGa : Hid (wr.heap.size ≤ wx.heap.size) := Lib.hid HGX.out
      clear HGX
      generalize hw5 : wx.alloc (.cells #[.slice Aa na ca, .int .i64 Ra.value, .bool Ra.found] 34) = wa at *
      clear hw5
      generalize wx.heap.size = ga at *
      obtain ⟨bb, off, Ak, ck, hA, hbb, hc0, hc1, hhc, hl8⟩ := PG.out.open_ hkl
      subst hA
      rw [HR.out] at hc0 hc1 hhc hl8
      obtain ⟨nk, hnk⟩ : ∃ n, n = r.cs.length := ⟨_, rfl⟩
      rw [← hnk] at hc1 hl8
      have HNK := Lib.hid hnk
      obtain ⟨pk, hpk⟩ : ∃ n, n = r.p := ⟨_, rfl⟩
      rw [← hpk] at hc0
      have HPK := Lib.hid hpk
      clear hnk hpk
      have HAP := Lib.hid (PG.out.apply (cap := ck) hhc (by rw [← HNK.out]; exact hl8) HNK.out HPK.out HFIT.out)
      go_upto_region 11 with (go_at_call 13; refine HAP.out.mono ?_; rintro e wy ⟨rfl, hpg, fS⟩; have PG2 := Lib.hid hpg; have FS := Lib.hid fS; clear hpg fS)
      replace RVa := Lib.hid (RVa.out.frS PG.out.sta FS.out)
      clear hc0 hc1 hhc HAP PG
      have PG := PG2
      clear PG2
      clear FS Fa
      obtain ⟨Rb, HRRb⟩ : ∃ R, Hid (Em.of (Sm.apply s r) q = R) := ⟨_, Lib.hid rfl⟩
      have HBb := Lib.hid (Em.of_bounds HSO'.out HSS'.out q)
      have HOF := Lib.hid (PG.out.of HSS'.out HV.out)
      rw [HRRb.out] at HBb HOF
      have hbq : Blk wy gq 28 #[.int .i64 q.kind, .int .i64 q.table, .int .i64 q.column, .int .i64 q.low, .int .i64 q.high, .int .i64 q.by_, .int .i64 q.other] := PG.out.q
      go_upto_region 12 with (first
        | (refine wpList_load_row rfl _ _ rfl gq rfl 28 _ (0, 0) _ hbq Tryz.underlying28 rfl (by kernel_rfl) ?_)
        | (go_at_call 12; refine HOF.out.mono ?_; rintro e wx ⟨Ab, nb, cb, rfl, hrw⟩; have RW := Lib.hid hrw; clear hrw))
      clear hbq HOF
      have RVb := Lib.hid (RvAt.of (c := cb) RW.out)
      have Fb := Lib.hid (RW.out.fr.trans ((Fr.refl [] wx).alloc (.cells #[.slice Ab nb cb, .int .i64 Rb.value, .bool Rb.found] 34)))
      replace PG := Lib.hid (PG.out.fr0 Fb.out)
      have HGX := Lib.hid RW.out.fr.size
      clear RW
      have HGb : Hid (wy.heap.size ≤ wx.heap.size) := Lib.hid HGX.out
      clear HGX
      generalize hw5 : wx.alloc (.cells #[.slice Ab nb cb, .int .i64 Rb.value, .bool Rb.found] 34) = wb at *
      clear hw5
      generalize wx.heap.size = gb at *
      replace RVa := Lib.hid (RVa.out.fr0 Fb.out)
      clear Fb
      obtain ⟨bb', off', Ak', ck', hA', hbb2, hc0, hc1, hhc, _⟩ := PG.out.open_ hkl
      rw [HR.out] at hc0 hc1 hhc
      rw [← HNK.out] at hc1
      rw [← HPK.out] at hc0
      have eA : bb' = bb ∧ off' = off := by
        injection hA' with hA'
        injection hA' with h1 h2
        exact ⟨h1.symm, h2.symm⟩
      obtain ⟨rfl, rfl⟩ := eA
      clear hA'
      have HSW : Hid (∀ w', Fr [] wb w' → Blk w' gq 28 #[.int .i64 q.kind, .int .i64 q.table, .int .i64 q.column, .int .i64 q.low, .int .i64 q.high, .int .i64 q.by_, .int .i64 q.other] ∧ Blk w' ga 34 #[.slice Aa na ca, .int .i64 Ra.value, .bool Ra.found] ∧ w'.cell? ⟨bb', off' + k * 2, none⟩ = some (.int .i64 pk) ∧ w'.cell? ⟨bb', off' + k * 2 + 1, none⟩ = some (.slice Ak' nk ck')) := Lib.hid (fun w' hf => ⟨(PG.out.fr0 hf).q, (RVa.out.fr0 hf).blk, (hf.rules.1 bb' _ hbb2).trans hc0, (hf.rules.1 bb' _ hbb2).trans hc1⟩)
      have HAR : Hid (∀ w1, Fr [] wb w1 → Calls Tryz.prog 16 #[q.val, .agg #[.slice Aa na ca, .int .i64 Ra.value, .bool Ra.found], .agg #[.int .i64 pk, .slice Ak' nk ck']] w1 fun e w' => ∃ (r' : Res) (A' : Option Addr) (n' c' : Nat) (t k : Bool), e = .returned (.tuple #[.agg #[.slice A' n' c', .int .i64 r'.value, .bool r'.found], .bool t, .bool k]) ∧ ApAt w1 w' (Pm.apply q Ra r.cs) A' n' r' t k (na + 2 * nk) ∧ Fr [] wb w') := Lib.hid (fun w1 hf => (apply_rv HOKI.out (RVa.out.fr0 hf) (Nat.le_trans HBa.out.1 (by decide)) (by have := HBa.out.2; omega) (ck := ck') (p := pk) (hhc.fr hf NoC.nil).1 hl8 HNK.out).mono (fun e w' ⟨r', A', n', c', t, k, h1, h2⟩ => ⟨r', A', n', c', t, k, h1, h2, hf.trans h2.fr⟩))
      have s0 := HSW.out _ (Fr.refl [] _)
      clear hc0 hc1 hhc
      go_cut [14, 15, 16] (fun vp vt vk wn => ∃ (gg : Nat) (Rg : Res) (Ag : Option Addr) (ng cg : Nat) (tg kg : Bool), vp = .pointer (some ⟨gg, 0, none⟩) ∧ vt = .bool tg ∧ vk = .bool kg ∧ Hid (AOut (Pm.apply q Ra r.cs) Rg tg kg) ∧ Hid (RvAt wn gg Ag ng cg Rg) ∧ Hid (Fr [] wb wn) ∧ Hid (wb.heap.size ≤ gg))
      case first =>
        refine wp_region_head (fun W => Blk W gq 28 #[.int .i64 q.kind, .int .i64 q.table, .int .i64 q.column, .int .i64 q.low, .int .i64 q.high, .int .i64 q.by_, .int .i64 q.other] ∧ Blk W ga 34 #[.slice Aa na ca, .int .i64 Ra.value, .bool Ra.found] ∧ W.cell? ⟨bb', off' + k * 2, none⟩ = some (.int .i64 pk) ∧ W.cell? ⟨bb', off' + k * 2 + 1, none⟩ = some (.slice Ak' nk ck')) 14 (by kernel_rfl) (by kernel_rfl) (HSW.out _ (Fr.refl [] wb).drew) (fun hHeld => ?_)
        refine wpHead_take (i := 0) (oi := ⟨some 57, _, _, _, _, _⟩) (v := .agg (#[.int .i64 q.kind, .int .i64 q.table, .int .i64 q.column, .int .i64 q.low, .int .i64 q.high, .int .i64 q.by_, .int .i64 q.other])) rfl (by kernel_rfl) (fun _ _ _ h => h) (yieldsIf_load_blk (by rfl) _ _ rfl gq rfl 28 (#[.int .i64 q.kind, .int .i64 q.table, .int .i64 q.column, .int .i64 q.low, .int .i64 q.high, .int .i64 q.by_, .int .i64 q.other]) _ (fun _ h => h.1) Tryz.underlying28 rfl (by kernel_rfl)) hHeld ?_
        try simp only [Act.put, List.setIfInBounds_toArray, List.set_cons_zero, List.set_cons_succ]
        refine wpHead_take (i := 1) (oi := ⟨some 58, _, _, _, _, _⟩) (v := .agg (#[.slice Aa na ca, .int .i64 Ra.value, .bool Ra.found])) rfl (by kernel_rfl) (fun _ _ _ h => h) (yieldsIf_load_blk (by rfl) _ _ rfl ga rfl 34 (#[.slice Aa na ca, .int .i64 Ra.value, .bool Ra.found]) _ (fun _ h => h.2.1) Tryz.underlying34 rfl (by kernel_rfl)) hHeld ?_
        try simp only [Act.put, List.setIfInBounds_toArray, List.set_cons_zero, List.set_cons_succ]
        refine wpHead_take (i := 2) (oi := ⟨some 59, _, _, _, _, _⟩) (v := ?_) rfl (by kernel_rfl) (fun _ _ _ h => h) (Or.inl ⟨by rfl, ?_⟩) hHeld ?_
        rotate_left
        · (intro w hSw; (try dsimp only at hSw); go_simp; try with_reducible rfl)
        try simp only [Act.put, List.setIfInBounds_toArray, List.set_cons_zero, List.set_cons_succ]
        refine wpHead_take (i := 3) (oi := ⟨some 60, _, _, _, _, _⟩) (v := ?_) rfl (by kernel_rfl) (fun _ _ _ h => h) (Or.inl ⟨by rfl, ?_⟩) hHeld ?_
        rotate_left
        · (intro w hSw; (try dsimp only at hSw); go_simp; try with_reducible rfl)
        try simp only [Act.put, List.setIfInBounds_toArray, List.set_cons_zero, List.set_cons_succ]
        refine wpHead_take (i := 4) (oi := ⟨some 61, _, _, _, _, _⟩) (v := ?_) rfl (by kernel_rfl) (fun _ _ _ h => h) (Or.inl ⟨by rfl, ?_⟩) hHeld ?_
        rotate_left
        · (intro w hSw; (try dsimp only at hSw); go_simp; try with_reducible rfl)
        try simp only [Act.put, List.setIfInBounds_toArray, List.set_cons_zero, List.set_cons_succ]
        refine wpHead_take (i := 5) (oi := ⟨some 62, _, _, _, _, _⟩) (v := ?_) rfl (by kernel_rfl) (fun _ _ _ h => h) (Or.inl ⟨by rfl, ?_⟩) hHeld ?_
        rotate_left
        · (intro w hSw; (try dsimp only at hSw); go_simp; try with_reducible rfl)
        try simp only [Act.put, List.setIfInBounds_toArray, List.set_cons_zero, List.set_cons_succ]
        refine wpHead_two (i := 6) (j := 11) (oi := ⟨some 63, _, _, _, _, _⟩) (oj := ⟨some 14, _, _, _, _, _⟩) rfl rfl (by kernel_rfl) (by decide) (by decide) ?_ ?_
        · refine fun K hK => ?_
          go_simp
          refine (HAR.out _ (Fr.refl [] wb).drew).mono ?_
          rintro e wz ⟨Rg, Ag, ng, cg, tg, kg, rfl, hap, hfz⟩
          have AP := Lib.hid hap
          have FZ := Lib.hid hfz
          refine hK.out _ _ ?_ (fun hHeld => ?_)
          · exact HSW.out _ FZ.out
          clear hK K
          try simp only [Act.put, List.setIfInBounds_toArray, List.set_cons_zero, List.set_cons_succ]
          clear hap hfz
          refine wpHead_take (i := 7) (oi := ⟨some 56, _, _, _, _, _⟩) (v := ?_) rfl (by kernel_rfl) (fun _ _ _ h => h) (Or.inl ⟨by rfl, ?_⟩) hHeld ?_
          rotate_left
          · (intro w hSw; (try dsimp only at hSw); go_simp; try with_reducible rfl)
          try simp only [Act.put, List.setIfInBounds_toArray, List.set_cons_zero, List.set_cons_succ]
          refine wpHead_take (i := 8) (oi := ⟨some 64, _, _, _, _, _⟩) (v := ?_) rfl (by kernel_rfl) (fun _ _ _ h => h) (Or.inl ⟨by rfl, ?_⟩) hHeld ?_
          rotate_left
          · (intro w hSw; (try dsimp only at hSw); go_simp; try with_reducible rfl)
          try simp only [Act.put, List.setIfInBounds_toArray, List.set_cons_zero, List.set_cons_succ]
          refine wpHead_take (i := 9) (oi := ⟨some 65, _, _, _, _, _⟩) (v := ?_) rfl (by kernel_rfl) (fun _ _ _ h => h) (Or.inl ⟨by rfl, ?_⟩) hHeld ?_
          rotate_left
          · (intro w hSw; (try dsimp only at hSw); go_simp; try with_reducible rfl)
          try simp only [Act.put, List.setIfInBounds_toArray, List.set_cons_zero, List.set_cons_succ]
          refine wpHead_take (i := 10) (oi := ⟨some 66, _, _, _, _, _⟩) (v := ?_) rfl (by kernel_rfl) (fun _ _ _ h => h) (Or.inl ⟨by rfl, ?_⟩) hHeld ?_
          rotate_left
          · (intro w hSw; (try dsimp only at hSw); go_simp; try with_reducible rfl)
          try simp only [Act.put, List.setIfInBounds_toArray, List.set_cons_zero, List.set_cons_succ]
          refine wpHead_one (i := 11) (o := ⟨some 14, _, _, _, _, _⟩) rfl (by kernel_rfl) (by decide) (fun K hK => ?_)
          go_simp
          skip
          refine hK.out _ _ ?_ (fun hHeld => ?_)
          · exact HSW.out _ (FZ.out.alloc _)
          clear hK K
          try simp only [Act.put, List.setIfInBounds_toArray, List.set_cons_zero, List.set_cons_succ]
          refine wpHead_one (i := 12) (o := ⟨none, _, _, _, _, _⟩) rfl (by kernel_rfl) (by decide) (fun K hK => ?_)
          go_simp
          skip
          refine hK.out _ _ ?_ (fun hHeld => ?_)
          · exact HSW.out _ (FZ.out.alloc _)
          clear hK K
          try simp only [Act.put, List.setIfInBounds_toArray, List.set_cons_zero, List.set_cons_succ]
          refine wpHead_take (i := 13) (oi := ⟨some 15, _, _, _, _, _⟩) (v := ?_) rfl (by kernel_rfl) (fun _ _ _ h => h) (Or.inl ⟨by rfl, ?_⟩) hHeld ?_
          rotate_left
          · (intro w hSw; (try dsimp only at hSw); go_simp; try with_reducible rfl)
          try simp only [Act.put, List.setIfInBounds_toArray, List.set_cons_zero, List.set_cons_succ]
          refine wpHead_done (by kernel_rfl) ?_
          simp only [List.drop_succ_cons, List.drop_zero]
          go_wp2_with fail
          go_meet
          exact ⟨wz.heap.size, Rg, Ag, ng, cg, tg, kg, rfl, rfl, rfl, Lib.hid AP.out.out, Lib.hid (RvAt.ofA AP.out), Lib.hid (FZ.out.alloc _), Lib.hid FZ.out.size⟩

        · refine fun K hK => ?_
          go_simp
          skip
          refine hK.out _ _ ?_ (fun hHeld => ?_)
          · exact HSW.out _ ((Fr.refl [] wb).drew.alloc _)
          clear hK K
          try simp only [Act.put, List.setIfInBounds_toArray, List.set_cons_zero, List.set_cons_succ]
          refine wpHead_one (i := 6) (o := ⟨some 63, _, _, _, _, _⟩) rfl (by kernel_rfl) (by decide) (fun K hK => ?_)
          go_simp
          refine (HAR.out _ ((Fr.refl [] wb).drew.alloc _)).mono ?_
          rintro e wz ⟨Rg, Ag, ng, cg, tg, kg, rfl, hap, hfz⟩
          have AP := Lib.hid hap
          have FZ := Lib.hid hfz
          have hbz := Blk.fr (w := _) (g := wb.heap.size) (t := 34) (cs := #[.slice none 0 0, .int .i64 0, .bool false]) (Blk.new wb.drew _ _) hap.fr (by simp)
          have z0 := hbz.frozen 0
          have z1 := hbz.frozen 1
          have z2 := hbz.frozen 2
          have u0 := hbz.cell 0
          have u1 := hbz.cell 1
          have u2 := hbz.cell 2
          have HBZ := Lib.hid hbz
          clear hbz hap hfz
          refine hK.out _ _ ?_ (fun hHeld => ?_)
          · exact HSW.out _ FZ.out
          clear hK K
          try simp only [Act.put, List.setIfInBounds_toArray, List.set_cons_zero, List.set_cons_succ]
          refine wpHead_take (i := 7) (oi := ⟨some 56, _, _, _, _, _⟩) (v := ?_) rfl (by kernel_rfl) (fun _ _ _ h => h) (Or.inl ⟨by rfl, ?_⟩) hHeld ?_
          rotate_left
          · (intro w hSw; (try dsimp only at hSw); go_simp; try with_reducible rfl)
          try simp only [Act.put, List.setIfInBounds_toArray, List.set_cons_zero, List.set_cons_succ]
          refine wpHead_take (i := 8) (oi := ⟨some 64, _, _, _, _, _⟩) (v := ?_) rfl (by kernel_rfl) (fun _ _ _ h => h) (Or.inl ⟨by rfl, ?_⟩) hHeld ?_
          rotate_left
          · (intro w hSw; (try dsimp only at hSw); go_simp; try with_reducible rfl)
          try simp only [Act.put, List.setIfInBounds_toArray, List.set_cons_zero, List.set_cons_succ]
          refine wpHead_take (i := 9) (oi := ⟨some 65, _, _, _, _, _⟩) (v := ?_) rfl (by kernel_rfl) (fun _ _ _ h => h) (Or.inl ⟨by rfl, ?_⟩) hHeld ?_
          rotate_left
          · (intro w hSw; (try dsimp only at hSw); go_simp; try with_reducible rfl)
          try simp only [Act.put, List.setIfInBounds_toArray, List.set_cons_zero, List.set_cons_succ]
          refine wpHead_take (i := 10) (oi := ⟨some 66, _, _, _, _, _⟩) (v := ?_) rfl (by kernel_rfl) (fun _ _ _ h => h) (Or.inl ⟨by rfl, ?_⟩) hHeld ?_
          rotate_left
          · (intro w hSw; (try dsimp only at hSw); go_simp; try with_reducible rfl)
          try simp only [Act.put, List.setIfInBounds_toArray, List.set_cons_zero, List.set_cons_succ]
          refine wpHead_one (i := 12) (o := ⟨none, _, _, _, _, _⟩) rfl (by kernel_rfl) (by decide) (fun K hK => ?_)
          go_simp
          skip
          refine hK.out _ _ ?_ (fun hHeld => ?_)
          · exact HSW.out _ (((FZ.out.setCell (.inr (Nat.le_refl _)) _).setCell (.inr (Nat.le_refl _)) _).setCell (.inr (Nat.le_refl _)) _)
          clear hK K
          try simp only [Act.put, List.setIfInBounds_toArray, List.set_cons_zero, List.set_cons_succ]
          refine wpHead_take (i := 13) (oi := ⟨some 15, _, _, _, _, _⟩) (v := ?_) rfl (by kernel_rfl) (fun _ _ _ h => h) (Or.inl ⟨by rfl, ?_⟩) hHeld ?_
          rotate_left
          · (intro w hSw; (try dsimp only at hSw); go_simp; try with_reducible rfl)
          try simp only [Act.put, List.setIfInBounds_toArray, List.set_cons_zero, List.set_cons_succ]
          refine wpHead_done (by kernel_rfl) ?_
          simp only [List.drop_succ_cons, List.drop_zero]
          go_wp2_with fail
          go_meet
          exact ⟨wb.heap.size, Rg, Ag, ng, cg, tg, kg, rfl, rfl, rfl, Lib.hid AP.out.out, Lib.hid (RvAt.ofB AP.out HBZ.out).1, Lib.hid (((FZ.out.setCell (.inr (Nat.le_refl _)) _).setCell (.inr (Nat.le_refl _)) _).setCell (.inr (Nat.le_refl _)) _), Lib.hid (Nat.le_refl _)⟩

      case rest =>
      clear HSW HAR s0
      obtain ⟨gg, Rg, Ag, ng, cg, tg, kg, rfl, rfl, rfl, HAO, RVg, Fg, HGg⟩ := hcut
      have HPT := Lib.hid (Pm.patched HV.out HSO.out HFIT.out HRRa.out HRRb.out HAO.out)
      clear HRRa HRRb HAO
      replace RVb := Lib.hid (RVb.out.fr0 Fg.out)
      replace RVa := Lib.hid (RVa.out.fr0 Fg.out)
      replace PG := Lib.hid (PG.out.fr0 Fg.out)
      rw [← HRUN.out] at PG
      clear Fg
      cases kg
      · obtain ⟨rfl, -⟩ := HPT.out.2.1 rfl
        clear HPT
        go_wp2_with fail
        go_roundw
        case rel => exact ⟨k + 1, by go_num, by omega, PG⟩
        case measure => simp [intOf]; omega
      · have HEQ := Lib.hid (HPT.out.1 rfl)
        have HSM := Lib.hid (same_rv RVg.out RVb.out (by rw [HEQ.out]; exact HBb.out.1) HBb.out.1 (decide_eq_true HEQ.out))
        have g0 := RVg.out.blk.c0
        have g1 := RVg.out.blk.c1
        have g2 := RVg.out.blk.c2
        have b0 := RVb.out.blk.c0
        have b1 := RVb.out.blk.c1
        have b2 := RVb.out.blk.c2
        cases tg
        · have HE2 := Lib.hid (HPT.out.2.2.1 rfl)
          have HSN := Lib.hid (fun W (hf : Fr [] wc W) => same_rv (RVa.out.fr0 hf) (RVg.out.fr0 hf) HBa.out.1 (by rw [← HE2.out]; exact HBa.out.1) (decide_eq_true HE2.out))
          clear HPT
          go_wp2_with fail
          refine HSM.out.mono ?_
          rintro e w9 ⟨rfl, f9⟩
          have F9 := Lib.hid f9
          clear f9 HSM g0 g1 g2 b0 b1 b2
          replace RVa := Lib.hid (RVa.out.fr0 F9.out)
          replace RVg := Lib.hid (RVg.out.fr0 F9.out)
          have a0 := RVa.out.blk.c0
          have a1 := RVa.out.blk.c1
          have a2 := RVa.out.blk.c2
          have g0 := RVg.out.blk.c0
          have g1 := RVg.out.blk.c1
          have g2 := RVg.out.blk.c2
          go_wp2_with fail
          refine (HSN.out _ F9.out).mono ?_
          rintro e w10 ⟨rfl, f9⟩
          have F10 := Lib.hid (F9.out.trans f9)
          clear f9 HSN
          go_wp2_with fail
          go_roundw
          case rel => exact ⟨k + 1, by go_num, by omega, Lib.hid (PG.out.fr0 F10.out)⟩
          case measure => simp [intOf]; omega
        · clear HPT
          go_wp2_with fail
          refine HSM.out.mono ?_
          rintro e w9 ⟨rfl, f9⟩
          have F9 := Lib.hid f9
          clear f9 HSM g0 g1 g2 b0 b1 b2
          go_wp2_with fail
          go_roundw
          case rel => exact ⟨k + 1, by go_num, by omega, Lib.hid (PG.out.fr0 F9.out)⟩
          case measure => simp [intOf]; omega
    · go_wp2_with fail
      go_ret
      exact ⟨rfl, PG.out.fr.below⟩
end Go.Proofs.YtjiikpmkedkbkaaGreat
