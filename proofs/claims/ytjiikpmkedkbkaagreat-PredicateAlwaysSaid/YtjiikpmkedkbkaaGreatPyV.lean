/-
  PredicateAlways: the walk of the law.
-/
import Derived.Test.YtjiikpmkedkbkaaGreatMx
import Derived.Test.YtjiikpmkedkbkaaGreatMy
import Derived.Test.YtjiikpmkedkbkaaGreatMd
import Derived.Deep.DeepCutAuto
import Derived.Deep.RegionLaw
import Derived.Deep.RegionWith
import Derived.Deep.CutBlock
import Derived.StillTailTactics
namespace Go.Proofs.YtjiikpmkedkbkaaGreat
open Go.RowKit

namespace Pm
/-- What is not known, a join apart, is an extreme that a row had. -/
theorem always {s : Sm.Sta} {q : Qry} {c : Chg} {R : Res} (hv : Em.valid q = true) (h : MOk s.M) (hc : Rw.chg c = true) (hm : Sm.meets s.M c = true) (hR : Em.of s q = R) (hp : patch q R c = none) (h7 : q.kind ≠ 7) :
    (q.kind = 5 ∨ q.kind = 6) ∧ c.had = true ∧ (rowB c).value q.by_ = R.value ∧ R.found = true ∧ (c.has = true → better q.kind R.value ((rowA c).value q.by_) = true ∨ ((rowA c).value q.column < q.low ∨ q.high < (rowA c).value q.column)) := by
  subst hR
  have st := step (s' := ⟨Sm.put1 s.M c, 0⟩) q h hc hm rfl
  have hk := kind_of hv
  unfold patch at hp
  split at hp
  case isFalse => cases hp
  case isTrue ht =>
  unfold pk at hp
  by_cases k3 : q.kind = 3
  · rw [if_pos k3] at hp
    cases hp
  rw [if_neg k3] at hp
  by_cases k4 : q.kind = 4
  · rw [if_pos k4] at hp
    cases hp
  rw [if_neg k4] at hp
  by_cases k56 : q.kind = 5 ∨ q.kind = 6
  · rw [if_pos k56] at hp
    have hi : ∃ v f, Em.of s q = ⟨[], v, f⟩ ∧ IsExt q.kind (Em.meas q (Em.scan s q)) v f := by
      rcases k56 with k | k
      · obtain ⟨v, f, e, hx⟩ := Em.of_min (s := s) hv k
        exact ⟨v, f, e, by rw [k]; exact .of_min hx⟩
      · obtain ⟨v, f, e, hx⟩ := Em.of_max (s := s) hv k
        exact ⟨v, f, e, by rw [k]; exact .of_max hx⟩
    obtain ⟨v, f, e, hx⟩ := hi
    rw [e] at hp ⊢
    unfold ext at hp
    dsimp only at hp ⊢
    split at hp
    case isFalse =>
      split at hp <;> cases hp
    case isTrue h1 =>
    split at hp
    case isTrue => cases hp
    case isFalse h2 =>
    simp only [Bool.and_eq_true] at h1
    obtain ⟨b, hb⟩ := Option.isSome_iff_exists.1 h1.1
    have hbL : b ∈ Em.scan s q := st.old.mem_iff.2 (by rw [hb]; simp)
    have hold : old q c = b.value q.by_ := by
      unfold old
      rw [hb]
      rfl
    have hmem : old q c ∈ Em.meas q (Em.scan s q) := by
      rw [hold]
      exact List.mem_map.2 ⟨b, hbL, rfl⟩
    have hf : f = true := by
      cases f with
      | true => rfl
      | false => exact absurd hmem ((hx.none rfl).2 _)
    subst hf
    have hbe : better q.kind v (old q c) = false := by simpa using h1.2
    have heq : old q c = v := better_eq (hx.le _ hmem) hbe
    have hbr := B_some hb
    have hsb := sc_some hb
    have hhad : c.had = true := by
      have h3 := hsb.1
      unfold bef at h3
      split at h3
      · assumption
      · cases h3
    refine ⟨k56, hhad, by rw [← hbr, ← hold, heq], rfl, fun hh => ?_⟩
    by_cases hin : inq q (rowA c) = true
    · left
      have hA : A q c = some (rowA c) := by
        unfold A sc aft rowA at *
        rw [if_pos hh] at hin ⊢
        simp [Option.filter, hin, hh]
      have hnow : now q c = (rowA c).value q.by_ := by
        unfold now
        rw [hA]
        rfl
      rw [hA, hnow] at h2
      simpa using h2
    · right
      have ht1 := inRng_t b hsb.2
      have ht2 := (bef_t hsb.1).1
      have hat : (rowA c).t = q.table := by
        unfold rowA
        rw [if_pos hh]
        dsimp only
        omega
      unfold inq at hin
      rw [decide_eq_true hat, Bool.true_and, Bool.and_eq_true, decide_eq_true_eq, decide_eq_true_eq] at hin
      omega
  · rw [if_neg k56, if_neg h7] at hp
    cases hp
end Pm

set_option maxRecDepth 100000 in
set_option maxHeartbeats 8000000 in
theorem always_walk (A : Option Addr) (n cap : Nat) (x0 x1 x2 x3 x4 : Int)  (w : World) (hn : n ≤ cap) (hcap : cap ≤ maxLen) (hx : n = 0 ∨ ∃ bx ox, A = some ⟨bx, ox, none⟩ ∧ SixAt w bx ox n) (o0 : okI x0) (o1 : okI x1) (o2 : okI x2) (o3 : okI x3) (o4 : okI x4)  :
    Calls Tryz.prog 5 #[.slice A n cap, .agg #[.int .i64 x0, .int .i64 x1, .int .i64 x2, .int .i64 x3, .int .i64 x4]] w fun e w' => e = .returned (.bool true) ∧ Below w.heap.size w w' := by
  have hb63 : cap < 9223372036854775808 := by simp only [maxLen] at hcap; omega
  have F0 : Hid (Fr [] w (w.alloc (.cells #[.int .i64 x0, .int .i64 x1, .int .i64 x2, .int .i64 x3, .int .i64 x4] 23))) := Lib.hid ((Fr.refl [] w).alloc _)
  have B5 : Hid (Five (w.alloc (.cells #[.int .i64 x0, .int .i64 x1, .int .i64 x2, .int .i64 x3, .int .i64 x4] 23)) w.heap.size x0 x1 x2 x3 x4) := Lib.hid (Blk.new w _ _)
  have HX := Lib.hid hx
  have HO := Lib.hid (And.intro o0 (And.intro o1 (And.intro o2 (And.intro o3 o4))))
  clear hx o0 o1 o2 o3 o4
  go_enter Tryz.func5, Tryz.ntmps5
  go_wp2_with fail
  refine (sane7 _).mono ?_
  rintro e wa ⟨rfl, fa⟩
  replace B5 := Lib.hid (B5.out.fr fa (by simp))
  replace F0 := Lib.hid (F0.out.trans fa)
  clear fa
  go_wp2_with fail
  obtain ⟨mN, hmN⟩ : ∃ m : Nat, (min (n : Int) 25).toNat = m := ⟨_, rfl⟩
  have hm1 : mN ≤ 25 ∧ mN ≤ n := by omega
  rw [hmN]
  refine (log_any A mN cap wa (by omega) (by
    rcases HX.out with h0 | ⟨bx, ox, h1, h2⟩
    · exact .inl (by omega)
    · exact .inr ⟨bx, ox, h1, (h2.le hm1.2).fr0 F0.out⟩)).mono ?_
  clear hmN
  rintro e w2 ⟨vl, l, rfl, hor, hok, hll, f2, hvo⟩
  obtain ⟨A2, n2, c2, hv⟩ : ∃ A n c, vl = .slice A n c := by
    obtain ⟨us, hus, _⟩ := hor
    obtain ⟨A2, cap2, hv⟩ := hus.val
    exact ⟨_, _, _, hv⟩
  subst hv
  have HROW := Lib.hid hor
  have HOK := Lib.hid hok
  have HN2 : Hid (n2 = l.length) := Lib.hid hor.recs.2
  have hnM : n2 ≤ 25 := by rw [HN2.out]; omega
  replace B5 := Lib.hid (B5.out.fr f2 (by simp))
  replace F0 := Lib.hid (F0.out.trans f2)
  clear hor hok f2 hvo hll HX hm1 hn
  obtain ⟨g0, g1, g2, g3, g4⟩ := B5.out.cells
  go_wp2_with fail
  refine (query_any x0 x1 x2 x3 x4 _ HO.out.1 HO.out.2.1 HO.out.2.2.1 HO.out.2.2.2.1 HO.out.2.2.2.2).mono ?_
  rintro e wq ⟨q, rfl, hq, fq⟩
  have HQ := Lib.hid hq
  have fq1 := fq.alloc (.cells #[.int .i64 q.kind, .int .i64 q.table, .int .i64 q.column, .int .i64 q.low, .int .i64 q.high, .int .i64 q.by_, .int .i64 q.other] 28)
  have HBQ := Lib.hid (QAt.new wq q)
  replace F0 := Lib.hid (F0.out.trans fq1)
  replace HROW := Lib.hid (HROW.out.keep0 fq1)
  clear g0 g1 g2 g3 g4 B5 HO hq fq fq1 hcap
  go_wp2_with fail
  refine (snew_any _).mono ?_
  rintro e ws ⟨rfl, hst, fs⟩
  rw [World.size_alloc] at hst
  try rw [World.size_alloc]
  have PG : Hid (PgAt w ws (wq.heap.size + 1 + 1) (wq.heap.size + 1) wq.heap.size l A2 n2 c2 q Sm.new) := Lib.hid ⟨hst, HROW.out.keep0 fs, HBQ.out.fr fs (by simp), F0.out.trans fs, by have := F0.out.size; rw [World.size_alloc] at this; omega, by have := F0.out.size; rw [World.size_alloc] at this; omega⟩
  clear hst fs HROW HBQ
  generalize wq.heap.size + 1 + 1 = bs at *
  generalize wq.heap.size + 1 = ms at *
  generalize wq.heap.size = gq at *
  clear F0
  go_wp2_with fail
  have HV : Hid (Em.valid q = true) := Lib.hid HQ.out.valid
  have hok : okI q.kind := okI_mk (by have := HQ.out.k; omega) (by have := HQ.out.k; omega)
  have HOKI := Lib.hid hok
  have HTO := Lib.hid (fun c W => touches_any q c hok W)
  clear hok HQ
  go_loopw [9] (fun i wr => ∃ k : Nat, i = .int .i64 k ∧ k ≤ n2 ∧ Hid (PgAt w wr bs ms gq l A2 n2 c2 q (Lg.run (l.take k)))) (fun i _ => n2 - (intOf i).toNat)
  case atStart => exact ⟨0, rfl, Nat.zero_le _, PG⟩
  case round =>
    clear PG
    obtain ⟨k, rfl, hk, PG⟩ := hrel
    by_cases hlt : k < n2
    · have hkl : k < l.length := by rw [← HN2.out]; exact hlt
      have HFIT := Lib.hid (HOK.out.fits k hkl)
      have HSO := Lib.hid (Lg.run_ok (l.take k))
      have HSS := Lib.hid (Lg.run_sound (l.take k))
      have HSO' := Lib.hid (Lg.run_ok (l.take (k + 1)))
      have HSS' := Lib.hid (Lg.run_sound (l.take (k + 1)))
      have HRUN := Lib.hid (Lg.run_succ l hkl)
      rw [HRUN.out] at HSS' HSO'
      obtain ⟨s, HS⟩ : ∃ s, Hid (Lg.run (l.take k) = s) := ⟨_, Lib.hid rfl⟩
      obtain ⟨r, HR⟩ : ∃ r, Hid (l[k] = r) := ⟨_, Lib.hid rfl⟩
      rw [HS.out] at HFIT HSO HSS HSS' HSO' PG HRUN
      rw [HR.out] at HFIT HSS' HSO' HRUN
      obtain ⟨Ra, HRRa⟩ : ∃ R, Hid (Em.of s q = R) := ⟨_, Lib.hid rfl⟩
      have HBa := Lib.hid (Em.of_bounds HSO.out HSS.out q)
      have HOF := Lib.hid (PG.out.of HSS.out HV.out)
      rw [HRRa.out] at HBa HOF
      have hbq : Blk wr gq 28 #[.int .i64 q.kind, .int .i64 q.table, .int .i64 q.column, .int .i64 q.low, .int .i64 q.high, .int .i64 q.by_, .int .i64 q.other] := PG.out.q
      go_upto_region 9 with (first
        | (refine wpList_load_row rfl _ _ rfl gq rfl 28 _ (0, 0) _ hbq Tryz.underlying28 rfl (by kernel_rfl) ?_)
        | (go_at_call 12; refine HOF.out.mono ?_; rintro e wx ⟨Aa, na, ca, rfl, hrw⟩; have RW := Lib.hid hrw; clear hrw))
      clear hbq HOF
      have RVa := Lib.hid (RvAt.of (c := ca) RW.out)
      have Fa := Lib.hid (RW.out.fr.trans ((Fr.refl [] wx).alloc (.cells #[.slice Aa na ca, .int .i64 Ra.value, .bool Ra.found] 34)))
      replace PG := Lib.hid (PG.out.fr0 Fa.out)
      have HGX := Lib.hid RW.out.fr.size
      clear RW
      have HGa : Hid (wr.heap.size ≤ wx.heap.size) := Lib.hid HGX.out
      clear HGX
      generalize hw5 : wx.alloc (.cells #[.slice Aa na ca, .int .i64 Ra.value, .bool Ra.found] 34) = wa at *
      clear hw5
      generalize wx.heap.size = ga at *
      obtain ⟨bb, off, Ak, ck, hA, hbb, hc0, hc1, hhc, hl8⟩ := PG.out.open_ hkl
      subst hA
      rw [HR.out] at hc0 hc1 hhc hl8
      obtain ⟨nk, hnk⟩ : ∃ n, n = r.cs.length := ⟨_, rfl⟩
      rw [← hnk] at hc1 hl8
      have HNK := Lib.hid hnk
      obtain ⟨pk, hpk⟩ : ∃ n, n = r.p := ⟨_, rfl⟩
      rw [← hpk] at hc0
      have HPK := Lib.hid hpk
      clear hnk hpk
      have HAP := Lib.hid (PG.out.apply (cap := ck) hhc (by rw [← HNK.out]; exact hl8) HNK.out HPK.out HFIT.out)
      have HME := Lib.hid (fun (j : Nat) (hj : j < r.cs.length) => (⟨(Rw.valid_all (by have h := HFIT.out; simp only [Sm.fits, Bool.and_eq_true] at h; exact h.1.1)).1 _ (List.getElem_mem hj), Sm.fitsGo_meets _ _ _ (by have h := HFIT.out; simp only [Sm.fits, Bool.and_eq_true] at h; exact h.2) _ (List.getElem_mem hj)⟩ : Rw.chg r.cs[j] = true ∧ Sm.meets s.M r.cs[j] = true))
      go_upto_region 11 with (go_at_call 13; refine HAP.out.mono ?_; rintro e wy ⟨rfl, hpg, fS⟩; have PG2 := Lib.hid hpg; have FS := Lib.hid fS; clear hpg fS)
      replace RVa := Lib.hid (RVa.out.frS PG.out.sta FS.out)
      clear hc0 hc1 hhc HAP PG Fa HGa
      have PG := PG2
      clear PG2 FS
      go_wp2_with fail
      obtain ⟨wo, hwo⟩ : ∃ x, x = wr := ⟨_, rfl⟩
      subst hwo
      go_loopw [12] (fun vj wr => ∃ j : Nat, vj = .int .i64 j ∧ j ≤ nk ∧ Hid (Fr [] wy wr)) (fun vj _ => nk - (intOf vj).toNat)
      case atStart => exact ⟨0, rfl, Nat.zero_le _, Lib.hid (Fr.refl [] _)⟩
      case round =>
        obtain ⟨j, rfl, hj, FI⟩ := hrel
        obtain ⟨bb', off', Ak', ck', hA', hbb2, hc0, hc1, hhc, _⟩ := (PG.out.fr0 FI.out).open_ hkl
        rw [HR.out] at hc0 hc1 hhc
        rw [← HNK.out] at hc1
        rw [← HPK.out] at hc0
        have eA : bb' = bb ∧ off' = off := by
          injection hA' with hA'
          injection hA' with h1 h2
          exact ⟨h1.symm, h2.symm⟩
        obtain ⟨rfl, rfl⟩ := eA
        clear hA' hc0
        by_cases hlt2 : j < nk
        · have hjl : j < r.cs.length := by rw [← HNK.out]; exact hlt2
          obtain ⟨b3, off3, hA3, hb3, hc3⟩ := hhc.1 (by omega)
          subst hA3
          have hcc := Lib.hid (fun i (hi : i < 10) => hc3 j hjl i hi)
          have HMJ := Lib.hid (HME.out j hjl)
          clear hc3 hhc
          obtain ⟨c, HC⟩ : ∃ c, Hid (r.cs[j] = c) := ⟨_, Lib.hid rfl⟩
          rw [HC.out] at hcc HMJ
          have y0 : wr.cell? ⟨b3, off3 + j * 10, none⟩ = some (.int .i64 c.t) := hcc.out 0 (by decide)
          have y1 : wr.cell? ⟨b3, off3 + j * 10 + 1, none⟩ = some (.int .i64 c.k) := hcc.out 1 (by decide)
          have y2 : wr.cell? ⟨b3, off3 + j * 10 + 2, none⟩ = some (.bool c.had) := hcc.out 2 (by decide)
          have y3 : wr.cell? ⟨b3, off3 + j * 10 + 3, none⟩ = some (.int .i64 c.o0) := hcc.out 3 (by decide)
          have y4 : wr.cell? ⟨b3, off3 + j * 10 + 4, none⟩ = some (.int .i64 c.o1) := hcc.out 4 (by decide)
          have y5 : wr.cell? ⟨b3, off3 + j * 10 + 5, none⟩ = some (.int .i64 c.o2) := hcc.out 5 (by decide)
          have y6 : wr.cell? ⟨b3, off3 + j * 10 + 6, none⟩ = some (.bool c.has) := hcc.out 6 (by decide)
          have y7 : wr.cell? ⟨b3, off3 + j * 10 + 7, none⟩ = some (.int .i64 c.n0) := hcc.out 7 (by decide)
          have y8 : wr.cell? ⟨b3, off3 + j * 10 + 8, none⟩ = some (.int .i64 c.n1) := hcc.out 8 (by decide)
          have y9 : wr.cell? ⟨b3, off3 + j * 10 + 9, none⟩ = some (.int .i64 c.n2) := hcc.out 9 (by decide)
          go_upto_region 15 with (fail)
          clear y0 y1 y2 y3 y4 y5 y6 y7 y8 y9 hcc hc1 hbb2 hb3
          have BC := Lib.hid (Blk.new wr 45 #[.int .i64 c.t, .int .i64 c.k, .bool c.had, .int .i64 c.o0, .int .i64 c.o1, .int .i64 c.o2, .bool c.has, .int .i64 c.n0, .int .i64 c.n1, .int .i64 c.n2])
          have f5 : Fr [] wr (wr.alloc (.cells #[.int .i64 c.t, .int .i64 c.k, .bool c.had, .int .i64 c.o0, .int .i64 c.o1, .int .i64 c.o2, .bool c.has, .int .i64 c.n0, .int .i64 c.n1, .int .i64 c.n2] 45)) := (Fr.refl _ _).alloc _
          replace FI := Lib.hid (FI.out.trans f5)
          clear f5
          generalize hw5 : wr.alloc (.cells #[.int .i64 c.t, .int .i64 c.k, .bool c.had, .int .i64 c.o0, .int .i64 c.o1, .int .i64 c.o2, .bool c.has, .int .i64 c.n0, .int .i64 c.n1, .int .i64 c.n2] 45) = w5 at *
          clear hw5
          generalize wr.heap.size = gc at *
          have HPT := Lib.hid (fun W (hf : Fr [] w5 W) => patch_any q c HOKI.out Aa na ca Ra.value Ra.found Ra.rows W ((RVa.out.fr0 FI.out).fr0 hf).rows RVa.out.len (by have := RVa.out.len; have := HBa.out.1; omega) (by have := HBa.out.2; omega) (by have := HBa.out.2; omega))
          have hq : Blk w5 gq 28 #[.int .i64 q.kind, .int .i64 q.table, .int .i64 q.column, .int .i64 q.low, .int .i64 q.high, .int .i64 q.by_, .int .i64 q.other] := (PG.out.fr0 FI.out).q
          have hr : Blk w5 ga 34 #[.slice Aa na ca, .int .i64 Ra.value, .bool Ra.found] := (RVa.out.fr0 FI.out).blk
          have hc := BC.out
          go_upto_region 16 with (first
            | (refine wpList_load_row rfl _ _ rfl gq rfl 28 _ (0, 0) _ hq Tryz.underlying28 rfl (by kernel_rfl) ?_)
            | (refine wpList_load_row rfl _ _ rfl ga rfl 34 _ (0, 0) _ hr Tryz.underlying34 rfl (by kernel_rfl) ?_)
            | (refine wpList_load_row rfl _ _ rfl gc rfl 45 _ (0, 0) _ hc Tryz.underlying45 rfl (by kernel_rfl) ?_)
            | (go_at_call 17; refine (HPT.out _ (Fr.refl [] _)).mono ?_; rintro e w6 ⟨A7, n7, c7, m7, f7, kk, rfl, hpp⟩; have HPP := Lib.hid hpp; clear hpp))
          clear hq hr hc HPT
          have f6 := HPP.out.2.2.alloc (.cells #[.slice A7 n7 c7, .int .i64 m7, .bool f7] 34)
          replace FI := Lib.hid (FI.out.trans f6)
          replace BC := Lib.hid (BC.out.fr f6 (by simp))
          have HPN : Hid (kk = false → Pm.patch q Ra c = none) := Lib.hid (fun h => (HPP.out.2.1 h).1)
          clear f6 HPP
          generalize hw7 : w6.alloc (.cells #[.slice A7 n7 c7, .int .i64 m7, .bool f7] 34) = w7 at *
          clear hw7
          cases kk
          · have HNONE := Lib.hid (HPN.out rfl)
            clear HPN
            have q0 := (PG.out.fr0 FI.out).q.c0
            by_cases h7 : q.kind = 7
            · rw [h7] at q0
              clear h7
              go_wp2_with fail
              go_roundw
              case rel => exact ⟨j + 1, by go_num, by omega, FI⟩
              case measure => simp [intOf]; omega
            · have HAL := Lib.hid (Pm.always HV.out (.of HSO.out) HMJ.out.1 HMJ.out.2 HRRa.out HNONE.out h7)
              have e7 : (q.kind == 7) = false := by simpa using h7
              have e4 : decide (q.kind ≤ 4) = false := decide_eq_false (by have := HAL.out.1; omega)
              clear h7 HNONE
              have HCR := Lib.hid (fun W => rhad_row c W)
              rw [HAL.out.2.1] at HCR
              have hc := BC.out
              go_upto_region 21 with (first
                | (refine wpList_load_row rfl _ _ rfl gc rfl 45 _ (0, 0) _ hc Tryz.underlying45 rfl (by kernel_rfl) ?_)
                | (go_at_call 18; refine (HCR.out _).mono ?_; rintro e w8 ⟨rfl, f8⟩; have F8 := Lib.hid f8; clear f8))
              clear hc HCR
              have f9 := F8.out.alloc (.cells #[.int .i64 (Pm.rowB c).t, .int .i64 (Pm.rowB c).k, .int .i64 (Pm.rowB c).x, .int .i64 (Pm.rowB c).y, .int .i64 (Pm.rowB c).z] 53)
              have Bx := Lib.hid (Blk.new w8 53 #[.int .i64 (Pm.rowB c).t, .int .i64 (Pm.rowB c).k, .int .i64 (Pm.rowB c).x, .int .i64 (Pm.rowB c).y, .int .i64 (Pm.rowB c).z])
              replace FI := Lib.hid (FI.out.trans f9)
              replace BC := Lib.hid (BC.out.fr f9 (by simp))
              clear f9 F8
              generalize hw9 : w8.alloc (.cells #[.int .i64 (Pm.rowB c).t, .int .i64 (Pm.rowB c).k, .int .i64 (Pm.rowB c).x, .int .i64 (Pm.rowB c).y, .int .i64 (Pm.rowB c).z] 53) = w9 at *
              clear hw9
              generalize w8.heap.size = gx at *
              clear q0
              have HVB := Lib.hid (fun W => rfValue_any (Pm.rowB c) q.by_ W)
              rw [HAL.out.2.2.1] at HVB
              have PQ := (PG.out.fr0 FI.out).q
              have PR := (RVa.out.fr0 FI.out).blk
              have q0 : ∀ p : Later w9, p.w.cell? ⟨gq, 0, none⟩ = some (.int .i64 q.kind) := fun p => p.cell PQ.lt PQ.c0
              have q1 : ∀ p : Later w9, p.w.cell? ⟨gq, 1, none⟩ = some (.int .i64 q.table) := fun p => p.cell PQ.lt PQ.c1
              have q2 : ∀ p : Later w9, p.w.cell? ⟨gq, 2, none⟩ = some (.int .i64 q.column) := fun p => p.cell PQ.lt PQ.c2
              have q3 : ∀ p : Later w9, p.w.cell? ⟨gq, 3, none⟩ = some (.int .i64 q.low) := fun p => p.cell PQ.lt PQ.c3
              have q4 : ∀ p : Later w9, p.w.cell? ⟨gq, 4, none⟩ = some (.int .i64 q.high) := fun p => p.cell PQ.lt PQ.c4
              have q5 : ∀ p : Later w9, p.w.cell? ⟨gq, 5, none⟩ = some (.int .i64 q.by_) := fun p => p.cell PQ.lt PQ.c5
              have q6 : ∀ p : Later w9, p.w.cell? ⟨gq, 6, none⟩ = some (.int .i64 q.other) := fun p => p.cell PQ.lt PQ.c6
              have r1 : ∀ p : Later w9, p.w.cell? ⟨ga, 1, none⟩ = some (.int .i64 Ra.value) := fun p => p.cell (Blk.lt PR) PR.c1
              have r2 : ∀ p : Later w9, p.w.cell? ⟨ga, 2, none⟩ = some (.bool true) := fun p => by rw [← HAL.out.2.2.2.1]; exact p.cell (Blk.lt PR) PR.c2
              have x0 : ∀ p : Later w9, p.w.cell? ⟨gx, 0, none⟩ = some (.int .i64 (Pm.rowB c).t) := fun p => p.cell Bx.out.lt (Bx.out.cell 0)
              have x1 : ∀ p : Later w9, p.w.cell? ⟨gx, 1, none⟩ = some (.int .i64 (Pm.rowB c).k) := fun p => p.cell Bx.out.lt (Bx.out.cell 1)
              have x2 : ∀ p : Later w9, p.w.cell? ⟨gx, 2, none⟩ = some (.int .i64 (Pm.rowB c).x) := fun p => p.cell Bx.out.lt (Bx.out.cell 2)
              have x3 : ∀ p : Later w9, p.w.cell? ⟨gx, 3, none⟩ = some (.int .i64 (Pm.rowB c).y) := fun p => p.cell Bx.out.lt (Bx.out.cell 3)
              have x4 : ∀ p : Later w9, p.w.cell? ⟨gx, 4, none⟩ = some (.int .i64 (Pm.rowB c).z) := fun p => p.cell Bx.out.lt (Bx.out.cell 4)
              clear PQ PR
              refine wp_region_later (by kernel_rfl) (by kernel_rfl) ?_
              repeat (go_big_quiet_step (exact Later.calls (HVB.out _)))
              refine wpQuiet_nil ?_
              rintro w' ⟨⟨wz, fq⟩, rfl⟩
              have FI2 := Lib.hid (FI.out.trans fq)
              have BC2 := Lib.hid (BC.out.fr fq (by simp))
              clear fq r1 r2 q0 q1 q2 q3 q4 q5 q6 FI BC
              have FI := FI2
              have BC := BC2
              clear FI2 BC2
              clear x0 x1 x2 x3 x4 Bx HVB
              generalize hw10 : w' = w10 at *
              clear hw10
              have HCR := Lib.hid (fun W => rhas_row c W)
              obtain ⟨zh, HZH⟩ : ∃ x, Hid (c.has = x) := ⟨_, Lib.hid rfl⟩
              rw [HZH.out] at HCR
              have hc := BC.out
              go_upto_region 24 with (first
                | (refine wpList_load_row rfl _ _ rfl gc rfl 45 _ (0, 0) _ hc Tryz.underlying45 rfl (by kernel_rfl) ?_)
                | (go_at_call 20; refine (HCR.out _).mono ?_; rintro e w8 ⟨rfl, f8⟩; have F8 := Lib.hid f8; clear f8))
              clear hc HCR
              have f9 := F8.out.alloc (.cells #[.int .i64 (Pm.rowA c).t, .int .i64 (Pm.rowA c).k, .int .i64 (Pm.rowA c).x, .int .i64 (Pm.rowA c).y, .int .i64 (Pm.rowA c).z] 53)
              have By := Lib.hid (Blk.new w8 53 #[.int .i64 (Pm.rowA c).t, .int .i64 (Pm.rowA c).k, .int .i64 (Pm.rowA c).x, .int .i64 (Pm.rowA c).y, .int .i64 (Pm.rowA c).z])
              replace FI := Lib.hid (FI.out.trans f9)
              replace BC := Lib.hid (BC.out.fr f9 (by simp))
              clear f9 F8
              generalize hw9 : w8.alloc (.cells #[.int .i64 (Pm.rowA c).t, .int .i64 (Pm.rowA c).k, .int .i64 (Pm.rowA c).x, .int .i64 (Pm.rowA c).y, .int .i64 (Pm.rowA c).z] 53) = w9 at *
              clear hw9
              generalize w8.heap.size = gy at *
              obtain ⟨u, HU⟩ : ∃ x, Hid ((Pm.rowA c).value q.by_ = x) := ⟨_, Lib.hid rfl⟩
              obtain ⟨v, HVV⟩ : ∃ x, Hid ((Pm.rowA c).value q.column = x) := ⟨_, Lib.hid rfl⟩
              have HVU := Lib.hid (fun W => rfValue_any (Pm.rowA c) q.by_ W)
              have HVC := Lib.hid (fun W => rfValue_any (Pm.rowA c) q.column W)
              rw [HU.out] at HVU
              rw [HVV.out] at HVC
              have HBAD : Hid (zh = true → Pm.better q.kind Ra.value u = true ∨ (v < q.low ∨ q.high < v)) := Lib.hid (by
                have h := HAL.out.2.2.2.2
                rw [HU.out, HVV.out, HZH.out] at h
                exact h)
              have HK56 := Lib.hid HAL.out.1
              clear HU HVV HZH BC HAL
              go_cut [20] (fun x wn => ∃ b1 : Bool, x = .bool b1 ∧ Hid (b1 = decide (Ra.value < u)) ∧ Hid (Fr [] wy wn) ∧ Hid (Blk wn gy 53 #[.int .i64 (Pm.rowA c).t, .int .i64 (Pm.rowA c).k, .int .i64 (Pm.rowA c).x, .int .i64 (Pm.rowA c).y, .int .i64 (Pm.rowA c).z]))
              case first =>
                by_cases e : Ra.value < u
                · have HE : Hid (true = decide (Ra.value < u)) := Lib.hid (by simp [e])
                  have PQ := (PG.out.fr0 FI.out).q
                  have PR := (RVa.out.fr0 FI.out).blk
                  have q0 : ∀ p : Later w9, p.w.cell? ⟨gq, 0, none⟩ = some (.int .i64 q.kind) := fun p => p.cell PQ.lt PQ.c0
                  have q1 : ∀ p : Later w9, p.w.cell? ⟨gq, 1, none⟩ = some (.int .i64 q.table) := fun p => p.cell PQ.lt PQ.c1
                  have q2 : ∀ p : Later w9, p.w.cell? ⟨gq, 2, none⟩ = some (.int .i64 q.column) := fun p => p.cell PQ.lt PQ.c2
                  have q3 : ∀ p : Later w9, p.w.cell? ⟨gq, 3, none⟩ = some (.int .i64 q.low) := fun p => p.cell PQ.lt PQ.c3
                  have q4 : ∀ p : Later w9, p.w.cell? ⟨gq, 4, none⟩ = some (.int .i64 q.high) := fun p => p.cell PQ.lt PQ.c4
                  have q5 : ∀ p : Later w9, p.w.cell? ⟨gq, 5, none⟩ = some (.int .i64 q.by_) := fun p => p.cell PQ.lt PQ.c5
                  have q6 : ∀ p : Later w9, p.w.cell? ⟨gq, 6, none⟩ = some (.int .i64 q.other) := fun p => p.cell PQ.lt PQ.c6
                  have r1 : ∀ p : Later w9, p.w.cell? ⟨ga, 1, none⟩ = some (.int .i64 Ra.value) := fun p => p.cell (Blk.lt PR) PR.c1
                  have y0 : ∀ p : Later w9, p.w.cell? ⟨gy, 0, none⟩ = some (.int .i64 (Pm.rowA c).t) := fun p => p.cell By.out.lt (By.out.cell 0)
                  have y1 : ∀ p : Later w9, p.w.cell? ⟨gy, 1, none⟩ = some (.int .i64 (Pm.rowA c).k) := fun p => p.cell By.out.lt (By.out.cell 1)
                  have y2 : ∀ p : Later w9, p.w.cell? ⟨gy, 2, none⟩ = some (.int .i64 (Pm.rowA c).x) := fun p => p.cell By.out.lt (By.out.cell 2)
                  have y3 : ∀ p : Later w9, p.w.cell? ⟨gy, 3, none⟩ = some (.int .i64 (Pm.rowA c).y) := fun p => p.cell By.out.lt (By.out.cell 3)
                  have y4 : ∀ p : Later w9, p.w.cell? ⟨gy, 4, none⟩ = some (.int .i64 (Pm.rowA c).z) := fun p => p.cell By.out.lt (By.out.cell 4)
                  clear PQ PR
                  refine wp_region_later (by kernel_rfl) (by kernel_rfl) ?_
                  repeat (go_big_quiet_step (exact Later.calls (HVU.out _)))
                  refine wpQuiet_nil ?_
                  rintro w' ⟨⟨wz, fq⟩, rfl⟩
                  have FI2 := Lib.hid (FI.out.trans fq)
                  have By2 := Lib.hid (By.out.fr fq (by simp))
                  clear fq r1  q0 q1 q2 q3 q4 q5 q6 FI By
                  have FI := FI2
                  have By := By2
                  clear FI2 By2
                  clear y0 y1 y2 y3 y4
                  go_wp2_with fail
                  go_meet
                  exact ⟨true, rfl, HE, FI, By⟩
                · have HE : Hid (false = decide (Ra.value < u)) := Lib.hid (by simp [e])
                  have e2 : decide (Ra.value < u) = false := decide_eq_false e
                  clear e
                  have PQ := (PG.out.fr0 FI.out).q
                  have PR := (RVa.out.fr0 FI.out).blk
                  have q0 : ∀ p : Later w9, p.w.cell? ⟨gq, 0, none⟩ = some (.int .i64 q.kind) := fun p => p.cell PQ.lt PQ.c0
                  have q1 : ∀ p : Later w9, p.w.cell? ⟨gq, 1, none⟩ = some (.int .i64 q.table) := fun p => p.cell PQ.lt PQ.c1
                  have q2 : ∀ p : Later w9, p.w.cell? ⟨gq, 2, none⟩ = some (.int .i64 q.column) := fun p => p.cell PQ.lt PQ.c2
                  have q3 : ∀ p : Later w9, p.w.cell? ⟨gq, 3, none⟩ = some (.int .i64 q.low) := fun p => p.cell PQ.lt PQ.c3
                  have q4 : ∀ p : Later w9, p.w.cell? ⟨gq, 4, none⟩ = some (.int .i64 q.high) := fun p => p.cell PQ.lt PQ.c4
                  have q5 : ∀ p : Later w9, p.w.cell? ⟨gq, 5, none⟩ = some (.int .i64 q.by_) := fun p => p.cell PQ.lt PQ.c5
                  have q6 : ∀ p : Later w9, p.w.cell? ⟨gq, 6, none⟩ = some (.int .i64 q.other) := fun p => p.cell PQ.lt PQ.c6
                  have r1 : ∀ p : Later w9, p.w.cell? ⟨ga, 1, none⟩ = some (.int .i64 Ra.value) := fun p => p.cell (Blk.lt PR) PR.c1
                  have y0 : ∀ p : Later w9, p.w.cell? ⟨gy, 0, none⟩ = some (.int .i64 (Pm.rowA c).t) := fun p => p.cell By.out.lt (By.out.cell 0)
                  have y1 : ∀ p : Later w9, p.w.cell? ⟨gy, 1, none⟩ = some (.int .i64 (Pm.rowA c).k) := fun p => p.cell By.out.lt (By.out.cell 1)
                  have y2 : ∀ p : Later w9, p.w.cell? ⟨gy, 2, none⟩ = some (.int .i64 (Pm.rowA c).x) := fun p => p.cell By.out.lt (By.out.cell 2)
                  have y3 : ∀ p : Later w9, p.w.cell? ⟨gy, 3, none⟩ = some (.int .i64 (Pm.rowA c).y) := fun p => p.cell By.out.lt (By.out.cell 3)
                  have y4 : ∀ p : Later w9, p.w.cell? ⟨gy, 4, none⟩ = some (.int .i64 (Pm.rowA c).z) := fun p => p.cell By.out.lt (By.out.cell 4)
                  clear PQ PR
                  refine wp_region_later (by kernel_rfl) (by kernel_rfl) ?_
                  repeat (go_big_quiet_step (exact Later.calls (HVU.out _)))
                  refine wpQuiet_nil ?_
                  rintro w' ⟨⟨wz, fq⟩, rfl⟩
                  have FI2 := Lib.hid (FI.out.trans fq)
                  have By2 := Lib.hid (By.out.fr fq (by simp))
                  clear fq r1  q0 q1 q2 q3 q4 q5 q6 FI By
                  have FI := FI2
                  have By := By2
                  clear FI2 By2
                  clear y0 y1 y2 y3 y4
                  go_wp2_with fail
                  go_meet
                  exact ⟨false, rfl, HE, FI, By⟩
              case rest =>
              clear FI By
              obtain ⟨b1, rfl, HB1, FI, By⟩ := hcut
              by_cases h6 : q.kind = 6
              · skip
                have e6 : (q.kind == 6) = true := by simpa using h6
                have HKK : Hid (Pm.better q.kind Ra.value u = decide (u < Ra.value)) := Lib.hid (by rw [h6]; unfold Pm.better; rw [if_neg (by decide)])
                have q0 : wc.cell? ⟨gq, 0, none⟩ = some (.int .i64 6) := by rw [← h6]; exact (PG.out.fr0 FI.out).q.c0
                clear h6 HB1 HK56
                go_upto_region 26 with (fail)
                clear q0
                by_cases e : u < Ra.value
                · have HWS : Hid (Pm.better q.kind Ra.value u = true) := Lib.hid (by rw [HKK.out]; simp [e])
                  have PQ := (PG.out.fr0 FI.out).q
                  have PR := (RVa.out.fr0 FI.out).blk
                  have q0 : ∀ p : Later wc, p.w.cell? ⟨gq, 0, none⟩ = some (.int .i64 q.kind) := fun p => p.cell PQ.lt PQ.c0
                  have q1 : ∀ p : Later wc, p.w.cell? ⟨gq, 1, none⟩ = some (.int .i64 q.table) := fun p => p.cell PQ.lt PQ.c1
                  have q2 : ∀ p : Later wc, p.w.cell? ⟨gq, 2, none⟩ = some (.int .i64 q.column) := fun p => p.cell PQ.lt PQ.c2
                  have q3 : ∀ p : Later wc, p.w.cell? ⟨gq, 3, none⟩ = some (.int .i64 q.low) := fun p => p.cell PQ.lt PQ.c3
                  have q4 : ∀ p : Later wc, p.w.cell? ⟨gq, 4, none⟩ = some (.int .i64 q.high) := fun p => p.cell PQ.lt PQ.c4
                  have q5 : ∀ p : Later wc, p.w.cell? ⟨gq, 5, none⟩ = some (.int .i64 q.by_) := fun p => p.cell PQ.lt PQ.c5
                  have q6 : ∀ p : Later wc, p.w.cell? ⟨gq, 6, none⟩ = some (.int .i64 q.other) := fun p => p.cell PQ.lt PQ.c6
                  have r1 : ∀ p : Later wc, p.w.cell? ⟨ga, 1, none⟩ = some (.int .i64 Ra.value) := fun p => p.cell (Blk.lt PR) PR.c1
                  have y0 : ∀ p : Later wc, p.w.cell? ⟨gy, 0, none⟩ = some (.int .i64 (Pm.rowA c).t) := fun p => p.cell By.out.lt (By.out.cell 0)
                  have y1 : ∀ p : Later wc, p.w.cell? ⟨gy, 1, none⟩ = some (.int .i64 (Pm.rowA c).k) := fun p => p.cell By.out.lt (By.out.cell 1)
                  have y2 : ∀ p : Later wc, p.w.cell? ⟨gy, 2, none⟩ = some (.int .i64 (Pm.rowA c).x) := fun p => p.cell By.out.lt (By.out.cell 2)
                  have y3 : ∀ p : Later wc, p.w.cell? ⟨gy, 3, none⟩ = some (.int .i64 (Pm.rowA c).y) := fun p => p.cell By.out.lt (By.out.cell 3)
                  have y4 : ∀ p : Later wc, p.w.cell? ⟨gy, 4, none⟩ = some (.int .i64 (Pm.rowA c).z) := fun p => p.cell By.out.lt (By.out.cell 4)
                  clear PQ PR
                  refine wp_region_later (by kernel_rfl) (by kernel_rfl) ?_
                  repeat (go_big_quiet_step (exact Later.calls (HVU.out _)))
                  refine wpQuiet_nil ?_
                  rintro w' ⟨⟨wz, fq⟩, rfl⟩
                  have FI2 := Lib.hid (FI.out.trans fq)
                  have By2 := Lib.hid (By.out.fr fq (by simp))
                  clear fq r1  q0 q1 q2 q3 q4 q5 q6 FI By
                  have FI := FI2
                  have By := By2
                  clear FI2 By2
                  clear y0 y1 y2 y3 y4 HVU
                  generalize hw10 : w' = w10 at *
                  clear hw10
                  go_upto_region 27 with (fail)
                  by_cases hv : v < q.low
                  · skip
                    have HOUT : Hid (true = (decide (v < q.low) || decide (q.high < v))) := Lib.hid (by simp [hv])
                    have ev : v < q.low := hv
                    clear hv
                    have PQ := (PG.out.fr0 FI.out).q
                    have PR := (RVa.out.fr0 FI.out).blk
                    have q0 : ∀ p : Later w10, p.w.cell? ⟨gq, 0, none⟩ = some (.int .i64 q.kind) := fun p => p.cell PQ.lt PQ.c0
                    have q1 : ∀ p : Later w10, p.w.cell? ⟨gq, 1, none⟩ = some (.int .i64 q.table) := fun p => p.cell PQ.lt PQ.c1
                    have q2 : ∀ p : Later w10, p.w.cell? ⟨gq, 2, none⟩ = some (.int .i64 q.column) := fun p => p.cell PQ.lt PQ.c2
                    have q3 : ∀ p : Later w10, p.w.cell? ⟨gq, 3, none⟩ = some (.int .i64 q.low) := fun p => p.cell PQ.lt PQ.c3
                    have q4 : ∀ p : Later w10, p.w.cell? ⟨gq, 4, none⟩ = some (.int .i64 q.high) := fun p => p.cell PQ.lt PQ.c4
                    have q5 : ∀ p : Later w10, p.w.cell? ⟨gq, 5, none⟩ = some (.int .i64 q.by_) := fun p => p.cell PQ.lt PQ.c5
                    have q6 : ∀ p : Later w10, p.w.cell? ⟨gq, 6, none⟩ = some (.int .i64 q.other) := fun p => p.cell PQ.lt PQ.c6
                    have r1 : ∀ p : Later w10, p.w.cell? ⟨ga, 1, none⟩ = some (.int .i64 Ra.value) := fun p => p.cell (Blk.lt PR) PR.c1
                    have y0 : ∀ p : Later w10, p.w.cell? ⟨gy, 0, none⟩ = some (.int .i64 (Pm.rowA c).t) := fun p => p.cell By.out.lt (By.out.cell 0)
                    have y1 : ∀ p : Later w10, p.w.cell? ⟨gy, 1, none⟩ = some (.int .i64 (Pm.rowA c).k) := fun p => p.cell By.out.lt (By.out.cell 1)
                    have y2 : ∀ p : Later w10, p.w.cell? ⟨gy, 2, none⟩ = some (.int .i64 (Pm.rowA c).x) := fun p => p.cell By.out.lt (By.out.cell 2)
                    have y3 : ∀ p : Later w10, p.w.cell? ⟨gy, 3, none⟩ = some (.int .i64 (Pm.rowA c).y) := fun p => p.cell By.out.lt (By.out.cell 3)
                    have y4 : ∀ p : Later w10, p.w.cell? ⟨gy, 4, none⟩ = some (.int .i64 (Pm.rowA c).z) := fun p => p.cell By.out.lt (By.out.cell 4)
                    clear PQ PR
                    refine wp_region_later (by kernel_rfl) (by kernel_rfl) ?_
                    repeat (go_big_quiet_step (exact Later.calls (HVC.out _)))
                    refine wpQuiet_nil ?_
                    rintro w' ⟨⟨wz, fq⟩, rfl⟩
                    have FI2 := Lib.hid (FI.out.trans fq)
                    clear fq r1  q0 q1 q2 q3 q4 q5 q6 FI
                    have FI := FI2
                    clear FI2 
                    clear y0 y1 y2 y3 y4 By
                    cases zh
                    · skip
                      go_wp2_with fail
                      go_roundw
                      case rel => exact ⟨j + 1, by go_num, by omega, FI⟩
                      case measure => simp [intOf]; omega
                    · skip
                      go_wp2_with fail
                      go_roundw
                      case rel => exact ⟨j + 1, by go_num, by omega, FI⟩
                      case measure => simp [intOf]; omega
                  · by_cases hv2 : q.high < v
                    · skip
                      have HOUT : Hid (true = (decide (v < q.low) || decide (q.high < v))) := Lib.hid (by simp [hv, hv2])
                      have ev : decide (v < q.low) = false := decide_eq_false hv
                      have ev2 : q.high < v := hv2
                      clear hv hv2
                      have PQ := (PG.out.fr0 FI.out).q
                      have PR := (RVa.out.fr0 FI.out).blk
                      have q0 : ∀ p : Later w10, p.w.cell? ⟨gq, 0, none⟩ = some (.int .i64 q.kind) := fun p => p.cell PQ.lt PQ.c0
                      have q1 : ∀ p : Later w10, p.w.cell? ⟨gq, 1, none⟩ = some (.int .i64 q.table) := fun p => p.cell PQ.lt PQ.c1
                      have q2 : ∀ p : Later w10, p.w.cell? ⟨gq, 2, none⟩ = some (.int .i64 q.column) := fun p => p.cell PQ.lt PQ.c2
                      have q3 : ∀ p : Later w10, p.w.cell? ⟨gq, 3, none⟩ = some (.int .i64 q.low) := fun p => p.cell PQ.lt PQ.c3
                      have q4 : ∀ p : Later w10, p.w.cell? ⟨gq, 4, none⟩ = some (.int .i64 q.high) := fun p => p.cell PQ.lt PQ.c4
                      have q5 : ∀ p : Later w10, p.w.cell? ⟨gq, 5, none⟩ = some (.int .i64 q.by_) := fun p => p.cell PQ.lt PQ.c5
                      have q6 : ∀ p : Later w10, p.w.cell? ⟨gq, 6, none⟩ = some (.int .i64 q.other) := fun p => p.cell PQ.lt PQ.c6
                      have r1 : ∀ p : Later w10, p.w.cell? ⟨ga, 1, none⟩ = some (.int .i64 Ra.value) := fun p => p.cell (Blk.lt PR) PR.c1
                      have y0 : ∀ p : Later w10, p.w.cell? ⟨gy, 0, none⟩ = some (.int .i64 (Pm.rowA c).t) := fun p => p.cell By.out.lt (By.out.cell 0)
                      have y1 : ∀ p : Later w10, p.w.cell? ⟨gy, 1, none⟩ = some (.int .i64 (Pm.rowA c).k) := fun p => p.cell By.out.lt (By.out.cell 1)
                      have y2 : ∀ p : Later w10, p.w.cell? ⟨gy, 2, none⟩ = some (.int .i64 (Pm.rowA c).x) := fun p => p.cell By.out.lt (By.out.cell 2)
                      have y3 : ∀ p : Later w10, p.w.cell? ⟨gy, 3, none⟩ = some (.int .i64 (Pm.rowA c).y) := fun p => p.cell By.out.lt (By.out.cell 3)
                      have y4 : ∀ p : Later w10, p.w.cell? ⟨gy, 4, none⟩ = some (.int .i64 (Pm.rowA c).z) := fun p => p.cell By.out.lt (By.out.cell 4)
                      clear PQ PR
                      refine wp_region_later (by kernel_rfl) (by kernel_rfl) ?_
                      repeat (go_big_quiet_step (exact Later.calls (HVC.out _)))
                      refine wpQuiet_nil ?_
                      rintro w' ⟨⟨wz, fq⟩, rfl⟩
                      have FI2 := Lib.hid (FI.out.trans fq)
                      clear fq r1  q0 q1 q2 q3 q4 q5 q6 FI
                      have FI := FI2
                      clear FI2 
                      clear y0 y1 y2 y3 y4 By
                      cases zh
                      · skip
                        go_wp2_with fail
                        go_roundw
                        case rel => exact ⟨j + 1, by go_num, by omega, FI⟩
                        case measure => simp [intOf]; omega
                      · skip
                        go_wp2_with fail
                        go_roundw
                        case rel => exact ⟨j + 1, by go_num, by omega, FI⟩
                        case measure => simp [intOf]; omega
                    · skip
                      have HOUT : Hid (false = (decide (v < q.low) || decide (q.high < v))) := Lib.hid (by simp [hv, hv2])
                      have ev : decide (v < q.low) = false := decide_eq_false hv
                      have ev2 : decide (q.high < v) = false := decide_eq_false hv2
                      clear hv hv2
                      have PQ := (PG.out.fr0 FI.out).q
                      have PR := (RVa.out.fr0 FI.out).blk
                      have q0 : ∀ p : Later w10, p.w.cell? ⟨gq, 0, none⟩ = some (.int .i64 q.kind) := fun p => p.cell PQ.lt PQ.c0
                      have q1 : ∀ p : Later w10, p.w.cell? ⟨gq, 1, none⟩ = some (.int .i64 q.table) := fun p => p.cell PQ.lt PQ.c1
                      have q2 : ∀ p : Later w10, p.w.cell? ⟨gq, 2, none⟩ = some (.int .i64 q.column) := fun p => p.cell PQ.lt PQ.c2
                      have q3 : ∀ p : Later w10, p.w.cell? ⟨gq, 3, none⟩ = some (.int .i64 q.low) := fun p => p.cell PQ.lt PQ.c3
                      have q4 : ∀ p : Later w10, p.w.cell? ⟨gq, 4, none⟩ = some (.int .i64 q.high) := fun p => p.cell PQ.lt PQ.c4
                      have q5 : ∀ p : Later w10, p.w.cell? ⟨gq, 5, none⟩ = some (.int .i64 q.by_) := fun p => p.cell PQ.lt PQ.c5
                      have q6 : ∀ p : Later w10, p.w.cell? ⟨gq, 6, none⟩ = some (.int .i64 q.other) := fun p => p.cell PQ.lt PQ.c6
                      have r1 : ∀ p : Later w10, p.w.cell? ⟨ga, 1, none⟩ = some (.int .i64 Ra.value) := fun p => p.cell (Blk.lt PR) PR.c1
                      have y0 : ∀ p : Later w10, p.w.cell? ⟨gy, 0, none⟩ = some (.int .i64 (Pm.rowA c).t) := fun p => p.cell By.out.lt (By.out.cell 0)
                      have y1 : ∀ p : Later w10, p.w.cell? ⟨gy, 1, none⟩ = some (.int .i64 (Pm.rowA c).k) := fun p => p.cell By.out.lt (By.out.cell 1)
                      have y2 : ∀ p : Later w10, p.w.cell? ⟨gy, 2, none⟩ = some (.int .i64 (Pm.rowA c).x) := fun p => p.cell By.out.lt (By.out.cell 2)
                      have y3 : ∀ p : Later w10, p.w.cell? ⟨gy, 3, none⟩ = some (.int .i64 (Pm.rowA c).y) := fun p => p.cell By.out.lt (By.out.cell 3)
                      have y4 : ∀ p : Later w10, p.w.cell? ⟨gy, 4, none⟩ = some (.int .i64 (Pm.rowA c).z) := fun p => p.cell By.out.lt (By.out.cell 4)
                      clear PQ PR
                      refine wp_region_later (by kernel_rfl) (by kernel_rfl) ?_
                      repeat (go_big_quiet_step (exact Later.calls (HVC.out _)))
                      refine wpQuiet_nil ?_
                      rintro w' ⟨⟨wz, fq⟩, rfl⟩
                      have FI2 := Lib.hid (FI.out.trans fq)
                      clear fq r1  q0 q1 q2 q3 q4 q5 q6 FI
                      have FI := FI2
                      clear FI2 
                      clear y0 y1 y2 y3 y4 By
                      cases zh
                      · skip
                        go_wp2_with fail
                        go_roundw
                        case rel => exact ⟨j + 1, by go_num, by omega, FI⟩
                        case measure => simp [intOf]; omega
                      · skip
                        go_wp2_with fail
                        go_roundw
                        case rel => exact ⟨j + 1, by go_num, by omega, FI⟩
                        case measure => simp [intOf]; omega
                · have HWS : Hid (Pm.better q.kind Ra.value u = false) := Lib.hid (by rw [HKK.out]; simp [e])
                  have e2 : decide (u < Ra.value) = false := decide_eq_false e
                  clear e
                  have PQ := (PG.out.fr0 FI.out).q
                  have PR := (RVa.out.fr0 FI.out).blk
                  have q0 : ∀ p : Later wc, p.w.cell? ⟨gq, 0, none⟩ = some (.int .i64 q.kind) := fun p => p.cell PQ.lt PQ.c0
                  have q1 : ∀ p : Later wc, p.w.cell? ⟨gq, 1, none⟩ = some (.int .i64 q.table) := fun p => p.cell PQ.lt PQ.c1
                  have q2 : ∀ p : Later wc, p.w.cell? ⟨gq, 2, none⟩ = some (.int .i64 q.column) := fun p => p.cell PQ.lt PQ.c2
                  have q3 : ∀ p : Later wc, p.w.cell? ⟨gq, 3, none⟩ = some (.int .i64 q.low) := fun p => p.cell PQ.lt PQ.c3
                  have q4 : ∀ p : Later wc, p.w.cell? ⟨gq, 4, none⟩ = some (.int .i64 q.high) := fun p => p.cell PQ.lt PQ.c4
                  have q5 : ∀ p : Later wc, p.w.cell? ⟨gq, 5, none⟩ = some (.int .i64 q.by_) := fun p => p.cell PQ.lt PQ.c5
                  have q6 : ∀ p : Later wc, p.w.cell? ⟨gq, 6, none⟩ = some (.int .i64 q.other) := fun p => p.cell PQ.lt PQ.c6
                  have r1 : ∀ p : Later wc, p.w.cell? ⟨ga, 1, none⟩ = some (.int .i64 Ra.value) := fun p => p.cell (Blk.lt PR) PR.c1
                  have y0 : ∀ p : Later wc, p.w.cell? ⟨gy, 0, none⟩ = some (.int .i64 (Pm.rowA c).t) := fun p => p.cell By.out.lt (By.out.cell 0)
                  have y1 : ∀ p : Later wc, p.w.cell? ⟨gy, 1, none⟩ = some (.int .i64 (Pm.rowA c).k) := fun p => p.cell By.out.lt (By.out.cell 1)
                  have y2 : ∀ p : Later wc, p.w.cell? ⟨gy, 2, none⟩ = some (.int .i64 (Pm.rowA c).x) := fun p => p.cell By.out.lt (By.out.cell 2)
                  have y3 : ∀ p : Later wc, p.w.cell? ⟨gy, 3, none⟩ = some (.int .i64 (Pm.rowA c).y) := fun p => p.cell By.out.lt (By.out.cell 3)
                  have y4 : ∀ p : Later wc, p.w.cell? ⟨gy, 4, none⟩ = some (.int .i64 (Pm.rowA c).z) := fun p => p.cell By.out.lt (By.out.cell 4)
                  clear PQ PR
                  refine wp_region_later (by kernel_rfl) (by kernel_rfl) ?_
                  repeat (go_big_quiet_step (exact Later.calls (HVU.out _)))
                  refine wpQuiet_nil ?_
                  rintro w' ⟨⟨wz, fq⟩, rfl⟩
                  have FI2 := Lib.hid (FI.out.trans fq)
                  have By2 := Lib.hid (By.out.fr fq (by simp))
                  clear fq r1  q0 q1 q2 q3 q4 q5 q6 FI By
                  have FI := FI2
                  have By := By2
                  clear FI2 By2
                  clear y0 y1 y2 y3 y4 HVU
                  generalize hw10 : w' = w10 at *
                  clear hw10
                  go_upto_region 27 with (fail)
                  by_cases hv : v < q.low
                  · skip
                    have HOUT : Hid (true = (decide (v < q.low) || decide (q.high < v))) := Lib.hid (by simp [hv])
                    have ev : v < q.low := hv
                    clear hv
                    have PQ := (PG.out.fr0 FI.out).q
                    have PR := (RVa.out.fr0 FI.out).blk
                    have q0 : ∀ p : Later w10, p.w.cell? ⟨gq, 0, none⟩ = some (.int .i64 q.kind) := fun p => p.cell PQ.lt PQ.c0
                    have q1 : ∀ p : Later w10, p.w.cell? ⟨gq, 1, none⟩ = some (.int .i64 q.table) := fun p => p.cell PQ.lt PQ.c1
                    have q2 : ∀ p : Later w10, p.w.cell? ⟨gq, 2, none⟩ = some (.int .i64 q.column) := fun p => p.cell PQ.lt PQ.c2
                    have q3 : ∀ p : Later w10, p.w.cell? ⟨gq, 3, none⟩ = some (.int .i64 q.low) := fun p => p.cell PQ.lt PQ.c3
                    have q4 : ∀ p : Later w10, p.w.cell? ⟨gq, 4, none⟩ = some (.int .i64 q.high) := fun p => p.cell PQ.lt PQ.c4
                    have q5 : ∀ p : Later w10, p.w.cell? ⟨gq, 5, none⟩ = some (.int .i64 q.by_) := fun p => p.cell PQ.lt PQ.c5
                    have q6 : ∀ p : Later w10, p.w.cell? ⟨gq, 6, none⟩ = some (.int .i64 q.other) := fun p => p.cell PQ.lt PQ.c6
                    have r1 : ∀ p : Later w10, p.w.cell? ⟨ga, 1, none⟩ = some (.int .i64 Ra.value) := fun p => p.cell (Blk.lt PR) PR.c1
                    have y0 : ∀ p : Later w10, p.w.cell? ⟨gy, 0, none⟩ = some (.int .i64 (Pm.rowA c).t) := fun p => p.cell By.out.lt (By.out.cell 0)
                    have y1 : ∀ p : Later w10, p.w.cell? ⟨gy, 1, none⟩ = some (.int .i64 (Pm.rowA c).k) := fun p => p.cell By.out.lt (By.out.cell 1)
                    have y2 : ∀ p : Later w10, p.w.cell? ⟨gy, 2, none⟩ = some (.int .i64 (Pm.rowA c).x) := fun p => p.cell By.out.lt (By.out.cell 2)
                    have y3 : ∀ p : Later w10, p.w.cell? ⟨gy, 3, none⟩ = some (.int .i64 (Pm.rowA c).y) := fun p => p.cell By.out.lt (By.out.cell 3)
                    have y4 : ∀ p : Later w10, p.w.cell? ⟨gy, 4, none⟩ = some (.int .i64 (Pm.rowA c).z) := fun p => p.cell By.out.lt (By.out.cell 4)
                    clear PQ PR
                    refine wp_region_later (by kernel_rfl) (by kernel_rfl) ?_
                    repeat (go_big_quiet_step (exact Later.calls (HVC.out _)))
                    refine wpQuiet_nil ?_
                    rintro w' ⟨⟨wz, fq⟩, rfl⟩
                    have FI2 := Lib.hid (FI.out.trans fq)
                    clear fq r1  q0 q1 q2 q3 q4 q5 q6 FI
                    have FI := FI2
                    clear FI2 
                    clear y0 y1 y2 y3 y4 By
                    cases zh
                    · skip
                      go_wp2_with fail
                      go_roundw
                      case rel => exact ⟨j + 1, by go_num, by omega, FI⟩
                      case measure => simp [intOf]; omega
                    · skip
                      go_wp2_with fail
                      go_roundw
                      case rel => exact ⟨j + 1, by go_num, by omega, FI⟩
                      case measure => simp [intOf]; omega
                  · by_cases hv2 : q.high < v
                    · skip
                      have HOUT : Hid (true = (decide (v < q.low) || decide (q.high < v))) := Lib.hid (by simp [hv, hv2])
                      have ev : decide (v < q.low) = false := decide_eq_false hv
                      have ev2 : q.high < v := hv2
                      clear hv hv2
                      have PQ := (PG.out.fr0 FI.out).q
                      have PR := (RVa.out.fr0 FI.out).blk
                      have q0 : ∀ p : Later w10, p.w.cell? ⟨gq, 0, none⟩ = some (.int .i64 q.kind) := fun p => p.cell PQ.lt PQ.c0
                      have q1 : ∀ p : Later w10, p.w.cell? ⟨gq, 1, none⟩ = some (.int .i64 q.table) := fun p => p.cell PQ.lt PQ.c1
                      have q2 : ∀ p : Later w10, p.w.cell? ⟨gq, 2, none⟩ = some (.int .i64 q.column) := fun p => p.cell PQ.lt PQ.c2
                      have q3 : ∀ p : Later w10, p.w.cell? ⟨gq, 3, none⟩ = some (.int .i64 q.low) := fun p => p.cell PQ.lt PQ.c3
                      have q4 : ∀ p : Later w10, p.w.cell? ⟨gq, 4, none⟩ = some (.int .i64 q.high) := fun p => p.cell PQ.lt PQ.c4
                      have q5 : ∀ p : Later w10, p.w.cell? ⟨gq, 5, none⟩ = some (.int .i64 q.by_) := fun p => p.cell PQ.lt PQ.c5
                      have q6 : ∀ p : Later w10, p.w.cell? ⟨gq, 6, none⟩ = some (.int .i64 q.other) := fun p => p.cell PQ.lt PQ.c6
                      have r1 : ∀ p : Later w10, p.w.cell? ⟨ga, 1, none⟩ = some (.int .i64 Ra.value) := fun p => p.cell (Blk.lt PR) PR.c1
                      have y0 : ∀ p : Later w10, p.w.cell? ⟨gy, 0, none⟩ = some (.int .i64 (Pm.rowA c).t) := fun p => p.cell By.out.lt (By.out.cell 0)
                      have y1 : ∀ p : Later w10, p.w.cell? ⟨gy, 1, none⟩ = some (.int .i64 (Pm.rowA c).k) := fun p => p.cell By.out.lt (By.out.cell 1)
                      have y2 : ∀ p : Later w10, p.w.cell? ⟨gy, 2, none⟩ = some (.int .i64 (Pm.rowA c).x) := fun p => p.cell By.out.lt (By.out.cell 2)
                      have y3 : ∀ p : Later w10, p.w.cell? ⟨gy, 3, none⟩ = some (.int .i64 (Pm.rowA c).y) := fun p => p.cell By.out.lt (By.out.cell 3)
                      have y4 : ∀ p : Later w10, p.w.cell? ⟨gy, 4, none⟩ = some (.int .i64 (Pm.rowA c).z) := fun p => p.cell By.out.lt (By.out.cell 4)
                      clear PQ PR
                      refine wp_region_later (by kernel_rfl) (by kernel_rfl) ?_
                      repeat (go_big_quiet_step (exact Later.calls (HVC.out _)))
                      refine wpQuiet_nil ?_
                      rintro w' ⟨⟨wz, fq⟩, rfl⟩
                      have FI2 := Lib.hid (FI.out.trans fq)
                      clear fq r1  q0 q1 q2 q3 q4 q5 q6 FI
                      have FI := FI2
                      clear FI2 
                      clear y0 y1 y2 y3 y4 By
                      cases zh
                      · skip
                        go_wp2_with fail
                        go_roundw
                        case rel => exact ⟨j + 1, by go_num, by omega, FI⟩
                        case measure => simp [intOf]; omega
                      · skip
                        go_wp2_with fail
                        go_roundw
                        case rel => exact ⟨j + 1, by go_num, by omega, FI⟩
                        case measure => simp [intOf]; omega
                    · skip
                      have HOUT : Hid (false = (decide (v < q.low) || decide (q.high < v))) := Lib.hid (by simp [hv, hv2])
                      have ev : decide (v < q.low) = false := decide_eq_false hv
                      have ev2 : decide (q.high < v) = false := decide_eq_false hv2
                      clear hv hv2
                      have PQ := (PG.out.fr0 FI.out).q
                      have PR := (RVa.out.fr0 FI.out).blk
                      have q0 : ∀ p : Later w10, p.w.cell? ⟨gq, 0, none⟩ = some (.int .i64 q.kind) := fun p => p.cell PQ.lt PQ.c0
                      have q1 : ∀ p : Later w10, p.w.cell? ⟨gq, 1, none⟩ = some (.int .i64 q.table) := fun p => p.cell PQ.lt PQ.c1
                      have q2 : ∀ p : Later w10, p.w.cell? ⟨gq, 2, none⟩ = some (.int .i64 q.column) := fun p => p.cell PQ.lt PQ.c2
                      have q3 : ∀ p : Later w10, p.w.cell? ⟨gq, 3, none⟩ = some (.int .i64 q.low) := fun p => p.cell PQ.lt PQ.c3
                      have q4 : ∀ p : Later w10, p.w.cell? ⟨gq, 4, none⟩ = some (.int .i64 q.high) := fun p => p.cell PQ.lt PQ.c4
                      have q5 : ∀ p : Later w10, p.w.cell? ⟨gq, 5, none⟩ = some (.int .i64 q.by_) := fun p => p.cell PQ.lt PQ.c5
                      have q6 : ∀ p : Later w10, p.w.cell? ⟨gq, 6, none⟩ = some (.int .i64 q.other) := fun p => p.cell PQ.lt PQ.c6
                      have r1 : ∀ p : Later w10, p.w.cell? ⟨ga, 1, none⟩ = some (.int .i64 Ra.value) := fun p => p.cell (Blk.lt PR) PR.c1
                      have y0 : ∀ p : Later w10, p.w.cell? ⟨gy, 0, none⟩ = some (.int .i64 (Pm.rowA c).t) := fun p => p.cell By.out.lt (By.out.cell 0)
                      have y1 : ∀ p : Later w10, p.w.cell? ⟨gy, 1, none⟩ = some (.int .i64 (Pm.rowA c).k) := fun p => p.cell By.out.lt (By.out.cell 1)
                      have y2 : ∀ p : Later w10, p.w.cell? ⟨gy, 2, none⟩ = some (.int .i64 (Pm.rowA c).x) := fun p => p.cell By.out.lt (By.out.cell 2)
                      have y3 : ∀ p : Later w10, p.w.cell? ⟨gy, 3, none⟩ = some (.int .i64 (Pm.rowA c).y) := fun p => p.cell By.out.lt (By.out.cell 3)
                      have y4 : ∀ p : Later w10, p.w.cell? ⟨gy, 4, none⟩ = some (.int .i64 (Pm.rowA c).z) := fun p => p.cell By.out.lt (By.out.cell 4)
                      clear PQ PR
                      refine wp_region_later (by kernel_rfl) (by kernel_rfl) ?_
                      repeat (go_big_quiet_step (exact Later.calls (HVC.out _)))
                      refine wpQuiet_nil ?_
                      rintro w' ⟨⟨wz, fq⟩, rfl⟩
                      have FI2 := Lib.hid (FI.out.trans fq)
                      clear fq r1  q0 q1 q2 q3 q4 q5 q6 FI
                      have FI := FI2
                      clear FI2 
                      clear y0 y1 y2 y3 y4 By
                      cases zh
                      · skip
                        go_wp2_with fail
                        go_roundw
                        case rel => exact ⟨j + 1, by go_num, by omega, FI⟩
                        case measure => simp [intOf]; omega
                      · skip
                        exfalso
                        rcases HBAD.out rfl with h | h
                        · rw [HWS.out] at h
                          cases h
                        · have h1 := HOUT.out
                          simp at h1
                          omega
              · skip
                have e6 : (q.kind == 6) = false := by simpa using h6
                have HKK : Hid (Pm.better q.kind Ra.value u = b1) := Lib.hid (by
                  have h5 : q.kind = 5 := by have := HK56.out; omega
                  rw [h5, HB1.out]
                  unfold Pm.better
                  rw [if_pos rfl])
                have q0 : wc.cell? ⟨gq, 0, none⟩ = some (.int .i64 q.kind) := (PG.out.fr0 FI.out).q.c0
                clear h6 HB1 HK56 HVU
                go_upto_region 27 with (fail)
                clear q0
                cases b1
                · skip
                  by_cases hv : v < q.low
                  · skip
                    have HOUT : Hid (true = (decide (v < q.low) || decide (q.high < v))) := Lib.hid (by simp [hv])
                    have ev : v < q.low := hv
                    clear hv
                    have PQ := (PG.out.fr0 FI.out).q
                    have PR := (RVa.out.fr0 FI.out).blk
                    have q0 : ∀ p : Later wc, p.w.cell? ⟨gq, 0, none⟩ = some (.int .i64 q.kind) := fun p => p.cell PQ.lt PQ.c0
                    have q1 : ∀ p : Later wc, p.w.cell? ⟨gq, 1, none⟩ = some (.int .i64 q.table) := fun p => p.cell PQ.lt PQ.c1
                    have q2 : ∀ p : Later wc, p.w.cell? ⟨gq, 2, none⟩ = some (.int .i64 q.column) := fun p => p.cell PQ.lt PQ.c2
                    have q3 : ∀ p : Later wc, p.w.cell? ⟨gq, 3, none⟩ = some (.int .i64 q.low) := fun p => p.cell PQ.lt PQ.c3
                    have q4 : ∀ p : Later wc, p.w.cell? ⟨gq, 4, none⟩ = some (.int .i64 q.high) := fun p => p.cell PQ.lt PQ.c4
                    have q5 : ∀ p : Later wc, p.w.cell? ⟨gq, 5, none⟩ = some (.int .i64 q.by_) := fun p => p.cell PQ.lt PQ.c5
                    have q6 : ∀ p : Later wc, p.w.cell? ⟨gq, 6, none⟩ = some (.int .i64 q.other) := fun p => p.cell PQ.lt PQ.c6
                    have r1 : ∀ p : Later wc, p.w.cell? ⟨ga, 1, none⟩ = some (.int .i64 Ra.value) := fun p => p.cell (Blk.lt PR) PR.c1
                    have y0 : ∀ p : Later wc, p.w.cell? ⟨gy, 0, none⟩ = some (.int .i64 (Pm.rowA c).t) := fun p => p.cell By.out.lt (By.out.cell 0)
                    have y1 : ∀ p : Later wc, p.w.cell? ⟨gy, 1, none⟩ = some (.int .i64 (Pm.rowA c).k) := fun p => p.cell By.out.lt (By.out.cell 1)
                    have y2 : ∀ p : Later wc, p.w.cell? ⟨gy, 2, none⟩ = some (.int .i64 (Pm.rowA c).x) := fun p => p.cell By.out.lt (By.out.cell 2)
                    have y3 : ∀ p : Later wc, p.w.cell? ⟨gy, 3, none⟩ = some (.int .i64 (Pm.rowA c).y) := fun p => p.cell By.out.lt (By.out.cell 3)
                    have y4 : ∀ p : Later wc, p.w.cell? ⟨gy, 4, none⟩ = some (.int .i64 (Pm.rowA c).z) := fun p => p.cell By.out.lt (By.out.cell 4)
                    clear PQ PR
                    refine wp_region_later (by kernel_rfl) (by kernel_rfl) ?_
                    repeat (go_big_quiet_step (exact Later.calls (HVC.out _)))
                    refine wpQuiet_nil ?_
                    rintro w' ⟨⟨wz, fq⟩, rfl⟩
                    have FI2 := Lib.hid (FI.out.trans fq)
                    clear fq r1  q0 q1 q2 q3 q4 q5 q6 FI
                    have FI := FI2
                    clear FI2 
                    clear y0 y1 y2 y3 y4 By
                    cases zh
                    · skip
                      go_wp2_with fail
                      go_roundw
                      case rel => exact ⟨j + 1, by go_num, by omega, FI⟩
                      case measure => simp [intOf]; omega
                    · skip
                      go_wp2_with fail
                      go_roundw
                      case rel => exact ⟨j + 1, by go_num, by omega, FI⟩
                      case measure => simp [intOf]; omega
                  · by_cases hv2 : q.high < v
                    · skip
                      have HOUT : Hid (true = (decide (v < q.low) || decide (q.high < v))) := Lib.hid (by simp [hv, hv2])
                      have ev : decide (v < q.low) = false := decide_eq_false hv
                      have ev2 : q.high < v := hv2
                      clear hv hv2
                      have PQ := (PG.out.fr0 FI.out).q
                      have PR := (RVa.out.fr0 FI.out).blk
                      have q0 : ∀ p : Later wc, p.w.cell? ⟨gq, 0, none⟩ = some (.int .i64 q.kind) := fun p => p.cell PQ.lt PQ.c0
                      have q1 : ∀ p : Later wc, p.w.cell? ⟨gq, 1, none⟩ = some (.int .i64 q.table) := fun p => p.cell PQ.lt PQ.c1
                      have q2 : ∀ p : Later wc, p.w.cell? ⟨gq, 2, none⟩ = some (.int .i64 q.column) := fun p => p.cell PQ.lt PQ.c2
                      have q3 : ∀ p : Later wc, p.w.cell? ⟨gq, 3, none⟩ = some (.int .i64 q.low) := fun p => p.cell PQ.lt PQ.c3
                      have q4 : ∀ p : Later wc, p.w.cell? ⟨gq, 4, none⟩ = some (.int .i64 q.high) := fun p => p.cell PQ.lt PQ.c4
                      have q5 : ∀ p : Later wc, p.w.cell? ⟨gq, 5, none⟩ = some (.int .i64 q.by_) := fun p => p.cell PQ.lt PQ.c5
                      have q6 : ∀ p : Later wc, p.w.cell? ⟨gq, 6, none⟩ = some (.int .i64 q.other) := fun p => p.cell PQ.lt PQ.c6
                      have r1 : ∀ p : Later wc, p.w.cell? ⟨ga, 1, none⟩ = some (.int .i64 Ra.value) := fun p => p.cell (Blk.lt PR) PR.c1
                      have y0 : ∀ p : Later wc, p.w.cell? ⟨gy, 0, none⟩ = some (.int .i64 (Pm.rowA c).t) := fun p => p.cell By.out.lt (By.out.cell 0)
                      have y1 : ∀ p : Later wc, p.w.cell? ⟨gy, 1, none⟩ = some (.int .i64 (Pm.rowA c).k) := fun p => p.cell By.out.lt (By.out.cell 1)
                      have y2 : ∀ p : Later wc, p.w.cell? ⟨gy, 2, none⟩ = some (.int .i64 (Pm.rowA c).x) := fun p => p.cell By.out.lt (By.out.cell 2)
                      have y3 : ∀ p : Later wc, p.w.cell? ⟨gy, 3, none⟩ = some (.int .i64 (Pm.rowA c).y) := fun p => p.cell By.out.lt (By.out.cell 3)
                      have y4 : ∀ p : Later wc, p.w.cell? ⟨gy, 4, none⟩ = some (.int .i64 (Pm.rowA c).z) := fun p => p.cell By.out.lt (By.out.cell 4)
                      clear PQ PR
                      refine wp_region_later (by kernel_rfl) (by kernel_rfl) ?_
                      repeat (go_big_quiet_step (exact Later.calls (HVC.out _)))
                      refine wpQuiet_nil ?_
                      rintro w' ⟨⟨wz, fq⟩, rfl⟩
                      have FI2 := Lib.hid (FI.out.trans fq)
                      clear fq r1  q0 q1 q2 q3 q4 q5 q6 FI
                      have FI := FI2
                      clear FI2 
                      clear y0 y1 y2 y3 y4 By
                      cases zh
                      · skip
                        go_wp2_with fail
                        go_roundw
                        case rel => exact ⟨j + 1, by go_num, by omega, FI⟩
                        case measure => simp [intOf]; omega
                      · skip
                        go_wp2_with fail
                        go_roundw
                        case rel => exact ⟨j + 1, by go_num, by omega, FI⟩
                        case measure => simp [intOf]; omega
                    · skip
                      have HOUT : Hid (false = (decide (v < q.low) || decide (q.high < v))) := Lib.hid (by simp [hv, hv2])
                      have ev : decide (v < q.low) = false := decide_eq_false hv
                      have ev2 : decide (q.high < v) = false := decide_eq_false hv2
                      clear hv hv2
                      have PQ := (PG.out.fr0 FI.out).q
                      have PR := (RVa.out.fr0 FI.out).blk
                      have q0 : ∀ p : Later wc, p.w.cell? ⟨gq, 0, none⟩ = some (.int .i64 q.kind) := fun p => p.cell PQ.lt PQ.c0
                      have q1 : ∀ p : Later wc, p.w.cell? ⟨gq, 1, none⟩ = some (.int .i64 q.table) := fun p => p.cell PQ.lt PQ.c1
                      have q2 : ∀ p : Later wc, p.w.cell? ⟨gq, 2, none⟩ = some (.int .i64 q.column) := fun p => p.cell PQ.lt PQ.c2
                      have q3 : ∀ p : Later wc, p.w.cell? ⟨gq, 3, none⟩ = some (.int .i64 q.low) := fun p => p.cell PQ.lt PQ.c3
                      have q4 : ∀ p : Later wc, p.w.cell? ⟨gq, 4, none⟩ = some (.int .i64 q.high) := fun p => p.cell PQ.lt PQ.c4
                      have q5 : ∀ p : Later wc, p.w.cell? ⟨gq, 5, none⟩ = some (.int .i64 q.by_) := fun p => p.cell PQ.lt PQ.c5
                      have q6 : ∀ p : Later wc, p.w.cell? ⟨gq, 6, none⟩ = some (.int .i64 q.other) := fun p => p.cell PQ.lt PQ.c6
                      have r1 : ∀ p : Later wc, p.w.cell? ⟨ga, 1, none⟩ = some (.int .i64 Ra.value) := fun p => p.cell (Blk.lt PR) PR.c1
                      have y0 : ∀ p : Later wc, p.w.cell? ⟨gy, 0, none⟩ = some (.int .i64 (Pm.rowA c).t) := fun p => p.cell By.out.lt (By.out.cell 0)
                      have y1 : ∀ p : Later wc, p.w.cell? ⟨gy, 1, none⟩ = some (.int .i64 (Pm.rowA c).k) := fun p => p.cell By.out.lt (By.out.cell 1)
                      have y2 : ∀ p : Later wc, p.w.cell? ⟨gy, 2, none⟩ = some (.int .i64 (Pm.rowA c).x) := fun p => p.cell By.out.lt (By.out.cell 2)
                      have y3 : ∀ p : Later wc, p.w.cell? ⟨gy, 3, none⟩ = some (.int .i64 (Pm.rowA c).y) := fun p => p.cell By.out.lt (By.out.cell 3)
                      have y4 : ∀ p : Later wc, p.w.cell? ⟨gy, 4, none⟩ = some (.int .i64 (Pm.rowA c).z) := fun p => p.cell By.out.lt (By.out.cell 4)
                      clear PQ PR
                      refine wp_region_later (by kernel_rfl) (by kernel_rfl) ?_
                      repeat (go_big_quiet_step (exact Later.calls (HVC.out _)))
                      refine wpQuiet_nil ?_
                      rintro w' ⟨⟨wz, fq⟩, rfl⟩
                      have FI2 := Lib.hid (FI.out.trans fq)
                      clear fq r1  q0 q1 q2 q3 q4 q5 q6 FI
                      have FI := FI2
                      clear FI2 
                      clear y0 y1 y2 y3 y4 By
                      cases zh
                      · skip
                        go_wp2_with fail
                        go_roundw
                        case rel => exact ⟨j + 1, by go_num, by omega, FI⟩
                        case measure => simp [intOf]; omega
                      · skip
                        exfalso
                        rcases HBAD.out rfl with h | h
                        · rw [HKK.out] at h
                          cases h
                        · have h1 := HOUT.out
                          simp at h1
                          omega
                · skip
                  by_cases hv : v < q.low
                  · skip
                    have HOUT : Hid (true = (decide (v < q.low) || decide (q.high < v))) := Lib.hid (by simp [hv])
                    have ev : v < q.low := hv
                    clear hv
                    have PQ := (PG.out.fr0 FI.out).q
                    have PR := (RVa.out.fr0 FI.out).blk
                    have q0 : ∀ p : Later wc, p.w.cell? ⟨gq, 0, none⟩ = some (.int .i64 q.kind) := fun p => p.cell PQ.lt PQ.c0
                    have q1 : ∀ p : Later wc, p.w.cell? ⟨gq, 1, none⟩ = some (.int .i64 q.table) := fun p => p.cell PQ.lt PQ.c1
                    have q2 : ∀ p : Later wc, p.w.cell? ⟨gq, 2, none⟩ = some (.int .i64 q.column) := fun p => p.cell PQ.lt PQ.c2
                    have q3 : ∀ p : Later wc, p.w.cell? ⟨gq, 3, none⟩ = some (.int .i64 q.low) := fun p => p.cell PQ.lt PQ.c3
                    have q4 : ∀ p : Later wc, p.w.cell? ⟨gq, 4, none⟩ = some (.int .i64 q.high) := fun p => p.cell PQ.lt PQ.c4
                    have q5 : ∀ p : Later wc, p.w.cell? ⟨gq, 5, none⟩ = some (.int .i64 q.by_) := fun p => p.cell PQ.lt PQ.c5
                    have q6 : ∀ p : Later wc, p.w.cell? ⟨gq, 6, none⟩ = some (.int .i64 q.other) := fun p => p.cell PQ.lt PQ.c6
                    have r1 : ∀ p : Later wc, p.w.cell? ⟨ga, 1, none⟩ = some (.int .i64 Ra.value) := fun p => p.cell (Blk.lt PR) PR.c1
                    have y0 : ∀ p : Later wc, p.w.cell? ⟨gy, 0, none⟩ = some (.int .i64 (Pm.rowA c).t) := fun p => p.cell By.out.lt (By.out.cell 0)
                    have y1 : ∀ p : Later wc, p.w.cell? ⟨gy, 1, none⟩ = some (.int .i64 (Pm.rowA c).k) := fun p => p.cell By.out.lt (By.out.cell 1)
                    have y2 : ∀ p : Later wc, p.w.cell? ⟨gy, 2, none⟩ = some (.int .i64 (Pm.rowA c).x) := fun p => p.cell By.out.lt (By.out.cell 2)
                    have y3 : ∀ p : Later wc, p.w.cell? ⟨gy, 3, none⟩ = some (.int .i64 (Pm.rowA c).y) := fun p => p.cell By.out.lt (By.out.cell 3)
                    have y4 : ∀ p : Later wc, p.w.cell? ⟨gy, 4, none⟩ = some (.int .i64 (Pm.rowA c).z) := fun p => p.cell By.out.lt (By.out.cell 4)
                    clear PQ PR
                    refine wp_region_later (by kernel_rfl) (by kernel_rfl) ?_
                    repeat (go_big_quiet_step (exact Later.calls (HVC.out _)))
                    refine wpQuiet_nil ?_
                    rintro w' ⟨⟨wz, fq⟩, rfl⟩
                    have FI2 := Lib.hid (FI.out.trans fq)
                    clear fq r1  q0 q1 q2 q3 q4 q5 q6 FI
                    have FI := FI2
                    clear FI2 
                    clear y0 y1 y2 y3 y4 By
                    cases zh
                    · skip
                      go_wp2_with fail
                      go_roundw
                      case rel => exact ⟨j + 1, by go_num, by omega, FI⟩
                      case measure => simp [intOf]; omega
                    · skip
                      go_wp2_with fail
                      go_roundw
                      case rel => exact ⟨j + 1, by go_num, by omega, FI⟩
                      case measure => simp [intOf]; omega
                  · by_cases hv2 : q.high < v
                    · skip
                      have HOUT : Hid (true = (decide (v < q.low) || decide (q.high < v))) := Lib.hid (by simp [hv, hv2])
                      have ev : decide (v < q.low) = false := decide_eq_false hv
                      have ev2 : q.high < v := hv2
                      clear hv hv2
                      have PQ := (PG.out.fr0 FI.out).q
                      have PR := (RVa.out.fr0 FI.out).blk
                      have q0 : ∀ p : Later wc, p.w.cell? ⟨gq, 0, none⟩ = some (.int .i64 q.kind) := fun p => p.cell PQ.lt PQ.c0
                      have q1 : ∀ p : Later wc, p.w.cell? ⟨gq, 1, none⟩ = some (.int .i64 q.table) := fun p => p.cell PQ.lt PQ.c1
                      have q2 : ∀ p : Later wc, p.w.cell? ⟨gq, 2, none⟩ = some (.int .i64 q.column) := fun p => p.cell PQ.lt PQ.c2
                      have q3 : ∀ p : Later wc, p.w.cell? ⟨gq, 3, none⟩ = some (.int .i64 q.low) := fun p => p.cell PQ.lt PQ.c3
                      have q4 : ∀ p : Later wc, p.w.cell? ⟨gq, 4, none⟩ = some (.int .i64 q.high) := fun p => p.cell PQ.lt PQ.c4
                      have q5 : ∀ p : Later wc, p.w.cell? ⟨gq, 5, none⟩ = some (.int .i64 q.by_) := fun p => p.cell PQ.lt PQ.c5
                      have q6 : ∀ p : Later wc, p.w.cell? ⟨gq, 6, none⟩ = some (.int .i64 q.other) := fun p => p.cell PQ.lt PQ.c6
                      have r1 : ∀ p : Later wc, p.w.cell? ⟨ga, 1, none⟩ = some (.int .i64 Ra.value) := fun p => p.cell (Blk.lt PR) PR.c1
                      have y0 : ∀ p : Later wc, p.w.cell? ⟨gy, 0, none⟩ = some (.int .i64 (Pm.rowA c).t) := fun p => p.cell By.out.lt (By.out.cell 0)
                      have y1 : ∀ p : Later wc, p.w.cell? ⟨gy, 1, none⟩ = some (.int .i64 (Pm.rowA c).k) := fun p => p.cell By.out.lt (By.out.cell 1)
                      have y2 : ∀ p : Later wc, p.w.cell? ⟨gy, 2, none⟩ = some (.int .i64 (Pm.rowA c).x) := fun p => p.cell By.out.lt (By.out.cell 2)
                      have y3 : ∀ p : Later wc, p.w.cell? ⟨gy, 3, none⟩ = some (.int .i64 (Pm.rowA c).y) := fun p => p.cell By.out.lt (By.out.cell 3)
                      have y4 : ∀ p : Later wc, p.w.cell? ⟨gy, 4, none⟩ = some (.int .i64 (Pm.rowA c).z) := fun p => p.cell By.out.lt (By.out.cell 4)
                      clear PQ PR
                      refine wp_region_later (by kernel_rfl) (by kernel_rfl) ?_
                      repeat (go_big_quiet_step (exact Later.calls (HVC.out _)))
                      refine wpQuiet_nil ?_
                      rintro w' ⟨⟨wz, fq⟩, rfl⟩
                      have FI2 := Lib.hid (FI.out.trans fq)
                      clear fq r1  q0 q1 q2 q3 q4 q5 q6 FI
                      have FI := FI2
                      clear FI2 
                      clear y0 y1 y2 y3 y4 By
                      cases zh
                      · skip
                        go_wp2_with fail
                        go_roundw
                        case rel => exact ⟨j + 1, by go_num, by omega, FI⟩
                        case measure => simp [intOf]; omega
                      · skip
                        go_wp2_with fail
                        go_roundw
                        case rel => exact ⟨j + 1, by go_num, by omega, FI⟩
                        case measure => simp [intOf]; omega
                    · skip
                      have HOUT : Hid (false = (decide (v < q.low) || decide (q.high < v))) := Lib.hid (by simp [hv, hv2])
                      have ev : decide (v < q.low) = false := decide_eq_false hv
                      have ev2 : decide (q.high < v) = false := decide_eq_false hv2
                      clear hv hv2
                      have PQ := (PG.out.fr0 FI.out).q
                      have PR := (RVa.out.fr0 FI.out).blk
                      have q0 : ∀ p : Later wc, p.w.cell? ⟨gq, 0, none⟩ = some (.int .i64 q.kind) := fun p => p.cell PQ.lt PQ.c0
                      have q1 : ∀ p : Later wc, p.w.cell? ⟨gq, 1, none⟩ = some (.int .i64 q.table) := fun p => p.cell PQ.lt PQ.c1
                      have q2 : ∀ p : Later wc, p.w.cell? ⟨gq, 2, none⟩ = some (.int .i64 q.column) := fun p => p.cell PQ.lt PQ.c2
                      have q3 : ∀ p : Later wc, p.w.cell? ⟨gq, 3, none⟩ = some (.int .i64 q.low) := fun p => p.cell PQ.lt PQ.c3
                      have q4 : ∀ p : Later wc, p.w.cell? ⟨gq, 4, none⟩ = some (.int .i64 q.high) := fun p => p.cell PQ.lt PQ.c4
                      have q5 : ∀ p : Later wc, p.w.cell? ⟨gq, 5, none⟩ = some (.int .i64 q.by_) := fun p => p.cell PQ.lt PQ.c5
                      have q6 : ∀ p : Later wc, p.w.cell? ⟨gq, 6, none⟩ = some (.int .i64 q.other) := fun p => p.cell PQ.lt PQ.c6
                      have r1 : ∀ p : Later wc, p.w.cell? ⟨ga, 1, none⟩ = some (.int .i64 Ra.value) := fun p => p.cell (Blk.lt PR) PR.c1
                      have y0 : ∀ p : Later wc, p.w.cell? ⟨gy, 0, none⟩ = some (.int .i64 (Pm.rowA c).t) := fun p => p.cell By.out.lt (By.out.cell 0)
                      have y1 : ∀ p : Later wc, p.w.cell? ⟨gy, 1, none⟩ = some (.int .i64 (Pm.rowA c).k) := fun p => p.cell By.out.lt (By.out.cell 1)
                      have y2 : ∀ p : Later wc, p.w.cell? ⟨gy, 2, none⟩ = some (.int .i64 (Pm.rowA c).x) := fun p => p.cell By.out.lt (By.out.cell 2)
                      have y3 : ∀ p : Later wc, p.w.cell? ⟨gy, 3, none⟩ = some (.int .i64 (Pm.rowA c).y) := fun p => p.cell By.out.lt (By.out.cell 3)
                      have y4 : ∀ p : Later wc, p.w.cell? ⟨gy, 4, none⟩ = some (.int .i64 (Pm.rowA c).z) := fun p => p.cell By.out.lt (By.out.cell 4)
                      clear PQ PR
                      refine wp_region_later (by kernel_rfl) (by kernel_rfl) ?_
                      repeat (go_big_quiet_step (exact Later.calls (HVC.out _)))
                      refine wpQuiet_nil ?_
                      rintro w' ⟨⟨wz, fq⟩, rfl⟩
                      have FI2 := Lib.hid (FI.out.trans fq)
                      clear fq r1  q0 q1 q2 q3 q4 q5 q6 FI
                      have FI := FI2
                      clear FI2 
                      clear y0 y1 y2 y3 y4 By
                      cases zh
                      · skip
                        go_wp2_with fail
                        go_roundw
                        case rel => exact ⟨j + 1, by go_num, by omega, FI⟩
                        case measure => simp [intOf]; omega
                      · skip
                        go_wp2_with fail
                        go_roundw
                        case rel => exact ⟨j + 1, by go_num, by omega, FI⟩
                        case measure => simp [intOf]; omega
          · clear HPN
            go_wp2_with fail
            go_roundw
            case rel => exact ⟨j + 1, by go_num, by omega, FI⟩
            case measure => simp [intOf]; omega
        · obtain rfl : j = nk := by omega
          replace PG := Lib.hid (PG.out.fr0 FI.out)
          rw [← HRUN.out] at PG
          clear hhc
          go_wp2_with fail
          go_roundw
          case rel => exact ⟨k + 1, by go_num, by omega, PG⟩
          case measure => simp [intOf]; omega
    · go_wp2_with fail
      go_ret
      exact ⟨rfl, PG.out.fr.below⟩
end Go.Proofs.YtjiikpmkedkbkaaGreat
