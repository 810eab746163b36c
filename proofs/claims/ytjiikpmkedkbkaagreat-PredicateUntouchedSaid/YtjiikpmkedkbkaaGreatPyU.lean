/-
  PredicateUntouched: the walk of the law.
-/
import Derived.Test.YtjiikpmkedkbkaaGreatMx
import Derived.Test.YtjiikpmkedkbkaaGreatMd
import Derived.Deep.DeepCutAuto
import Derived.Deep.RegionLaw
import Derived.Deep.RegionWith
import Derived.Deep.CutBlock
import Derived.StillTailTactics
namespace Go.Proofs.YtjiikpmkedkbkaaGreat
open Go.RowKit

namespace Pm
theorem untouched {s : Sm.Sta} {q : Qry} {r : Rec} (hv : Em.valid q = true) (ho : Sm.Ok s) (hf : Sm.fits s r = true) (h : r.cs.any (touches q) = false) : Em.of s q = Em.of (Sm.apply s r) q :=
  (apply_of hv ho hf (go_still r.cs (Em.of s q) false h)).1
theorem any_succ {X : Type} (p : X → Bool) {l : List X} {i : Nat} (h : i < l.length) : (l.take (i + 1)).any p = ((l.take i).any p || p l[i]) := by
  rw [List.take_succ_eq_append_getElem h, List.any_append]
  simp
end Pm

set_option maxRecDepth 100000 in
set_option maxHeartbeats 8000000 in
theorem untouched_walk (A : Option Addr) (n cap : Nat) (x0 x1 x2 x3 x4 : Int)  (w : World) (hn : n ≤ cap) (hcap : cap ≤ maxLen) (hx : n = 0 ∨ ∃ bx ox, A = some ⟨bx, ox, none⟩ ∧ SixAt w bx ox n) (o0 : okI x0) (o1 : okI x1) (o2 : okI x2) (o3 : okI x3) (o4 : okI x4)  :
    Calls Tryz.prog 3 #[.slice A n cap, .agg #[.int .i64 x0, .int .i64 x1, .int .i64 x2, .int .i64 x3, .int .i64 x4]] w fun e w' => e = .returned (.bool true) ∧ Below w.heap.size w w' := by
  have hb63 : cap < 9223372036854775808 := by simp only [maxLen] at hcap; omega
  have F0 : Hid (Fr [] w (w.alloc (.cells #[.int .i64 x0, .int .i64 x1, .int .i64 x2, .int .i64 x3, .int .i64 x4] 23))) := Lib.hid ((Fr.refl [] w).alloc _)
  have B5 : Hid (Five (w.alloc (.cells #[.int .i64 x0, .int .i64 x1, .int .i64 x2, .int .i64 x3, .int .i64 x4] 23)) w.heap.size x0 x1 x2 x3 x4) := Lib.hid (Blk.new w _ _)
  have HX := Lib.hid hx
  have HO := Lib.hid (And.intro o0 (And.intro o1 (And.intro o2 (And.intro o3 o4))))
  clear hx o0 o1 o2 o3 o4
  go_enter Tryz.func3, Tryz.ntmps3
  go_wp2_with fail
  refine (sane7 _).mono ?_
  rintro e wa ⟨rfl, fa⟩
  replace B5 := Lib.hid (B5.out.fr fa (by simp))
  replace F0 := Lib.hid (F0.out.trans fa)
  clear fa
  go_wp2_with fail
  obtain ⟨mN, hmN⟩ : ∃ m : Nat, (min (n : Int) 25).toNat = m := ⟨_, rfl⟩
  have hm1 : mN ≤ 25 ∧ mN ≤ n := by omega
  rw [hmN]
  refine (log_any A mN cap wa (by omega) (by
    rcases HX.out with h0 | ⟨bx, ox, h1, h2⟩
    · exact .inl (by omega)
    · exact .inr ⟨bx, ox, h1, (h2.le hm1.2).fr0 F0.out⟩)).mono ?_
  clear hmN
  rintro e w2 ⟨vl, l, rfl, hor, hok, hll, f2, hvo⟩
  obtain ⟨A2, n2, c2, hv⟩ : ∃ A n c, vl = .slice A n c := by
    obtain ⟨us, hus, _⟩ := hor
    obtain ⟨A2, cap2, hv⟩ := hus.val
    exact ⟨_, _, _, hv⟩
  subst hv
  have HROW := Lib.hid hor
  have HOK := Lib.hid hok
  have HN2 : Hid (n2 = l.length) := Lib.hid hor.recs.2
  have hnM : n2 ≤ 25 := by rw [HN2.out]; omega
  replace B5 := Lib.hid (B5.out.fr f2 (by simp))
  replace F0 := Lib.hid (F0.out.trans f2)
  clear hor hok f2 hvo hll HX hm1 hn
  obtain ⟨g0, g1, g2, g3, g4⟩ := B5.out.cells
  go_wp2_with fail
  refine (query_any x0 x1 x2 x3 x4 _ HO.out.1 HO.out.2.1 HO.out.2.2.1 HO.out.2.2.2.1 HO.out.2.2.2.2).mono ?_
  rintro e wq ⟨q, rfl, hq, fq⟩
  have HQ := Lib.hid hq
  have fq1 := fq.alloc (.cells #[.int .i64 q.kind, .int .i64 q.table, .int .i64 q.column, .int .i64 q.low, .int .i64 q.high, .int .i64 q.by_, .int .i64 q.other] 28)
  have HBQ := Lib.hid (QAt.new wq q)
  replace F0 := Lib.hid (F0.out.trans fq1)
  replace HROW := Lib.hid (HROW.out.keep0 fq1)
  clear g0 g1 g2 g3 g4 B5 HO hq fq fq1 hcap
  go_wp2_with fail
  refine (snew_any _).mono ?_
  rintro e ws ⟨rfl, hst, fs⟩
  rw [World.size_alloc] at hst
  try rw [World.size_alloc]
  have PG : Hid (PgAt w ws (wq.heap.size + 1 + 1) (wq.heap.size + 1) wq.heap.size l A2 n2 c2 q Sm.new) := Lib.hid ⟨hst, HROW.out.keep0 fs, HBQ.out.fr fs (by simp), F0.out.trans fs, by have := F0.out.size; rw [World.size_alloc] at this; omega, by have := F0.out.size; rw [World.size_alloc] at this; omega⟩
  clear hst fs HROW HBQ
  generalize wq.heap.size + 1 + 1 = bs at *
  generalize wq.heap.size + 1 = ms at *
  generalize wq.heap.size = gq at *
  clear F0
  go_wp2_with fail
  have HV : Hid (Em.valid q = true) := Lib.hid HQ.out.valid
  have hok : okI q.kind := okI_mk (by have := HQ.out.k; omega) (by have := HQ.out.k; omega)
  have HOKI := Lib.hid hok
  have HTO := Lib.hid (fun c W => touches_any q c hok W)
  clear hok HQ
  go_loopw [9] (fun i wr => ∃ k : Nat, i = .int .i64 k ∧ k ≤ n2 ∧ Hid (PgAt w wr bs ms gq l A2 n2 c2 q (Lg.run (l.take k)))) (fun i _ => n2 - (intOf i).toNat)
  case atStart => exact ⟨0, rfl, Nat.zero_le _, PG⟩
  case round =>
    clear PG
    obtain ⟨k, rfl, hk, PG⟩ := hrel
    by_cases hlt : k < n2
    · have hkl : k < l.length := by rw [← HN2.out]; exact hlt
      have HFIT := Lib.hid (HOK.out.fits k hkl)
      have HSO := Lib.hid (Lg.run_ok (l.take k))
      have HSS := Lib.hid (Lg.run_sound (l.take k))
      have HSO' := Lib.hid (Lg.run_ok (l.take (k + 1)))
      have HSS' := Lib.hid (Lg.run_sound (l.take (k + 1)))
      have HRUN := Lib.hid (Lg.run_succ l hkl)
      rw [HRUN.out] at HSS' HSO'
      obtain ⟨s, HS⟩ : ∃ s, Hid (Lg.run (l.take k) = s) := ⟨_, Lib.hid rfl⟩
      obtain ⟨r, HR⟩ : ∃ r, Hid (l[k] = r) := ⟨_, Lib.hid rfl⟩
      rw [HS.out] at HFIT HSO HSS HSS' HSO' PG HRUN
      rw [HR.out] at HFIT HSS' HSO' HRUN
      obtain ⟨Ra, HRRa⟩ : ∃ R, Hid (Em.of s q = R) := ⟨_, Lib.hid rfl⟩
      have HBa := Lib.hid (Em.of_bounds HSO.out HSS.out q)
      have HOF := Lib.hid (PG.out.of HSS.out HV.out)
      rw [HRRa.out] at HBa HOF
      have hbq : Blk wr gq 28 #[.int .i64 q.kind, .int .i64 q.table, .int .i64 q.column, .int .i64 q.low, .int .i64 q.high, .int .i64 q.by_, .int .i64 q.other] := PG.out.q
      go_upto_region 9 with (first
        | (refine wpList_load_row rfl _ _ rfl gq rfl 28 _ (0, 0) _ hbq Tryz.underlying28 rfl (by kernel_rfl) ?_)
        | (go_at_call 12; refine HOF.out.mono ?_; rintro e wx ⟨Aa, na, ca, rfl, hrw⟩; have RW := Lib.hid hrw; clear hrw))
      clear hbq HOF
      have RVa := Lib.hid (RvAt.of (c := ca) RW.out)
      have Fa := Lib.hid (RW.out.fr.trans ((Fr.refl [] wx).alloc (.cells #[.slice Aa na ca, .int .i64 Ra.value, .bool Ra.found] 34)))
      replace PG := Lib.hid (PG.out.fr0 Fa.out)
      clear RW
      generalize hw5 : wx.alloc (.cells #[.slice Aa na ca, .int .i64 Ra.value, .bool Ra.found] 34) = wa at *
      clear hw5
      generalize wx.heap.size = ga at *
      obtain ⟨bb, off, Ak, ck, hA, hbb, hc0, hc1, hhc, hl8⟩ := PG.out.open_ hkl
      subst hA
      rw [HR.out] at hc0 hc1 hhc hl8
      obtain ⟨nk, hnk⟩ : ∃ n, n = r.cs.length := ⟨_, rfl⟩
      rw [← hnk] at hc1 hl8
      have HNK := Lib.hid hnk
      obtain ⟨pk, hpk⟩ : ∃ n, n = r.p := ⟨_, rfl⟩
      rw [← hpk] at hc0
      have HPK := Lib.hid hpk
      clear hnk hpk
      have HAP := Lib.hid (PG.out.apply (cap := ck) hhc (by rw [← HNK.out]; exact hl8) HNK.out HPK.out HFIT.out)
      go_upto_region 11 with (go_at_call 13; refine HAP.out.mono ?_; rintro e wy ⟨rfl, hpg, fS⟩; have PG2 := Lib.hid hpg; have FS := Lib.hid fS; clear hpg fS)
      replace RVa := Lib.hid (RVa.out.frS PG.out.sta FS.out)
      clear hc0 hc1 hhc HAP PG
      have PG := PG2
      clear PG2
      clear FS Fa
      obtain ⟨Rb, HRRb⟩ : ∃ R, Hid (Em.of (Sm.apply s r) q = R) := ⟨_, Lib.hid rfl⟩
      have HBb := Lib.hid (Em.of_bounds HSO'.out HSS'.out q)
      have HOF := Lib.hid (PG.out.of HSS'.out HV.out)
      rw [HRRb.out] at HBb HOF
      have hbq : Blk wy gq 28 #[.int .i64 q.kind, .int .i64 q.table, .int .i64 q.column, .int .i64 q.low, .int .i64 q.high, .int .i64 q.by_, .int .i64 q.other] := PG.out.q
      go_upto_region 12 with (first
        | (refine wpList_load_row rfl _ _ rfl gq rfl 28 _ (0, 0) _ hbq Tryz.underlying28 rfl (by kernel_rfl) ?_)
        | (go_at_call 12; refine HOF.out.mono ?_; rintro e wx ⟨Ab, nb, cb, rfl, hrw⟩; have RW := Lib.hid hrw; clear hrw))
      clear hbq HOF
      have RVb := Lib.hid (RvAt.of (c := cb) RW.out)
      have Fb := Lib.hid (RW.out.fr.trans ((Fr.refl [] wx).alloc (.cells #[.slice Ab nb cb, .int .i64 Rb.value, .bool Rb.found] 34)))
      replace PG := Lib.hid (PG.out.fr0 Fb.out)
      clear RW
      generalize hw5 : wx.alloc (.cells #[.slice Ab nb cb, .int .i64 Rb.value, .bool Rb.found] 34) = wb at *
      clear hw5
      generalize wx.heap.size = gb at *
      replace RVa := Lib.hid (RVa.out.fr0 Fb.out)
      clear Fb
      have HUN : Hid (r.cs.any (Pm.touches q) = false → Ra = Rb) := Lib.hid (fun h => by rw [← HRRa.out, ← HRRb.out]; exact Pm.untouched HV.out HSO.out HFIT.out h)
      clear HRRa HRRb
      go_wp2_with fail
      go_loopw [14, 15] (fun t j wr => ∃ (i : Nat) (tb : Bool), t = .bool tb ∧ j = .int .i64 i ∧ i ≤ nk ∧ Hid (tb = (r.cs.take i).any (Pm.touches q)) ∧ Hid (Fr [] wb wr)) (fun _ j _ => nk - (intOf j).toNat)
      case atStart => exact ⟨0, false, rfl, rfl, Nat.zero_le _, Lib.hid (by simp), Lib.hid (Fr.refl [] _)⟩
      case round =>
        obtain ⟨i, tb, rfl, rfl, hi, HTB, FI⟩ := hrel
        obtain ⟨bb', off', Ak', ck', hA', hbb2, hc0, hc1, hhc, _⟩ := (PG.out.fr0 FI.out).open_ hkl
        rw [HR.out] at hc0 hc1 hhc
        rw [← HNK.out] at hc1
        rw [← HPK.out] at hc0
        have eA : bb' = bb ∧ off' = off := by
          injection hA' with hA'
          injection hA' with h1 h2
          exact ⟨h1.symm, h2.symm⟩
        obtain ⟨rfl, rfl⟩ := eA
        clear hA'
        by_cases hlt2 : i < nk
        · have hil : i < r.cs.length := by rw [← HNK.out]; exact hlt2
          obtain ⟨b3, off3, hA3, hb3, hc3⟩ := hhc.1 (by omega)
          subst hA3
          have hcc := Lib.hid (fun j (hj : j < 10) => hc3 i hil j hj)
          have HAN := Lib.hid (Pm.any_succ (Pm.touches q) hil)
          rw [← HTB.out] at HAN
          clear hc3 hhc
          obtain ⟨c, HC⟩ : ∃ c, Hid (r.cs[i] = c) := ⟨_, Lib.hid rfl⟩
          rw [HC.out] at hcc HAN
          have HTC := Lib.hid (fun W => HTO.out c W)
          obtain ⟨tc, HTCB⟩ : ∃ b, Hid (Pm.touches q c = b) := ⟨_, Lib.hid rfl⟩
          rw [HTCB.out] at HTC HAN
          have PQ := (PG.out.fr0 FI.out).q
          have q0 : ∀ p : Later wr, p.w.cell? ⟨gq, 0, none⟩ = some (.int .i64 q.kind) := fun p => p.cell PQ.lt PQ.c0
          have q1 : ∀ p : Later wr, p.w.cell? ⟨gq, 1, none⟩ = some (.int .i64 q.table) := fun p => p.cell PQ.lt PQ.c1
          have q2 : ∀ p : Later wr, p.w.cell? ⟨gq, 2, none⟩ = some (.int .i64 q.column) := fun p => p.cell PQ.lt PQ.c2
          have q3 : ∀ p : Later wr, p.w.cell? ⟨gq, 3, none⟩ = some (.int .i64 q.low) := fun p => p.cell PQ.lt PQ.c3
          have q4 : ∀ p : Later wr, p.w.cell? ⟨gq, 4, none⟩ = some (.int .i64 q.high) := fun p => p.cell PQ.lt PQ.c4
          have q5 : ∀ p : Later wr, p.w.cell? ⟨gq, 5, none⟩ = some (.int .i64 q.by_) := fun p => p.cell PQ.lt PQ.c5
          have q6 : ∀ p : Later wr, p.w.cell? ⟨gq, 6, none⟩ = some (.int .i64 q.other) := fun p => p.cell PQ.lt PQ.c6
          have y0 : ∀ p : Later wr, p.w.cell? ⟨b3, off3 + i * 10, none⟩ = some (.int .i64 c.t) := fun p => p.cell hb3 (hcc.out 0 (by decide))
          have y1 : ∀ p : Later wr, p.w.cell? ⟨b3, off3 + i * 10 + 1, none⟩ = some (.int .i64 c.k) := fun p => p.cell hb3 (hcc.out 1 (by decide))
          have y2 : ∀ p : Later wr, p.w.cell? ⟨b3, off3 + i * 10 + 2, none⟩ = some (.bool c.had) := fun p => p.cell hb3 (hcc.out 2 (by decide))
          have y3 : ∀ p : Later wr, p.w.cell? ⟨b3, off3 + i * 10 + 3, none⟩ = some (.int .i64 c.o0) := fun p => p.cell hb3 (hcc.out 3 (by decide))
          have y4 : ∀ p : Later wr, p.w.cell? ⟨b3, off3 + i * 10 + 4, none⟩ = some (.int .i64 c.o1) := fun p => p.cell hb3 (hcc.out 4 (by decide))
          have y5 : ∀ p : Later wr, p.w.cell? ⟨b3, off3 + i * 10 + 5, none⟩ = some (.int .i64 c.o2) := fun p => p.cell hb3 (hcc.out 5 (by decide))
          have y6 : ∀ p : Later wr, p.w.cell? ⟨b3, off3 + i * 10 + 6, none⟩ = some (.bool c.has) := fun p => p.cell hb3 (hcc.out 6 (by decide))
          have y7 : ∀ p : Later wr, p.w.cell? ⟨b3, off3 + i * 10 + 7, none⟩ = some (.int .i64 c.n0) := fun p => p.cell hb3 (hcc.out 7 (by decide))
          have y8 : ∀ p : Later wr, p.w.cell? ⟨b3, off3 + i * 10 + 8, none⟩ = some (.int .i64 c.n1) := fun p => p.cell hb3 (hcc.out 8 (by decide))
          have y9 : ∀ p : Later wr, p.w.cell? ⟨b3, off3 + i * 10 + 9, none⟩ = some (.int .i64 c.n2) := fun p => p.cell hb3 (hcc.out 9 (by decide))
          have hs1 : ∀ p : Later wr, p.w.cell? ⟨bb', off' + k * 2 + 1, none⟩ = some (.slice (some ⟨b3, off3, none⟩) nk ck') := fun p => p.cell hbb2 hc1
          clear hcc PQ hc0
          go_wp2_with fail
          clear hc1
          refine wp_region_later (by kernel_rfl) (by kernel_rfl) ?_
          repeat (go_big_quiet_step (exact Later.calls (HTC.out _)))
          refine wpQuiet_nil ?_
          rintro w' ⟨⟨wz, fq⟩, rfl⟩
          have FI2 := Lib.hid (FI.out.trans fq)
          clear fq FI HTC hs1 hb3 hbb2 q0 q1 q2 q3 q4 q5 q6 y0 y1 y2 y3 y4 y5 y6 y7 y8 y9
          cases tb
          · go_wp2_with fail
            go_roundw
            case rel => exact ⟨i + 1, tc, rfl, by go_num, by omega, Lib.hid (by rw [HAN.out]; rfl), FI2⟩
            case measure => simp [intOf]; omega
          · go_wp2_with fail
            go_roundw
            case rel => exact ⟨i + 1, true, rfl, by go_num, by omega, Lib.hid (by rw [HAN.out]; rfl), FI2⟩
            case measure => simp [intOf]; omega
        · obtain rfl : i = nk := by omega
          have HTA : Hid (tb = r.cs.any (Pm.touches q)) := Lib.hid (by rw [HTB.out, List.take_of_length_le (by rw [← HNK.out]; exact Nat.le_refl _)])
          replace PG := Lib.hid (PG.out.fr0 FI.out)
          rw [← HRUN.out] at PG
          clear hc0 hhc HTB
          cases tb
          · have HEQ := Lib.hid (HUN.out HTA.out.symm)
            have RA := Lib.hid (RVa.out.fr0 FI.out)
            have RB := Lib.hid (RVb.out.fr0 FI.out)
            have a0 := RA.out.blk.c0
            have a1 := RA.out.blk.c1
            have a2 := RA.out.blk.c2
            have b0 := RB.out.blk.c0
            have b1 := RB.out.blk.c1
            have b2 := RB.out.blk.c2
            have HSM := Lib.hid (same_rv RA.out RB.out HBa.out.1 HBb.out.1 (decide_eq_true HEQ.out))
            clear RA RB
            go_wp2_with (go_at_call 15; refine HSM.out.mono ?_; rintro e w9 ⟨rfl, f9⟩; have F9 := Lib.hid f9; clear f9)
            go_roundw
            case rel => exact ⟨k + 1, by go_num, by omega, Lib.hid (PG.out.fr0 F9.out)⟩
            case measure => simp [intOf]; omega
          · go_wp2_with fail
            go_roundw
            case rel => exact ⟨k + 1, by go_num, by omega, PG⟩
            case measure => simp [intOf]; omega
    · go_wp2_with fail
      go_ret
      exact ⟨rfl, PG.out.fr.below⟩
end Go.Proofs.YtjiikpmkedkbkaaGreat
