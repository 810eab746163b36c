/-
  MatchMissesNothing: the walk of the law.
-/
import Derived.Test.YtciaallekkdnhaaGreatMuK
import Derived.Deep.DeepCutAuto
import Derived.Deep.CutBlock
namespace Go.Proofs.YtciaallekkdnhaaGreat
open Go.RowKit

set_option maxRecDepth 100000 in
set_option maxHeartbeats 8000000 in
theorem misses_walk (A : Option Addr) (n cap : Nat) (B : Option Addr) (nb cb : Nat) (w : World) (hn : n ≤ cap) (hcap : cap ≤ maxLen) (hx : n = 0 ∨ ∃ bx ox, A = some ⟨bx, ox, none⟩ ∧ FivAt w bx ox n) (hnb : nb ≤ cb) (hcb : cb ≤ maxLen) (hy : nb = 0 ∨ ∃ bx ox, B = some ⟨bx, ox, none⟩ ∧ SixAt w bx ox nb) :
    Calls Tryz.prog 8 #[.slice A n cap, .slice B nb cb] w fun e w' => e = .returned (.bool true) ∧ Below w.heap.size w w' := by
  have hb63 : cap < 9223372036854775808 := by simp only [maxLen] at hcap; omega
  have HX := Lib.hid hx
  have HY := Lib.hid hy
  clear hx hy
  go_enter Tryz.func8, Tryz.ntmps8
  go_wp2_with fail
  refine (msane_any _).mono ?_
  rintro e wa ⟨rfl, fa⟩
  have FA := Lib.hid fa
  clear fa
  go_wp2_with fail
  obtain ⟨mN, hmN⟩ : ∃ m : Nat, (min (n : Int) 20).toNat = m := ⟨_, rfl⟩
  have hm1 : mN ≤ 20 ∧ mN ≤ n := by omega
  rw [hmN]
  refine (mindex_any A mN cap wa (by omega) hcap (by
    rcases HX.out with h0 | ⟨bx, ox, h1, h2⟩
    · exact .inl (by omega)
    · exact .inr ⟨bx, ox, h1, (h2.le hm1.2).fr0 FA.out⟩)).mono ?_
  rintro e w1 ⟨b, m, M, qs, v, rfl, hi, hl40, -⟩
  have HI := Lib.hid hi
  have HL40 := Lib.hid hl40
  clear hi HX hl40 hmN hm1
  go_wp2_with fail
  refine (snew_any _).mono ?_
  rintro e ws ⟨rfl, hst, fs⟩
  have HST := Lib.hid hst
  have HFS := Lib.hid fs
  have HSZ : Hid (b ≤ w1.heap.size - 1 ∧ m ≤ w1.heap.size - 1 ∧ 1 ≤ w1.heap.size) := Lib.hid (by have h := HI.out.ix.lt; omega)
  clear hst fs
  obtain ⟨ms, hms⟩ : ∃ x, w1.heap.size = x := ⟨_, rfl⟩
  obtain ⟨bs, hbs⟩ : ∃ x, w1.heap.size + 1 = x := ⟨_, rfl⟩
  have HBM : Hid (ms = w1.heap.size ∧ bs = w1.heap.size + 1) := Lib.hid ⟨hms.symm, hbs.symm⟩
  rw [hbs, hms] at HST
  rw [hbs]
  clear hms hbs
  go_wp2_with fail
  refine (mlog_any B nb cb ws hnb hcb (by
    rcases HY.out with h0 | ⟨bx, ox, h1, h2⟩
    · exact .inl h0
    · exact .inr ⟨bx, ox, h1, ((h2.fr0 FA.out).fr0 HI.out.fr).fr0 HFS.out⟩)).mono ?_
  rintro e w2 ⟨A2, n2, c2, l, rfl, hor, hok, hll, f2, hn2⟩
  obtain ⟨A1, n1, c1, hv⟩ : ∃ A n c, v = .slice A n c := (match HI.out.row.val with | ⟨_, _, hv⟩ => ⟨_, _, _, hv⟩)
  subst hv
  have MN : Hid (MnAt wa w2 b m M [b, m] (.slice A1 n1 c1) qs A2 n2 c2 l bs ms Sm.new) := Lib.hid ⟨MgAt.of HI.out hor (HFS.out.trans f2), HST.out.fr0 f2, by
    have h1 := HSZ.out
    have h2 := HBM.out
    simp only [List.mem_cons, List.not_mem_nil, or_false]
    omega, by
    have h1 := HI.out.fr.size
    have h2 := HBM.out
    omega⟩
  have HOK := Lib.hid hok
  have HN2 := Lib.hid hn2
  have HN1 : Hid (n1 = qs.length) := Lib.hid MN.out.mg.len1
  have hn25 : n2 ≤ 25 := by omega
  have hn40 : n1 ≤ 40 := by rw [HN1.out]; exact HL40.out
  clear hor hok hll f2 hn2 HI HY HL40 hn hcap hnb hcb HST HFS HSZ HBM hb63
  go_wp2_with fail
  go_loopw [10] (fun i wr => ∃ (k : Nat) (D : List Nat), i = .int .i64 k ∧ k ≤ n2 ∧ Hid (MnAt wa wr b m M D (.slice A1 n1 c1) qs A2 n2 c2 l bs ms (Lg.run (l.take k)))) (fun i _ => n2 - (intOf i).toNat)
  case atStart => exact ⟨0, [b, m], rfl, Nat.zero_le _, MN⟩
  case round =>
    clear MN
    obtain ⟨k, D, rfl, hk, MN⟩ := hrel
    by_cases hlt : k < n2
    · have hkl : k < l.length := by rw [← HN2.out]; exact hlt
      have HFIT := Lib.hid (HOK.out.fits k hkl)
      have HSO := Lib.hid (Lg.run_ok (l.take k))
      have HSS := Lib.hid (Lg.run_sound (l.take k))
      have HSO' := Lib.hid (Lg.run_ok (l.take (k + 1)))
      have HSS' := Lib.hid (Lg.run_sound (l.take (k + 1)))
      have HRUN := Lib.hid (Lg.run_succ l hkl)
      have HCK := Lib.hid (HOK.out.okI hkl)
      rw [HRUN.out] at HSS' HSO'
      obtain ⟨s, HS⟩ : ∃ s, Hid (Lg.run (l.take k) = s) := ⟨_, Lib.hid rfl⟩
      obtain ⟨r, HR⟩ : ∃ r, Hid (l[k] = r) := ⟨_, Lib.hid rfl⟩
      rw [HS.out] at HFIT HSO HSS HSS' HSO' MN HRUN
      rw [HR.out] at HFIT HSS' HSO' HRUN HCK
      obtain ⟨nk, hnk⟩ : ∃ n, n = r.cs.length := ⟨_, rfl⟩
      have HNK := Lib.hid hnk
      obtain ⟨pk, hpk⟩ : ∃ n, n = r.p := ⟨_, rfl⟩
      have HPK := Lib.hid hpk
      clear hnk hpk
      have HOP : Hid (∀ (W : World) (D : List Nat), MgAt wa W b m M D (.slice A1 n1 c1) qs A2 n2 c2 l → ∃ bb off Ak ck, A2 = some ⟨bb, off, none⟩ ∧ bb < W.heap.size ∧ W.cell? ⟨bb, off + k * 2, none⟩ = some (.int .i64 pk) ∧ W.cell? ⟨bb, off + k * 2 + 1, none⟩ = some (.slice Ak nk ck) ∧ HoldsC W Ak r.cs ∧ nk ≤ 8) := Lib.hid (fun W D h => by
        obtain ⟨bb, off, Ak, ck, h1, h2, h3, h4, h5, h6⟩ := h.open_ hkl
        rw [HR.out, ← HNK.out] at h4 h6
        rw [HR.out] at h5
        rw [HR.out, ← HPK.out] at h3
        exact ⟨bb, off, Ak, ck, h1, h2, h3, h4, h5, h6⟩)
      have HCL := Lib.hid (sclone_any bs ms s wr MN.out.sta)
      go_wp2_with fail
      refine HCL.out.mono ?_
      rintro e w3 ⟨b2, m2, rfl, hst2, f3, hb2, hm2⟩
      have HST2 := Lib.hid hst2
      have HNE2 : Hid (b2 ∉ [bs, ms] ∧ m2 ∉ [bs, ms]) := Lib.hid (by
        have h1 := MN.out.sta.lt
        simp only [List.mem_cons, List.not_mem_nil, or_false]
        omega)
      have HNB2 : Hid (b2 ∉ [b] ∧ m2 ∉ [b]) := Lib.hid (by
        have h1 := MN.out.mg.ix.lt
        simp only [List.mem_cons, List.not_mem_nil, or_false]
        omega)
      replace MN := Lib.hid (MN.out.fr0 f3)
      clear hst2 f3 hb2 hm2 HCL
      obtain ⟨bb, off, Ak, ck, hA, hbb, hc0, hc1, hhc, hl8⟩ := HOP.out _ _ MN.out.mg
      subst hA
      have HAP := Lib.hid (MN.out.apply (cap := ck) hhc (by rw [← HNK.out]; exact hl8) HNK.out HPK.out HFIT.out)
      clear hhc
      go_wp2_with fail
      refine HAP.out.mono ?_
      rintro e w4 ⟨rfl, hmn, f4⟩
      have MN4 := Lib.hid hmn
      replace HST2 := Lib.hid (HST2.out.fr f4 HNE2.out.1 HNE2.out.2)
      clear hmn f4 HAP hc0 hc1 hbb MN HNE2
      obtain ⟨bb', off', Ak', ck', hA', hbb, hc0, hc1, hhc, -⟩ := HOP.out _ _ MN4.out.mg
      injection hA' with hA'
      injection hA' with h1 h2
      subst h1 h2
      have HMA := Lib.hid (MN4.out.match_ pk Ak' nk ck' r.cs hhc HNK.out (by omega) HCK.out)
      clear hhc
      go_wp2_with fail
      refine HMA.out.mono ?_
      rintro e w5 ⟨Ao, no, co, L, rfl, hol, hnl, hL, hf5, D', hmn⟩
      have MN := Lib.hid hmn
      replace HST2 := Lib.hid (HST2.out.fr hf5 HNB2.out.1 HNB2.out.2)
      have HO := Lib.hid hol
      have HNL := Lib.hid hnl
      have HL := Lib.hid hL
      have hno : no ≤ 40 := by
        rw [hnl, hL]
        have := Mm.hits_len (qs := qs) (cs := r.cs) qs.length
        have := HN1.out
        omega
      clear HMA hol hnl hL hf5 hmn hc0 hc1 hbb HNB2 MN4 D
      go_wp2_with fail
      go_loopw [13, 14] (fun a i wq => ∃ (j p : Nat), a = .int .i64 p ∧ i = .int .i64 j ∧ j ≤ n1 ∧ p ≤ 40 ∧ Hid (p = (Mm.hits qs r.cs j).length) ∧ Hid (Fr [] w5 wq)) (fun _ i _ => n1 - (intOf i).toNat)
      case atStart => exact ⟨0, 0, rfl, rfl, Nat.zero_le _, by decide, Lib.hid rfl, Lib.hid (Fr.refl _ _)⟩
      case round =>
        obtain ⟨j, p, rfl, rfl, hj, hp40, HP, HF⟩ := hrel
        by_cases hjl : j < n1
        · have hjq : j < qs.length := by rw [← HN1.out]; exact hjl
          obtain ⟨tb, HTA⟩ : ∃ t, Hid (r.cs.any (Pm.touches qs[j]) = t) := ⟨_, Lib.hid rfl⟩
          cases tb
          · have HMI := Lib.hid (Mm.next_miss HL.out hjq HTA.out)
            have MN6 := Lib.hid (MN.out.fr0 HF.out)
            have ST6 := Lib.hid (HST2.out.fr0 HF.out)
            obtain ⟨q, hq⟩ : ∃ q, q = qs[j] := ⟨_, rfl⟩
            rw [← hq] at HTA
            have HQO : Hid (QrOk q) := Lib.hid (MN.out.mg.ok q (by rw [hq]; exact List.getElem_mem _))
            have HQQ := Lib.hid hq
            obtain ⟨Ra, HRA⟩ : ∃ x, Hid (Em.of s q = x) := ⟨_, Lib.hid rfl⟩
            obtain ⟨Rb, HRB⟩ : ∃ x, Hid (Em.of (Sm.apply s r) q = x) := ⟨_, Lib.hid rfl⟩
            have HEQ : Hid (Ra = Rb) := Lib.hid (by rw [← HRA.out, ← HRB.out]; exact Pm.untouched8 HQO.out.valid HSO.out HFIT.out HTA.out)
            have HBA := Lib.hid (Em.of_bounds HSO.out HSS.out q)
            have HBB := Lib.hid (Em.of_bounds HSO'.out HSS'.out q)
            have HOA := Lib.hid (of8_any ST6.out HSS.out HQO.out.valid)
            rw [HRA.out] at HBA HOA
            rw [HRB.out] at HBB
            clear hq
            obtain ⟨g7, o7, hA7, hb7, hc7⟩ := MN6.out.mg.query hjq
            rw [← HQQ.out] at hc7
            subst hA7
            have q0 : wr.cell? ⟨g7, o7 + j * 7, none⟩ = some (.int .i64 q.kind) := hc7 0 (by decide)
            have q1 : wr.cell? ⟨g7, o7 + j * 7 + 1, none⟩ = some (.int .i64 q.table) := hc7 1 (by decide)
            have q2 : wr.cell? ⟨g7, o7 + j * 7 + 2, none⟩ = some (.int .i64 q.column) := hc7 2 (by decide)
            have q3 : wr.cell? ⟨g7, o7 + j * 7 + 3, none⟩ = some (.int .i64 q.low) := hc7 3 (by decide)
            have q4 : wr.cell? ⟨g7, o7 + j * 7 + 4, none⟩ = some (.int .i64 q.high) := hc7 4 (by decide)
            have q5 : wr.cell? ⟨g7, o7 + j * 7 + 5, none⟩ = some (.int .i64 q.by_) := hc7 5 (by decide)
            have q6 : wr.cell? ⟨g7, o7 + j * 7 + 6, none⟩ = some (.int .i64 q.other) := hc7 6 (by decide)
            clear hc7
            have hmiss : p < no → ∃ (x : Int) (bo oo : Nat), Ao = some ⟨bo, oo, none⟩ ∧ wr.cell? ⟨bo, oo + p, none⟩ = some (.int .i64 x) ∧ (x == (j : Int)) = false := fun hpn => by
              have hpL : p < L.length := by rw [← HNL.out]; exact hpn
              obtain ⟨bo, oo, h1, -, h3⟩ := ((HO.out.at1 encJ_len).1.fr0 HF.out).int hpL
              exact ⟨_, bo, oo, h1, h3, by simpa using HMI.out.2 p hpL⟩
            have HMISS := Lib.hid hmiss
            clear hmiss
            by_cases hpn : p < no
            · obtain ⟨x, bo, oo, hAo, hco, hxj⟩ := HMISS.out hpn
              subst hAo
              have hpn' : (p : Int) < (no : Int) := by omega
              go_wp2_with fail
              refine HOA.out.mono ?_
              rintro e wx ⟨Aa, na, ca, rfl, hrw⟩
              have RW := Lib.hid hrw
              clear hrw HOA
              have RVa := Lib.hid (RvAt.of (c := ca) RW.out)
              have Fa := Lib.hid (RW.out.fr.trans ((Fr.refl [] wx).alloc (.cells #[.slice Aa na ca, .int .i64 Ra.value, .bool Ra.found] 71)))
              clear RW q0 q1 q2 q3 q4 q5 q6
              go_upto_region 19 with (fail)
              generalize hw7 : wx.alloc (.cells #[.slice Aa na ca, .int .i64 Ra.value, .bool Ra.found] 71) = w7 at *
              clear hw7
              generalize wx.heap.size = ga at *
              have MN7 := Lib.hid (MN6.out.fr0 Fa.out)
              obtain ⟨g7', o7', hA7', -, hc7⟩ := MN7.out.mg.query hjq
              injection hA7' with hA7'
              injection hA7' with h1 h2
              subst h1 h2
              rw [← HQQ.out] at hc7
              have q0 : w7.cell? ⟨g7, o7 + j * 7, none⟩ = some (.int .i64 q.kind) := hc7 0 (by decide)
              have q1 : w7.cell? ⟨g7, o7 + j * 7 + 1, none⟩ = some (.int .i64 q.table) := hc7 1 (by decide)
              have q2 : w7.cell? ⟨g7, o7 + j * 7 + 2, none⟩ = some (.int .i64 q.column) := hc7 2 (by decide)
              have q3 : w7.cell? ⟨g7, o7 + j * 7 + 3, none⟩ = some (.int .i64 q.low) := hc7 3 (by decide)
              have q4 : w7.cell? ⟨g7, o7 + j * 7 + 4, none⟩ = some (.int .i64 q.high) := hc7 4 (by decide)
              have q5 : w7.cell? ⟨g7, o7 + j * 7 + 5, none⟩ = some (.int .i64 q.by_) := hc7 5 (by decide)
              have q6 : w7.cell? ⟨g7, o7 + j * 7 + 6, none⟩ = some (.int .i64 q.other) := hc7 6 (by decide)
              clear hc7
              have HOB := Lib.hid (of8_any MN7.out.sta HSS'.out HQO.out.valid)
              rw [HRB.out] at HOB
              go_wp2_with fail
              refine HOB.out.mono ?_
              rintro e wx ⟨Ab, nb2, cb2, rfl, hrw⟩
              have RW := Lib.hid hrw
              clear hrw HOB
              have RVb := Lib.hid (RvAt.of (c := cb2) RW.out)
              have Fb := Lib.hid (RW.out.fr.trans ((Fr.refl [] wx).alloc (.cells #[.slice Ab nb2 cb2, .int .i64 Rb.value, .bool Rb.found] 71)))
              clear RW q0 q1 q2 q3 q4 q5 q6
              go_upto_region 20 with (fail)
              generalize hw8 : wx.alloc (.cells #[.slice Ab nb2 cb2, .int .i64 Rb.value, .bool Rb.found] 71) = w8 at *
              clear hw8
              generalize wx.heap.size = gb at *
              replace RVa := Lib.hid (RVa.out.fr0 Fb.out)
              have a0 := RVa.out.blk.c0
              have a1 := RVa.out.blk.c1
              have a2 := RVa.out.blk.c2
              have b0 := RVb.out.blk.c0
              have b1 := RVb.out.blk.c1
              have b2' := RVb.out.blk.c2
              have HSM := Lib.hid (esame_rv RVa.out RVb.out HBA.out.1 HBB.out.1 (decide_eq_true HEQ.out))
              go_wp2_with fail
              refine HSM.out.mono ?_
              rintro e w9 ⟨rfl, f9⟩
              have F9 := Lib.hid (((HF.out.trans Fa.out).trans Fb.out).trans f9)
              clear f9
              go_wp2_with fail
              go_roundw
              case rel => exact ⟨j + 1, p, rfl, by go_num, by omega, hp40, Lib.hid (by rw [HMI.out.1]; exact HP.out), F9⟩
              case measure => simp [intOf]; omega
            · have hpn' : ¬ (p : Int) < (no : Int) := by omega
              go_wp2_with fail
              refine HOA.out.mono ?_
              rintro e wx ⟨Aa, na, ca, rfl, hrw⟩
              have RW := Lib.hid hrw
              clear hrw HOA
              have RVa := Lib.hid (RvAt.of (c := ca) RW.out)
              have Fa := Lib.hid (RW.out.fr.trans ((Fr.refl [] wx).alloc (.cells #[.slice Aa na ca, .int .i64 Ra.value, .bool Ra.found] 71)))
              clear RW q0 q1 q2 q3 q4 q5 q6
              go_upto_region 19 with (fail)
              generalize hw7 : wx.alloc (.cells #[.slice Aa na ca, .int .i64 Ra.value, .bool Ra.found] 71) = w7 at *
              clear hw7
              generalize wx.heap.size = ga at *
              have MN7 := Lib.hid (MN6.out.fr0 Fa.out)
              obtain ⟨g7', o7', hA7', -, hc7⟩ := MN7.out.mg.query hjq
              injection hA7' with hA7'
              injection hA7' with h1 h2
              subst h1 h2
              rw [← HQQ.out] at hc7
              have q0 : w7.cell? ⟨g7, o7 + j * 7, none⟩ = some (.int .i64 q.kind) := hc7 0 (by decide)
              have q1 : w7.cell? ⟨g7, o7 + j * 7 + 1, none⟩ = some (.int .i64 q.table) := hc7 1 (by decide)
              have q2 : w7.cell? ⟨g7, o7 + j * 7 + 2, none⟩ = some (.int .i64 q.column) := hc7 2 (by decide)
              have q3 : w7.cell? ⟨g7, o7 + j * 7 + 3, none⟩ = some (.int .i64 q.low) := hc7 3 (by decide)
              have q4 : w7.cell? ⟨g7, o7 + j * 7 + 4, none⟩ = some (.int .i64 q.high) := hc7 4 (by decide)
              have q5 : w7.cell? ⟨g7, o7 + j * 7 + 5, none⟩ = some (.int .i64 q.by_) := hc7 5 (by decide)
              have q6 : w7.cell? ⟨g7, o7 + j * 7 + 6, none⟩ = some (.int .i64 q.other) := hc7 6 (by decide)
              clear hc7
              have HOB := Lib.hid (of8_any MN7.out.sta HSS'.out HQO.out.valid)
              rw [HRB.out] at HOB
              go_wp2_with fail
              refine HOB.out.mono ?_
              rintro e wx ⟨Ab, nb2, cb2, rfl, hrw⟩
              have RW := Lib.hid hrw
              clear hrw HOB
              have RVb := Lib.hid (RvAt.of (c := cb2) RW.out)
              have Fb := Lib.hid (RW.out.fr.trans ((Fr.refl [] wx).alloc (.cells #[.slice Ab nb2 cb2, .int .i64 Rb.value, .bool Rb.found] 71)))
              clear RW q0 q1 q2 q3 q4 q5 q6
              go_upto_region 20 with (fail)
              generalize hw8 : wx.alloc (.cells #[.slice Ab nb2 cb2, .int .i64 Rb.value, .bool Rb.found] 71) = w8 at *
              clear hw8
              generalize wx.heap.size = gb at *
              replace RVa := Lib.hid (RVa.out.fr0 Fb.out)
              have a0 := RVa.out.blk.c0
              have a1 := RVa.out.blk.c1
              have a2 := RVa.out.blk.c2
              have b0 := RVb.out.blk.c0
              have b1 := RVb.out.blk.c1
              have b2' := RVb.out.blk.c2
              have HSM := Lib.hid (esame_rv RVa.out RVb.out HBA.out.1 HBB.out.1 (decide_eq_true HEQ.out))
              go_wp2_with fail
              refine HSM.out.mono ?_
              rintro e w9 ⟨rfl, f9⟩
              have F9 := Lib.hid (((HF.out.trans Fa.out).trans Fb.out).trans f9)
              clear f9
              go_wp2_with fail
              go_roundw
              case rel => exact ⟨j + 1, p, rfl, by go_num, by omega, hp40, Lib.hid (by rw [HMI.out.1]; exact HP.out), F9⟩
              case measure => simp [intOf]; omega
          · obtain ⟨hp1, hp2, hp3⟩ := Mm.next_hit HL.out hjq HTA.out
            have HP3 := Lib.hid hp3
            have hpL : p < L.length := by rw [HP.out]; exact hp1
            have hpn : p < no := by rw [HNL.out]; exact hpL
            have hpn' : (p : Int) < (no : Int) := by omega
            obtain ⟨bo, oo, hAo, -, hco⟩ := ((HO.out.at1 encJ_len).1.fr0 HF.out).int hpL
            subst hAo
            have hLp : L[p] = (j : Int) := by simp only [HP.out]; exact hp2
            rw [hLp] at hco
            clear hp1 hp2 hp3 hLp
            go_wp2_with fail
            go_roundw
            case rel => exact ⟨j + 1, p + 1, by go_num, by go_num, by omega, by omega, Lib.hid (by rw [HP3.out, HP.out]), HF⟩
            case measure => simp [intOf]; omega
        · obtain rfl : j = n1 := by omega
          have MN6 := Lib.hid (MN.out.fr0 HF.out)
          rw [← HRUN.out] at MN6
          go_wp2_with fail
          go_roundw
          case rel => exact ⟨k + 1, D', by go_num, by omega, MN6⟩
          case measure => simp [intOf]; omega
    · go_wp2_with fail
      go_ret
      exact ⟨rfl, (FA.out.trans MN.out.mg.fr).below⟩
end Go.Proofs.YtciaallekkdnhaaGreat
