/-
  MatchViews: the walk of the law.
-/
import Derived.Test.YtciaallekkdnhaaGreatMuT
import Derived.Test.YtciaallekkdnhaaGreatJs
import Derived.Test.YtciaallekkdnhaaGreatJc
import Derived.Deep.DeepCutAuto
import Derived.Deep.CutBlock
namespace Go.Proofs.YtciaallekkdnhaaGreat
open Go.RowKit

set_option maxRecDepth 100000 in
set_option maxHeartbeats 8000000 in
theorem views_walk (A : Option Addr) (n cap : Nat) (B : Option Addr) (nb cb : Nat) (w : World) (hn : n ≤ cap) (hcap : cap ≤ maxLen) (hx : n = 0 ∨ ∃ bx ox, A = some ⟨bx, ox, none⟩ ∧ FivAt w bx ox n) (hnb : nb ≤ cb) (hcb : cb ≤ maxLen) (hy : nb = 0 ∨ ∃ bx ox, B = some ⟨bx, ox, none⟩ ∧ SixAt w bx ox nb) :
    Calls Tryz.prog 9 #[.slice A n cap, .slice B nb cb] w fun e w' => e = .returned (.bool true) ∧ Below w.heap.size w w' := by
  have hb63 : cap < 9223372036854775808 := by simp only [maxLen] at hcap; omega
  have HX := Lib.hid hx
  have HY := Lib.hid hy
  clear hx hy
  go_enter Tryz.func9, Tryz.ntmps9
  go_wp2_with fail
  refine (msane_any _).mono ?_
  rintro e wa ⟨rfl, fa⟩
  have FA := Lib.hid fa
  clear fa
  go_wp2_with fail
  obtain ⟨mN, hmN⟩ : ∃ m : Nat, (min (n : Int) 20).toNat = m := ⟨_, rfl⟩
  have hm1 : mN ≤ 20 ∧ mN ≤ n := by omega
  rw [hmN]
  refine (mindex_any A mN cap wa (by omega) hcap (by
    rcases HX.out with h0 | ⟨bx, ox, h1, h2⟩
    · exact .inl (by omega)
    · exact .inr ⟨bx, ox, h1, (h2.le hm1.2).fr0 FA.out⟩)).mono ?_
  rintro e w1 ⟨b, m, M, qs, v, rfl, hi, hl40, -⟩
  have HI := Lib.hid hi
  have HL40 := Lib.hid hl40
  clear hi HX hl40 hmN hm1
  go_wp2_with fail
  refine (snew_any _).mono ?_
  rintro e ws ⟨rfl, hst, fs⟩
  have HST := Lib.hid hst
  have HFS := Lib.hid fs
  have HSZ : Hid (b ≤ w1.heap.size - 1 ∧ m ≤ w1.heap.size - 1 ∧ 1 ≤ w1.heap.size) := Lib.hid (by have h := HI.out.ix.lt; omega)
  clear hst fs
  obtain ⟨ms, hms⟩ : ∃ x, w1.heap.size = x := ⟨_, rfl⟩
  obtain ⟨bs, hbs⟩ : ∃ x, w1.heap.size + 1 = x := ⟨_, rfl⟩
  have HBM : Hid (ms = w1.heap.size ∧ bs = w1.heap.size + 1) := Lib.hid ⟨hms.symm, hbs.symm⟩
  rw [hbs, hms] at HST
  rw [hbs]
  clear hms hbs
  obtain ⟨A1, n1, c1, hv⟩ : ∃ A n c, v = .slice A n c := (match HI.out.row.val with | ⟨_, _, hv⟩ => ⟨_, _, _, hv⟩)
  subst hv
  have HN1 : Hid (n1 = qs.length) := Lib.hid (HI.out.row.at1 encQ_len).2
  have hn40 : n1 ≤ 40 := by rw [HN1.out]; exact HL40.out
  have hres : (Tryz.prog.info? 71).map (fun i => (i.zero, i.size, i.bytes)) = some (some (.agg #[.slice none 0 0, .int .i64 0, .bool false]), 3, 40) := by kernel_rfl
  obtain ⟨i0, hi0, hz0, hz1, hz2⟩ := info_parts hres
  have HI0 := Lib.hid hi0
  have HZ0 := Lib.hid hz0
  have HZ1 := Lib.hid hz1
  have HZ2 := Lib.hid hz2
  clear hres hi0 hz0 hz1 hz2
  go_upto_region 5 with (at_make; refine wpList_make_full _ rfl _ _ _ rfl 0 _ i0 _ 3 Tryz.underlying75 HI0.out HZ0.out HZ1.out _ _ _ _ n1 rfl rfl rfl rfl (by rw [HZ2.out]; omega) (by simp only [maxLen]; omega) (Nat.zero_le _) ?_; intro wv hown hgv; have HOWN := Lib.hid hown; have HGV : Hid (Fr [] ws wv) := Lib.hid ((Fr.refl [] ws).grown hgv (fun g h => by cases h)); clear hown hgv)
  obtain ⟨gv, hgv⟩ : ∃ x, ws.heap.size = x := ⟨_, rfl⟩
  have HV0 : Hid (VwAt wv gv n1 (List.replicate n1 ⟨none, 0, 0, ⟨[], 0, false⟩⟩)) := Lib.hid (by
    have h := HOWN.out
    rw [hgv] at h
    refine ⟨?_, fun x hx => ?_⟩
    · unfold OwnL
      rw [List.length_replicate, ← flat_views]
      exact h
    · rw [List.eq_of_mem_replicate hx]
      exact ⟨fun hl => absurd hl (by simp), rfl⟩)
  have HGS := Lib.hid hgv
  rw [hgv]
  have MP : Hid (MpAt wa wv b m (.slice A1 n1 c1) M qs bs ms gv n1 (List.replicate n1 ⟨none, 0, 0, ⟨[], 0, false⟩⟩)) := Lib.hid ⟨HI.out.fr0 (HFS.out.trans HGV.out), HST.out.fr0 HGV.out, HV0.out, by
    have h1 := HSZ.out
    have h2 := HBM.out
    have h3 := HGS.out
    have h4 := HST.out.lt
    simp only [List.mem_cons, List.not_mem_nil, or_false]
    omega, by
    have h1 := HI.out.fr.size
    have h2 := HBM.out
    have h3 := HGS.out
    have h4 := HST.out.lt
    omega⟩
  have HFA : Hid (Fr [] wa wv) := Lib.hid MP.out.inx.fr
  clear hgv HI HST HFS HSZ HBM HOWN HGV HV0 HGS HL40 hn hcap
  go_upto_block 0 with (fail)
  go_cut [] (fun wc => ∃ vs : List VR, Hid (MpAt wa wc b m (.slice A1 n1 c1) M qs bs ms gv n1 vs) ∧ Hid (∀ i (h : i < vs.length) (hq : i < qs.length), vs[i].r = Em.of Sm.new qs[i]))
  case first =>
    go_wp2_with fail
    go_loopw [10] (fun i wr => ∃ (k : Nat) (vs : List VR), i = .int .i64 k ∧ k ≤ n1 ∧ Hid (MpAt wa wr b m (.slice A1 n1 c1) M qs bs ms gv n1 vs) ∧ Hid (∀ i (h : i < vs.length) (hq : i < qs.length), i < k → vs[i].r = Em.of Sm.new qs[i])) (fun i _ => n1 - (intOf i).toNat)
    case atStart => exact ⟨0, _, rfl, Nat.zero_le _, MP, Lib.hid (fun i h hq h0 => absurd h0 (by omega))⟩
    case round =>
      clear MP
      obtain ⟨k, vs, rfl, hk, MP, HVI⟩ := hrel
      by_cases hlt : k < n1
      · have hkq : k < qs.length := by rw [← HN1.out]; exact hlt
        have hlt' : (k : Int) < (n1 : Int) := by omega
        obtain ⟨q, hq⟩ : ∃ q, q = qs[k] := ⟨_, rfl⟩
        have HQ := Lib.hid hq
        have HQO : Hid (QrOk q) := Lib.hid (MP.out.inx.ok q (by rw [hq]; exact List.getElem_mem _))
        have HOF := Lib.hid (of8_any MP.out.sta (show Sm.Sound Sm.new from Lg.run_sound []) HQO.out.valid)
        obtain ⟨g7, o7, hA7, hb7, hc7⟩ := (MP.out.inx.row.at1 encQ_len).1 (by omega)
        subst hA7
        have hc7' := hc7 k hkq
        rw [← hq] at hc7'
        have q0 : wr.cell? ⟨g7, o7 + k * 7, none⟩ = some (.int .i64 q.kind) := hc7' 0 (by decide)
        have q1 : wr.cell? ⟨g7, o7 + k * 7 + 1, none⟩ = some (.int .i64 q.table) := hc7' 1 (by decide)
        have q2 : wr.cell? ⟨g7, o7 + k * 7 + 2, none⟩ = some (.int .i64 q.column) := hc7' 2 (by decide)
        have q3 : wr.cell? ⟨g7, o7 + k * 7 + 3, none⟩ = some (.int .i64 q.low) := hc7' 3 (by decide)
        have q4 : wr.cell? ⟨g7, o7 + k * 7 + 4, none⟩ = some (.int .i64 q.high) := hc7' 4 (by decide)
        have q5 : wr.cell? ⟨g7, o7 + k * 7 + 5, none⟩ = some (.int .i64 q.by_) := hc7' 5 (by decide)
        have q6 : wr.cell? ⟨g7, o7 + k * 7 + 6, none⟩ = some (.int .i64 q.other) := hc7' 6 (by decide)
        clear hc7 hc7' hq
        obtain ⟨R, HR⟩ : ∃ R, Hid (Em.of Sm.new q = R) := ⟨_, Lib.hid rfl⟩
        rw [HR.out] at HOF
        go_wp2_with fail
        refine HOF.out.mono ?_
        rintro e wx ⟨Aa, na, ca, rfl, hrw⟩
        have RW := Lib.hid hrw
        have MP2 := Lib.hid (MP.out.fr0 hrw.fr)
        clear hrw HOF q0 q1 q2 q3 q4 q5 q6
        obtain ⟨hg1, hcells, hfz⟩ := MP2.out.vw.form hlt
        have hkv : k < vs.length := by rw [← MP2.out.vw.len]; exact hlt
        have y0 := hcells hkv 0 (by decide)
        have y1 := hcells hkv 1 (by decide)
        have y2 := hcells hkv 2 (by decide)
        simp only [VR.cells, List.getElem?_cons_zero, List.getElem?_cons_succ, Nat.add_zero] at y0 y1 y2
        have z0 := hfz (k * 3)
        have z1 := hfz (k * 3 + 1)
        have z2 := hfz (k * 3 + 2)
        obtain ⟨wn, ewn, hmp⟩ : ∃ wn, ((wx.setCell ⟨gv, k * 3, none⟩ (.slice Aa na ca)).setCell ⟨gv, k * 3 + 1, none⟩ (.int .i64 R.value)).setCell ⟨gv, k * 3 + 2, none⟩ (.bool R.found) = wn ∧ MpAt wa wn b m (.slice (some ⟨g7, o7, none⟩) n1 c1) M qs bs ms gv n1 (vs.set k ⟨Aa, na, ca, R⟩) := ⟨_, rfl, MP2.out.set hlt ⟨Aa, na, ca, R⟩ ⟨RW.out.rows, RW.out.len⟩⟩
        have EWN := Lib.hid ewn
        have MP3 := Lib.hid hmp
        clear ewn hmp hcells hfz hg1
        generalize vs[k].A = vA at *
        generalize vs[k].n = vn at *
        generalize vs[k].c = vc at *
        generalize vs[k].r.value = vv at *
        generalize vs[k].r.found = vf at *
        go_upto_region 7 with (fail)
        rw [EWN.out]
        clear y0 y1 y2 z0 z1 z2 EWN
        go_wp2_with fail
        go_roundw
        case rel => exact ⟨k + 1, _, by go_num, by omega, MP3, Lib.hid (fun i hi hq h0 => by
          rw [List.length_set] at hi
          by_cases e : k = i
          · subst e
            rw [List.getElem_set_self]
            show R = _
            rw [← HR.out, HQ.out]
          · rw [List.getElem_set_ne e]
            exact HVI.out i hi hq (by omega))⟩
        case measure => simp [intOf]; omega
      · obtain rfl : k = n1 := by omega
        go_wp2_with fail
        go_meet
        exact ⟨vs, MP, Lib.hid (fun i h hq => HVI.out i h hq (by rw [HN1.out]; exact hq))⟩
  case rest =>
    clear MP
    obtain ⟨vs0, MP, HVI0⟩ := hcut
    go_wp2_with fail
    refine (mlog_any B nb cb wc hnb hcb (by
      rcases HY.out with h0 | ⟨bx, ox, h1, h2⟩
      · exact .inl h0
      · exact .inr ⟨bx, ox, h1, (h2.fr0 FA.out).fr0 MP.out.inx.fr⟩)).mono ?_
    rintro e w2 ⟨A2, n2, c2, l, rfl, hor, hok, hll, f2, hn2⟩
    have HOK := Lib.hid hok
    have HN2 := Lib.hid hn2
    have hn25 : n2 ≤ 25 := by omega
    have HMG : Hid (MnAt wa w2 b m M [b, m] (.slice A1 n1 c1) qs A2 n2 c2 l bs ms Sm.new) := Lib.hid ⟨MgAt.of MP.out.inx hor f2, MP.out.sta.fr0 f2, ⟨MP.out.nd.1, MP.out.nd.2.1⟩, ⟨MP.out.new.1, MP.out.new.2.1⟩⟩
    have HVW := Lib.hid (MP.out.vw.fr0 f2)
    have HND := Lib.hid (And.intro MP.out.nd.2.2 MP.out.new.2.2)
    clear hor hok hll f2 hn2 MP HY hnb hcb HFA
    have MV : Hid (MvAt wa w2 b m M [b, m] (.slice A1 n1 c1) qs A2 n2 c2 l bs ms Sm.new gv n1 vs0) := Lib.hid ⟨HMG.out, HVW.out, HND.out.1, HND.out.2⟩
    clear HMG HVW HND
    have HVALID : Hid (∀ q ∈ qs, QrOk q) := Lib.hid MV.out.mn.mg.ok
    go_wp2_with fail
    go_loopw [12] (fun i wr => ∃ (k : Nat) (D : List Nat) (vs : List VR), i = .int .i64 k ∧ k ≤ n2 ∧ Hid (MvAt wa wr b m M D (.slice A1 n1 c1) qs A2 n2 c2 l bs ms (Lg.run (l.take k)) gv n1 vs) ∧ Hid (∀ i (h : i < vs.length) (hq : i < qs.length), vs[i].r = Em.of (Lg.run (l.take k)) qs[i])) (fun i _ => n2 - (intOf i).toNat)
    case atStart => exact ⟨0, [b, m], vs0, rfl, Nat.zero_le _, MV, HVI0⟩
    case round =>
      clear MV HVI0
      obtain ⟨k, D, vs, rfl, hk, MV, HVI⟩ := hrel
      by_cases hlt : k < n2
      · have hkl : k < l.length := by rw [← HN2.out]; exact hlt
        have HFIT := Lib.hid (HOK.out.fits k hkl)
        have HSO := Lib.hid (Lg.run_ok (l.take k))
        have HSS := Lib.hid (Lg.run_sound (l.take k))
        have HSO' := Lib.hid (Lg.run_ok (l.take (k + 1)))
        have HSS' := Lib.hid (Lg.run_sound (l.take (k + 1)))
        have HRUN := Lib.hid (Lg.run_succ l hkl)
        have HCK := Lib.hid (HOK.out.okI hkl)
        rw [HRUN.out] at HSS' HSO'
        obtain ⟨s, HS⟩ : ∃ s, Hid (Lg.run (l.take k) = s) := ⟨_, Lib.hid rfl⟩
        obtain ⟨r, HR⟩ : ∃ r, Hid (l[k] = r) := ⟨_, Lib.hid rfl⟩
        rw [HS.out] at HFIT HSO HSS HSS' HSO' MV HRUN HVI
        rw [HR.out] at HFIT HSS' HSO' HRUN HCK
        obtain ⟨nk, hnk⟩ : ∃ n, n = r.cs.length := ⟨_, rfl⟩
        have HNK := Lib.hid hnk
        obtain ⟨pk, hpk⟩ : ∃ n, n = r.p := ⟨_, rfl⟩
        have HPK := Lib.hid hpk
        clear hnk hpk
        have HOP : Hid (∀ (W : World) (D : List Nat), MgAt wa W b m M D (.slice A1 n1 c1) qs A2 n2 c2 l → ∃ bb off Ak ck, A2 = some ⟨bb, off, none⟩ ∧ bb < W.heap.size ∧ W.cell? ⟨bb, off + k * 2, none⟩ = some (.int .i64 pk) ∧ W.cell? ⟨bb, off + k * 2 + 1, none⟩ = some (.slice Ak nk ck) ∧ HoldsC W Ak r.cs ∧ nk ≤ 8) := Lib.hid (fun W D h => by
          obtain ⟨bb, off, Ak, ck, h1, h2, h3, h4, h5, h6⟩ := h.open_ hkl
          rw [HR.out, ← HNK.out] at h4 h6
          rw [HR.out] at h5
          rw [HR.out, ← HPK.out] at h3
          exact ⟨bb, off, Ak, ck, h1, h2, h3, h4, h5, h6⟩)
        obtain ⟨bb, off, Ak, ck, hA, hbb, hc0, hc1, hhc, hl8⟩ := HOP.out _ _ MV.out.mn.mg
        subst hA
        have HAP := Lib.hid (MV.out.apply (cap := ck) hhc (by rw [← HNK.out]; exact hl8) HNK.out HPK.out HFIT.out)
        clear hhc
        go_wp2_with fail
        refine HAP.out.mono ?_
        rintro e w4 ⟨rfl, hmv⟩
        have MV4 := Lib.hid hmv
        clear hmv HAP hc0 hc1 hbb MV
        obtain ⟨bb', off', Ak', ck', hA', hbb, hc0, hc1, hhc, -⟩ := HOP.out _ _ MV4.out.mn.mg
        injection hA' with hA'
        injection hA' with h1 h2
        subst h1 h2
        have HMA := Lib.hid (MV4.out.match_ pk Ak' nk ck' r.cs hhc HNK.out (by omega) HCK.out)
        clear hhc
        go_wp2_with fail
        refine HMA.out.mono ?_
        rintro e w5 ⟨Ao, no, co, L, rfl, hol, hnl, hL, D', hmv⟩
        have MV := Lib.hid hmv
        have HO := Lib.hid hol
        have HNL := Lib.hid hnl
        have HL := Lib.hid hL
        have HASC : Hid (L.Pairwise (· < ·)) := Lib.hid (by rw [hL]; exact Mm.hits_asc (Nat.le_refl _))
        have HVL : Hid (vs.length = qs.length) := Lib.hid (by rw [← hmv.vw.len]; exact HN1.out)
        have HVS : Hid (Vi vs qs L 0 s (Sm.apply s r)) := Lib.hid (Vi.start HVI.out)
        have hno : no ≤ 40 := by
          rw [hnl, hL]
          have := Mm.hits_len (qs := qs) (cs := r.cs) qs.length
          have := HN1.out
          omega
        clear HMA hol hnl hL hmv hc0 hc1 hbb MV4 D HVI
        go_wp2_with fail
        go_loopw [14] (fun i wr => ∃ (k3 : Nat) (vs : List VR), i = .int .i64 k3 ∧ k3 ≤ no ∧ Hid (MvAt wa wr b m M D' (.slice A1 n1 c1) qs (some ⟨bb, off, none⟩) n2 c2 l bs ms (Sm.apply s r) gv n1 vs) ∧ Hid (vs.length = qs.length) ∧ Hid (Vi vs qs L k3 s (Sm.apply s r)) ∧ Hid (OwnL 3 1 encJ wr (.slice Ao no co) L)) (fun i _ => no - (intOf i).toNat)
        case atStart => exact ⟨0, vs, rfl, Nat.zero_le _, MV, HVL, HVS, HO⟩
        case round =>
          clear MV HVL HVS HO
          obtain ⟨k3, vs, rfl, hk3, MV, HVL, HVS, HO⟩ := hrel
          by_cases hlt3 : k3 < no
          · have hkL : k3 < L.length := by rw [← HNL.out]; exact hlt3
            obtain ⟨xn, hxq, hxe, -⟩ := Mm.hits_range HL.out (List.getElem_mem hkL)
            have HXE := Lib.hid hxe
            have hxn : xn < n1 := by rw [HN1.out]; exact hxq
            have hxn' : (xn : Int) < (n1 : Int) := by omega
            have hx0 : decide ((xn : Int) < 0) = false := decide_eq_false (by omega)
            have hx1 : decide (n1 ≤ xn) = false := decide_eq_false (by omega)
            obtain ⟨bo, oo, hAo, hbo, hco⟩ := (HO.out.at1 encJ_len).1.int hkL
            subst hAo
            rw [hxe] at hco
            obtain ⟨q, hq⟩ : ∃ q, q = qs[xn] := ⟨_, rfl⟩
            have HQQ := Lib.hid hq
            have HQO : Hid (QrOk q) := Lib.hid (HVALID.out q (by rw [hq]; exact List.getElem_mem _))
            obtain ⟨g7, o7, hA7, hb7, hc7⟩ := MV.out.mn.mg.query hxq
            rw [← hq] at hc7
            subst hA7
            have q0 : wr.cell? ⟨g7, o7 + xn * 7, none⟩ = some (.int .i64 q.kind) := hc7 0 (by decide)
            have q1 : wr.cell? ⟨g7, o7 + xn * 7 + 1, none⟩ = some (.int .i64 q.table) := hc7 1 (by decide)
            have q2 : wr.cell? ⟨g7, o7 + xn * 7 + 2, none⟩ = some (.int .i64 q.column) := hc7 2 (by decide)
            have q3 : wr.cell? ⟨g7, o7 + xn * 7 + 3, none⟩ = some (.int .i64 q.low) := hc7 3 (by decide)
            have q4 : wr.cell? ⟨g7, o7 + xn * 7 + 4, none⟩ = some (.int .i64 q.high) := hc7 4 (by decide)
            have q5 : wr.cell? ⟨g7, o7 + xn * 7 + 5, none⟩ = some (.int .i64 q.by_) := hc7 5 (by decide)
            have q6 : wr.cell? ⟨g7, o7 + xn * 7 + 6, none⟩ = some (.int .i64 q.other) := hc7 6 (by decide)
            clear hc7 hq hxe
            go_upto_region 22 with (fail)
            clear q0 q1 q2 q3 q4 q5 q6
            have hf6 : Fr [] wr (wr.alloc (.cells #[.int .i64 q.kind, .int .i64 q.table, .int .i64 q.column, .int .i64 q.low, .int .i64 q.high, .int .i64 q.by_, .int .i64 q.other] 35)) := (Fr.refl _ _).alloc _
            have HQB := Lib.hid (QAt.new wr q)
            have MV6 := Lib.hid (MV.out.fr0 hf6)
            have HO6 := Lib.hid (HO.out.fr hf6 (by simp))
            have HCO : Hid ((wr.alloc (.cells #[.int .i64 q.kind, .int .i64 q.table, .int .i64 q.column, .int .i64 q.low, .int .i64 q.high, .int .i64 q.by_, .int .i64 q.other] 35)).cell? ⟨bo, oo + k3, none⟩ = some (.int .i64 (xn : Int))) := Lib.hid ((hf6.rules.1 bo _ hbo).trans hco)
            have HBO : Hid (bo < (wr.alloc (.cells #[.int .i64 q.kind, .int .i64 q.table, .int .i64 q.column, .int .i64 q.low, .int .i64 q.high, .int .i64 q.by_, .int .i64 q.other] 35)).heap.size) := Lib.hid (Nat.lt_of_lt_of_le hbo hf6.size)
            clear hf6 hco hbo hb7 MV HO
            generalize hw6 : wr.alloc (.cells #[.int .i64 q.kind, .int .i64 q.table, .int .i64 q.column, .int .i64 q.low, .int .i64 q.high, .int .i64 q.by_, .int .i64 q.other] 35) = w6 at *
            clear hw6
            generalize wr.heap.size = gq at *
            have HVAT : Hid (vs[xn]'(by rw [HVL.out]; exact hxq) ∈ vs) := Lib.hid (List.getElem_mem _)
            have HRS := Lib.hid (HVS.out.at_ hkL HASC.out HXE.out (by rw [HVL.out]; exact hxq) hxq)
            obtain ⟨-, hvc, -⟩ := MV6.out.vw.form hxn
            have HVC := Lib.hid (hvc (by rw [HVL.out]; exact hxq))
            have HVROW := Lib.hid (MV6.out.vw.rows _ HVAT.out)
            clear hvc HVAT
            obtain ⟨V, hV⟩ : ∃ V, V = vs[xn]'(by rw [HVL.out]; exact hxq) := ⟨_, rfl⟩
            rw [← hV] at HRS HVC HVROW
            clear hV
            obtain ⟨Aa, na, ca, Ra⟩ := V
            rw [← HQQ.out] at HRS
            dsimp only at HRS HVROW
            obtain ⟨Rb, HRb⟩ : ∃ x, Hid (Em.of (Sm.apply s r) q = x) := ⟨_, Lib.hid rfl⟩
            have HRa : Hid (Em.of s q = Ra) := Lib.hid HRS.out.symm
            have HBa := Lib.hid (Em.of_bounds HSO.out HSS.out q)
            rw [HRa.out] at HBa
            have HOKI : Hid (okI q.kind) := Lib.hid (okI_mk (by have := HQO.out.k; omega) (by have := HQO.out.k; omega))
            have HLV := Lib.hid MV6.out.vw.lt
            obtain ⟨bb', off', Ak', ck', hA', hbb, hc0, hc1, hhc, -⟩ := HOP.out _ _ MV6.out.mn.mg
            injection hA' with hA'
            injection hA' with h1 h2
            subst h1 h2
            have hv0 := HVC.out 0 (by decide)
            have hv1 := HVC.out 1 (by decide)
            have hv2 := HVC.out 2 (by decide)
            simp only [VR.cells, List.getElem?_cons_zero, List.getElem?_cons_succ, Nat.add_zero] at hv0 hv1 hv2
            have HSW : Hid (∀ w', Fr [] w6 w' → Blk w' gq 35 #[.int .i64 q.kind, .int .i64 q.table, .int .i64 q.column, .int .i64 q.low, .int .i64 q.high, .int .i64 q.by_, .int .i64 q.other] ∧ w'.cell? ⟨gv, xn * 3, none⟩ = some (.slice Aa na ca) ∧ w'.cell? ⟨gv, xn * 3 + 1, none⟩ = some (.int .i64 Ra.value) ∧ w'.cell? ⟨gv, xn * 3 + 2, none⟩ = some (.bool Ra.found) ∧ w'.cell? ⟨bo, oo + k3, none⟩ = some (.int .i64 (xn : Int)) ∧ w'.cell? ⟨bb, off + k * 2, none⟩ = some (.int .i64 pk) ∧ w'.cell? ⟨bb, off + k * 2 + 1, none⟩ = some (.slice Ak' nk ck')) := Lib.hid (fun w' hf => ⟨HQB.out.fr hf (by simp), (hf.rules.1 gv _ HLV.out).trans hv0, (hf.rules.1 gv _ HLV.out).trans hv1, (hf.rules.1 gv _ HLV.out).trans hv2, (hf.rules.1 bo _ HBO.out).trans HCO.out, (hf.rules.1 bb _ hbb).trans hc0, (hf.rules.1 bb _ hbb).trans hc1⟩)
            have HAR : Hid (∀ w1, Fr [] w6 w1 → Calls Tryz.prog 33 #[q.val, .agg #[.slice Aa na ca, .int .i64 Ra.value, .bool Ra.found], .agg #[.int .i64 pk, .slice Ak' nk ck']] w1 fun e w' => ∃ (r' : Res) (A' : Option Addr) (n' c' : Nat) (t k : Bool), e = .returned (.tuple #[.agg #[.slice A' n' c', .int .i64 r'.value, .bool r'.found], .bool t, .bool k]) ∧ ApAt w1 w' (Pm.apply q Ra r.cs) A' n' r' t k (na + 2 * nk) ∧ Fr [] w6 w') := Lib.hid (fun w1 hf => (apply_vw HOKI.out (HVROW.out.1.fr0 hf) HVROW.out.2 (Nat.le_trans HBa.out.1 (by decide)) (by have := HBa.out.2; omega) (ck := ck') (p := pk) (hhc.fr hf NoC.nil).1 hl8 HNK.out).mono (fun e w' ⟨r', A', n', c', t, k, h1, h2⟩ => ⟨r', A', n', c', t, k, h1, h2, hf.trans h2.fr⟩))
            have s0 := HSW.out _ (Fr.refl [] _)
            clear hc0 hc1 hhc hv0 hv1 hv2 hbb
            go_cut [16, 17, 18] (fun vp vt vk wn => ∃ (gg : Nat) (Rg : Res) (Ag : Option Addr) (ng cg : Nat) (tg kg : Bool), vp = .pointer (some ⟨gg, 0, none⟩) ∧ vt = .bool tg ∧ vk = .bool kg ∧ Hid (AOut (Pm.apply q Ra r.cs) Rg tg kg) ∧ Hid (RvAt wn gg Ag ng cg Rg) ∧ Hid (Fr [] w6 wn) ∧ Hid (w6.heap.size ≤ gg))
            case first =>
              refine wp_region_head (fun W => Blk W gq 35 #[.int .i64 q.kind, .int .i64 q.table, .int .i64 q.column, .int .i64 q.low, .int .i64 q.high, .int .i64 q.by_, .int .i64 q.other] ∧ W.cell? ⟨gv, xn * 3, none⟩ = some (.slice Aa na ca) ∧ W.cell? ⟨gv, xn * 3 + 1, none⟩ = some (.int .i64 Ra.value) ∧ W.cell? ⟨gv, xn * 3 + 2, none⟩ = some (.bool Ra.found) ∧ W.cell? ⟨bo, oo + k3, none⟩ = some (.int .i64 (xn : Int)) ∧ W.cell? ⟨bb, off + k * 2, none⟩ = some (.int .i64 pk) ∧ W.cell? ⟨bb, off + k * 2 + 1, none⟩ = some (.slice Ak' nk ck')) 20 (by kernel_rfl) (by kernel_rfl) (HSW.out _ (Fr.refl [] w6).drew) (fun hHeld => ?_)
              refine wpHead_take (i := 0) (oi := ⟨some 103, _, _, _, _, _⟩) (v := .agg (#[.int .i64 q.kind, .int .i64 q.table, .int .i64 q.column, .int .i64 q.low, .int .i64 q.high, .int .i64 q.by_, .int .i64 q.other])) rfl (by kernel_rfl) (fun _ _ _ h => h) (yieldsIf_load_blk (by rfl) _ _ rfl gq rfl 35 (#[.int .i64 q.kind, .int .i64 q.table, .int .i64 q.column, .int .i64 q.low, .int .i64 q.high, .int .i64 q.by_, .int .i64 q.other]) _ (fun _ h => h.1) Tryz.underlying35 rfl (by kernel_rfl)) hHeld ?_
              try simp only [Act.put, List.setIfInBounds_toArray, List.set_cons_zero, List.set_cons_succ]
              refine wpHead_take (i := 1) (oi := ⟨some 104, _, _, _, _, _⟩) (v := ?_) rfl (by kernel_rfl) (fun _ _ _ h => h) (Or.inl ⟨by rfl, ?_⟩) hHeld ?_
              rotate_left
              · (intro w hSw; (try dsimp only at hSw); go_simp; try with_reducible rfl)
              try simp only [Act.put, List.setIfInBounds_toArray, List.set_cons_zero, List.set_cons_succ]
              refine wpHead_take (i := 2) (oi := ⟨some 105, _, _, _, _, _⟩) (v := ?_) rfl (by kernel_rfl) (fun _ _ _ h => h) (Or.inl ⟨by rfl, ?_⟩) hHeld ?_
              rotate_left
              · (intro w hSw; (try dsimp only at hSw); go_simp; try with_reducible rfl)
              try simp only [Act.put, List.setIfInBounds_toArray, List.set_cons_zero, List.set_cons_succ]
              refine wpHead_take (i := 3) (oi := ⟨some 106, _, _, _, _, _⟩) (v := ?_) rfl (by kernel_rfl) (fun _ _ _ h => h) (Or.inl ⟨by rfl, ?_⟩) hHeld ?_
              rotate_left
              · (intro w hSw; (try dsimp only at hSw); go_simp; try with_reducible rfl)
              try simp only [Act.put, List.setIfInBounds_toArray, List.set_cons_zero, List.set_cons_succ]
              refine wpHead_take (i := 4) (oi := ⟨some 107, _, _, _, _, _⟩) (v := ?_) rfl (by kernel_rfl) (fun _ _ _ h => h) (Or.inl ⟨by rfl, ?_⟩) hHeld ?_
              rotate_left
              · (intro w hSw; (try dsimp only at hSw); go_simp; try with_reducible rfl)
              try simp only [Act.put, List.setIfInBounds_toArray, List.set_cons_zero, List.set_cons_succ]
              refine wpHead_take (i := 5) (oi := ⟨some 108, _, _, _, _, _⟩) (v := ?_) rfl (by kernel_rfl) (fun _ _ _ h => h) (Or.inl ⟨by rfl, ?_⟩) hHeld ?_
              rotate_left
              · (intro w hSw; (try dsimp only at hSw); go_simp; try with_reducible rfl)
              try simp only [Act.put, List.setIfInBounds_toArray, List.set_cons_zero, List.set_cons_succ]
              refine wpHead_take (i := 6) (oi := ⟨some 109, _, _, _, _, _⟩) (v := ?_) rfl (by kernel_rfl) (fun _ _ _ h => h) (Or.inl ⟨by rfl, ?_⟩) hHeld ?_
              rotate_left
              · (intro w hSw; (try dsimp only at hSw); go_simp; try with_reducible rfl)
              try simp only [Act.put, List.setIfInBounds_toArray, List.set_cons_zero, List.set_cons_succ]
              refine wpHead_take (i := 7) (oi := ⟨some 110, _, _, _, _, _⟩) (v := ?_) rfl (by kernel_rfl) (fun _ _ _ h => h) (Or.inl ⟨by rfl, ?_⟩) hHeld ?_
              rotate_left
              · (intro w hSw; (try dsimp only at hSw); go_simp; try with_reducible rfl)
              try simp only [Act.put, List.setIfInBounds_toArray, List.set_cons_zero, List.set_cons_succ]
              refine wpHead_take (i := 8) (oi := ⟨some 111, _, _, _, _, _⟩) (v := ?_) rfl (by kernel_rfl) (fun _ _ _ h => h) (Or.inl ⟨by rfl, ?_⟩) hHeld ?_
              rotate_left
              · (intro w hSw; (try dsimp only at hSw); go_simp; try with_reducible rfl)
              try simp only [Act.put, List.setIfInBounds_toArray, List.set_cons_zero, List.set_cons_succ]
              refine wpHead_take (i := 9) (oi := ⟨some 112, _, _, _, _, _⟩) (v := ?_) rfl (by kernel_rfl) (fun _ _ _ h => h) (Or.inl ⟨by rfl, ?_⟩) hHeld ?_
              rotate_left
              · (intro w hSw; (try dsimp only at hSw); go_simp; try with_reducible rfl)
              try simp only [Act.put, List.setIfInBounds_toArray, List.set_cons_zero, List.set_cons_succ]
              refine wpHead_take (i := 10) (oi := ⟨some 113, _, _, _, _, _⟩) (v := ?_) rfl (by kernel_rfl) (fun _ _ _ h => h) (Or.inl ⟨by rfl, ?_⟩) hHeld ?_
              rotate_left
              · (intro w hSw; (try dsimp only at hSw); go_simp; try with_reducible rfl)
              try simp only [Act.put, List.setIfInBounds_toArray, List.set_cons_zero, List.set_cons_succ]
              refine wpHead_take (i := 11) (oi := ⟨some 114, _, _, _, _, _⟩) (v := ?_) rfl (by kernel_rfl) (fun _ _ _ h => h) (Or.inl ⟨by rfl, ?_⟩) hHeld ?_
              rotate_left
              · (intro w hSw; (try dsimp only at hSw); go_simp; try with_reducible rfl)
              try simp only [Act.put, List.setIfInBounds_toArray, List.set_cons_zero, List.set_cons_succ]
              refine wpHead_two (i := 12) (j := 17) (oi := ⟨some 115, _, _, _, _, _⟩) (oj := ⟨some 16, _, _, _, _, _⟩) rfl rfl (by kernel_rfl) (by decide) (by decide) ?_ ?_
              · refine fun K hK => ?_
                go_simp
                refine (HAR.out _ (Fr.refl [] w6).drew).mono ?_
                rintro e wz ⟨Rg, Ag, ng, cg, tg, kg, rfl, hap, hfz⟩
                have AP := Lib.hid hap
                have FZ := Lib.hid hfz
                refine hK.out _ _ ?_ (fun hHeld => ?_)
                · exact HSW.out _ FZ.out
                clear hK K
                try simp only [Act.put, List.setIfInBounds_toArray, List.set_cons_zero, List.set_cons_succ]
                clear hap hfz
                refine wpHead_take (i := 13) (oi := ⟨some 102, _, _, _, _, _⟩) (v := ?_) rfl (by kernel_rfl) (fun _ _ _ h => h) (Or.inl ⟨by rfl, ?_⟩) hHeld ?_
                rotate_left
                · (intro w hSw; (try dsimp only at hSw); go_simp; try with_reducible rfl)
                try simp only [Act.put, List.setIfInBounds_toArray, List.set_cons_zero, List.set_cons_succ]
                refine wpHead_take (i := 14) (oi := ⟨some 116, _, _, _, _, _⟩) (v := ?_) rfl (by kernel_rfl) (fun _ _ _ h => h) (Or.inl ⟨by rfl, ?_⟩) hHeld ?_
                rotate_left
                · (intro w hSw; (try dsimp only at hSw); go_simp; try with_reducible rfl)
                try simp only [Act.put, List.setIfInBounds_toArray, List.set_cons_zero, List.set_cons_succ]
                refine wpHead_take (i := 15) (oi := ⟨some 117, _, _, _, _, _⟩) (v := ?_) rfl (by kernel_rfl) (fun _ _ _ h => h) (Or.inl ⟨by rfl, ?_⟩) hHeld ?_
                rotate_left
                · (intro w hSw; (try dsimp only at hSw); go_simp; try with_reducible rfl)
                try simp only [Act.put, List.setIfInBounds_toArray, List.set_cons_zero, List.set_cons_succ]
                refine wpHead_take (i := 16) (oi := ⟨some 118, _, _, _, _, _⟩) (v := ?_) rfl (by kernel_rfl) (fun _ _ _ h => h) (Or.inl ⟨by rfl, ?_⟩) hHeld ?_
                rotate_left
                · (intro w hSw; (try dsimp only at hSw); go_simp; try with_reducible rfl)
                try simp only [Act.put, List.setIfInBounds_toArray, List.set_cons_zero, List.set_cons_succ]
                refine wpHead_one (i := 17) (o := ⟨some 16, _, _, _, _, _⟩) rfl (by kernel_rfl) (by decide) (fun K hK => ?_)
                go_simp
                skip
                refine hK.out _ _ ?_ (fun hHeld => ?_)
                · exact HSW.out _ (FZ.out.alloc _)
                clear hK K
                try simp only [Act.put, List.setIfInBounds_toArray, List.set_cons_zero, List.set_cons_succ]
                refine wpHead_one (i := 18) (o := ⟨none, _, _, _, _, _⟩) rfl (by kernel_rfl) (by decide) (fun K hK => ?_)
                go_simp
                skip
                refine hK.out _ _ ?_ (fun hHeld => ?_)
                · exact HSW.out _ (FZ.out.alloc _)
                clear hK K
                try simp only [Act.put, List.setIfInBounds_toArray, List.set_cons_zero, List.set_cons_succ]
                refine wpHead_take (i := 19) (oi := ⟨some 17, _, _, _, _, _⟩) (v := ?_) rfl (by kernel_rfl) (fun _ _ _ h => h) (Or.inl ⟨by rfl, ?_⟩) hHeld ?_
                rotate_left
                · (intro w hSw; (try dsimp only at hSw); go_simp; try with_reducible rfl)
                try simp only [Act.put, List.setIfInBounds_toArray, List.set_cons_zero, List.set_cons_succ]
                refine wpHead_done (by kernel_rfl) ?_
                simp only [List.drop_succ_cons, List.drop_zero]
                go_wp2_with fail
                go_meet
                exact ⟨wz.heap.size, Rg, Ag, ng, cg, tg, kg, rfl, rfl, rfl, Lib.hid AP.out.out, Lib.hid (RvAt.ofA AP.out), Lib.hid (FZ.out.alloc _), Lib.hid FZ.out.size⟩

              · refine fun K hK => ?_
                go_simp
                skip
                refine hK.out _ _ ?_ (fun hHeld => ?_)
                · exact HSW.out _ ((Fr.refl [] w6).drew.alloc _)
                clear hK K
                try simp only [Act.put, List.setIfInBounds_toArray, List.set_cons_zero, List.set_cons_succ]
                refine wpHead_one (i := 12) (o := ⟨some 115, _, _, _, _, _⟩) rfl (by kernel_rfl) (by decide) (fun K hK => ?_)
                go_simp
                refine (HAR.out _ ((Fr.refl [] w6).drew.alloc _)).mono ?_
                rintro e wz ⟨Rg, Ag, ng, cg, tg, kg, rfl, hap, hfz⟩
                have AP := Lib.hid hap
                have FZ := Lib.hid hfz
                have hbz := Blk.fr (w := _) (g := w6.heap.size) (t := 71) (cs := #[.slice none 0 0, .int .i64 0, .bool false]) (Blk.new w6.drew _ _) hap.fr (by simp)
                have z0 := hbz.frozen 0
                have z1 := hbz.frozen 1
                have z2 := hbz.frozen 2
                have u0 := hbz.cell 0
                have u1 := hbz.cell 1
                have u2 := hbz.cell 2
                have HBZ := Lib.hid hbz
                clear hbz hap hfz
                refine hK.out _ _ ?_ (fun hHeld => ?_)
                · exact HSW.out _ FZ.out
                clear hK K
                try simp only [Act.put, List.setIfInBounds_toArray, List.set_cons_zero, List.set_cons_succ]
                refine wpHead_take (i := 13) (oi := ⟨some 102, _, _, _, _, _⟩) (v := ?_) rfl (by kernel_rfl) (fun _ _ _ h => h) (Or.inl ⟨by rfl, ?_⟩) hHeld ?_
                rotate_left
                · (intro w hSw; (try dsimp only at hSw); go_simp; try with_reducible rfl)
                try simp only [Act.put, List.setIfInBounds_toArray, List.set_cons_zero, List.set_cons_succ]
                refine wpHead_take (i := 14) (oi := ⟨some 116, _, _, _, _, _⟩) (v := ?_) rfl (by kernel_rfl) (fun _ _ _ h => h) (Or.inl ⟨by rfl, ?_⟩) hHeld ?_
                rotate_left
                · (intro w hSw; (try dsimp only at hSw); go_simp; try with_reducible rfl)
                try simp only [Act.put, List.setIfInBounds_toArray, List.set_cons_zero, List.set_cons_succ]
                refine wpHead_take (i := 15) (oi := ⟨some 117, _, _, _, _, _⟩) (v := ?_) rfl (by kernel_rfl) (fun _ _ _ h => h) (Or.inl ⟨by rfl, ?_⟩) hHeld ?_
                rotate_left
                · (intro w hSw; (try dsimp only at hSw); go_simp; try with_reducible rfl)
                try simp only [Act.put, List.setIfInBounds_toArray, List.set_cons_zero, List.set_cons_succ]
                refine wpHead_take (i := 16) (oi := ⟨some 118, _, _, _, _, _⟩) (v := ?_) rfl (by kernel_rfl) (fun _ _ _ h => h) (Or.inl ⟨by rfl, ?_⟩) hHeld ?_
                rotate_left
                · (intro w hSw; (try dsimp only at hSw); go_simp; try with_reducible rfl)
                try simp only [Act.put, List.setIfInBounds_toArray, List.set_cons_zero, List.set_cons_succ]
                refine wpHead_one (i := 18) (o := ⟨none, _, _, _, _, _⟩) rfl (by kernel_rfl) (by decide) (fun K hK => ?_)
                go_simp
                skip
                refine hK.out _ _ ?_ (fun hHeld => ?_)
                · exact HSW.out _ (((FZ.out.setCell (.inr (Nat.le_refl _)) _).setCell (.inr (Nat.le_refl _)) _).setCell (.inr (Nat.le_refl _)) _)
                clear hK K
                try simp only [Act.put, List.setIfInBounds_toArray, List.set_cons_zero, List.set_cons_succ]
                refine wpHead_take (i := 19) (oi := ⟨some 17, _, _, _, _, _⟩) (v := ?_) rfl (by kernel_rfl) (fun _ _ _ h => h) (Or.inl ⟨by rfl, ?_⟩) hHeld ?_
                rotate_left
                · (intro w hSw; (try dsimp only at hSw); go_simp; try with_reducible rfl)
                try simp only [Act.put, List.setIfInBounds_toArray, List.set_cons_zero, List.set_cons_succ]
                refine wpHead_done (by kernel_rfl) ?_
                simp only [List.drop_succ_cons, List.drop_zero]
                go_wp2_with fail
                go_meet
                exact ⟨w6.heap.size, Rg, Ag, ng, cg, tg, kg, rfl, rfl, rfl, Lib.hid AP.out.out, Lib.hid (RvAt.ofB AP.out HBZ.out).1, Lib.hid (((FZ.out.setCell (.inr (Nat.le_refl _)) _).setCell (.inr (Nat.le_refl _)) _).setCell (.inr (Nat.le_refl _)) _), Lib.hid (Nat.le_refl _)⟩
            case rest =>
              clear HSW HAR s0
              obtain ⟨gg, Rg, Ag, ng, cg, tg, kg, rfl, rfl, rfl, HAO, RVg, Fg, HGg⟩ := hcut
              have HPT := Lib.hid (Pm.patched HQO.out.valid HSO.out HFIT.out HRa.out HRb.out HAO.out)
              have MV7 := Lib.hid (MV6.out.fr0 Fg.out)
              have HO7 := Lib.hid (HO6.out.fr Fg.out (by simp))
              have HQ7 := Lib.hid (QAt.fr HQB.out Fg.out (by simp))
              have HGD : Hid (gg ∉ D' ∧ gv ≠ gg ∧ wa.heap.size ≤ gg) := Lib.hid (by
                have h1 := HGg.out
                have h2 := HLV.out
                have h3 := MV6.out.mn.mg.fr.size
                refine ⟨fun hm => ?_, by omega, by omega⟩
                have := (MV6.out.mn.mg.dl gg hm).2
                omega)
              clear HAO MV6 HO6 HQB HCO HBO HRS HVC HVROW HRa HBa HLV Fg HGg
              cases kg
              · have hq0 := HQ7.out.c0
                have hq1 := HQ7.out.c1
                have hq2 := HQ7.out.c2
                have hq3 := HQ7.out.c3
                have hq4 := HQ7.out.c4
                have hq5 := HQ7.out.c5
                have hq6 := HQ7.out.c6
                have HOB := Lib.hid (of8_any MV7.out.mn.sta HSS'.out HQO.out.valid)
                rw [HRb.out] at HOB
                go_wp2_with fail
                refine HOB.out.mono ?_
                rintro e wx ⟨Ac, nc, cc, rfl, hrw⟩
                have RVx := Lib.hid (RVg.out.fr0 hrw.fr)
                have MVx := Lib.hid (MV7.out.fr0 hrw.fr)
                have HOx := Lib.hid (HO7.out.fr hrw.fr (by simp))
                have RW := Lib.hid hrw
                clear hrw HOB hq0 hq1 hq2 hq3 hq4 hq5 hq6 MV7 HO7 RVg
                have u0 := RVx.out.blk.c0
                have u1 := RVx.out.blk.c1
                have u2 := RVx.out.blk.c2
                have z0 := Blk.frozen RVx.out.blk 0
                have z1 := Blk.frozen RVx.out.blk 1
                have z2 := Blk.frozen RVx.out.blk 2
                obtain ⟨w8, e8, hrv, hmv, hho⟩ : ∃ w8, ((wx.setCell ⟨gg, 0, none⟩ (.slice Ac nc cc)).setCell ⟨gg, 1, none⟩ (.int .i64 Rb.value)).setCell ⟨gg, 2, none⟩ (.bool Rb.found) = w8 ∧ RvAt w8 gg Ac nc cc Rb ∧ MvAt wa w8 b m M D' (.slice (some ⟨g7, o7, none⟩) n1 c1) qs (some ⟨bb, off, none⟩) n2 c2 l bs ms (Sm.apply s r) gv n1 vs ∧ OwnL 3 1 encJ w8 (.slice (some ⟨bo, oo, none⟩) no co) L := by
                  obtain ⟨h1, h2⟩ := set3 (v' := .slice Ac nc cc) (m' := Rb.value) (f' := Rb.found) RVx.out.blk
                  exact ⟨_, rfl, ⟨h1, RW.out.rows.ne_small RVx.out.blk (by simp) h2, RW.out.len⟩, MVx.out.box RVx.out.blk (by simp) h2 HGD.out.1 HGD.out.2.1 HGD.out.2.2, HOx.out.fr h2 (fun g hg e => by
                    rw [List.mem_singleton] at e
                    exact HOx.out.ne RVx.out.blk (by decide) hg e)⟩
                have E8 := Lib.hid e8
                have RV := Lib.hid hrv
                have MV := Lib.hid hmv
                have HO := Lib.hid hho
                clear e8 hrv hmv hho
                go_upto_region 25 with (fail)
                rw [E8.out]
                clear u0 u1 u2 z0 z1 z2 E8 RVx MVx HOx RW
                obtain ⟨hg1, hcells, hfz⟩ := MV.out.vw.form hxn
                have hxv : xn < vs.length := by rw [← MV.out.vw.len]; exact hxn
                have y0 := hcells hxv 0 (by decide)
                have y1 := hcells hxv 1 (by decide)
                have y2 := hcells hxv 2 (by decide)
                simp only [VR.cells, List.getElem?_cons_zero, List.getElem?_cons_succ, Nat.add_zero] at y0 y1 y2
                have z0 := hfz (xn * 3)
                have z1 := hfz (xn * 3 + 1)
                have z2 := hfz (xn * 3 + 2)
                obtain ⟨bo', oo', hAo', -, hco⟩ := (HO.out.at1 encJ_len).1.int hkL
                injection hAo' with hAo'
                injection hAo' with h1 h2
                subst h1 h2
                rw [HXE.out] at hco
                have r0 := RV.out.blk.c0
                have r1 := RV.out.blk.c1
                have r2 := RV.out.blk.c2
                obtain ⟨wn, ewn, hmv, hfn⟩ : ∃ wn, ((w8.setCell ⟨gv, xn * 3, none⟩ (.slice Ac nc cc)).setCell ⟨gv, xn * 3 + 1, none⟩ (.int .i64 Rb.value)).setCell ⟨gv, xn * 3 + 2, none⟩ (.bool Rb.found) = wn ∧ MvAt wa wn b m M D' (.slice (some ⟨g7, o7, none⟩) n1 c1) qs (some ⟨bb, off, none⟩) n2 c2 l bs ms (Sm.apply s r) gv n1 (vs.set xn ⟨Ac, nc, cc, Rb⟩) ∧ Fr [gv] w8 wn := ⟨_, rfl, MV.out.set hxn ⟨Ac, nc, cc, Rb⟩ ⟨RV.out.rows, RV.out.len⟩⟩
                have EWN := Lib.hid ewn
                have MV9 := Lib.hid hmv
                have HO9 : Hid (OwnL 3 1 encJ wn (.slice (some ⟨bo, oo, none⟩) no co) L) := Lib.hid (HO.out.fr hfn (fun g hg e => by
                  rw [List.mem_singleton] at e
                  rw [e] at hg
                  exact own_own HO.out MV.out.vw.own (by decide) hg VwAt.ob))
                clear ewn hmv hfn hcells hfz hg1
                generalize vs[xn].A = vA at *
                generalize vs[xn].n = vn at *
                generalize vs[xn].c = vc at *
                generalize vs[xn].r.value = vv at *
                generalize vs[xn].r.found = vf at *
                go_wp2_with fail
                go_region
                all_goals
                  rw [EWN.out]
                  go_wp2_with fail
                  go_roundw
                  case rel => exact ⟨k3 + 1, _, by go_num, by omega, Lib.hid (MV9.out.fr0 (Fr.refl [] wn).drew), Lib.hid (by rw [List.length_set]; exact HVL.out), Lib.hid (HVS.out.step hkL HXE.out hxq _ (by rw [← HQQ.out]; exact HRb.out.symm)), Lib.hid (HO9.out.fr (Fr.refl [] wn).drew (by simp))⟩
                  case measure => simp [intOf]; omega
              · have hRg : Rg = Rb := HPT.out.1 rfl
                subst hRg
                have RV := RVg
                have MV := MV7
                have HO := HO7
                clear RVg MV7 HO7
                go_upto_region 25 with (fail)
                obtain ⟨hg1, hcells, hfz⟩ := MV.out.vw.form hxn
                have hxv : xn < vs.length := by rw [← MV.out.vw.len]; exact hxn
                have y0 := hcells hxv 0 (by decide)
                have y1 := hcells hxv 1 (by decide)
                have y2 := hcells hxv 2 (by decide)
                simp only [VR.cells, List.getElem?_cons_zero, List.getElem?_cons_succ, Nat.add_zero] at y0 y1 y2
                have z0 := hfz (xn * 3)
                have z1 := hfz (xn * 3 + 1)
                have z2 := hfz (xn * 3 + 2)
                obtain ⟨bo', oo', hAo', -, hco⟩ := (HO.out.at1 encJ_len).1.int hkL
                injection hAo' with hAo'
                injection hAo' with h1 h2
                subst h1 h2
                rw [HXE.out] at hco
                have r0 := RV.out.blk.c0
                have r1 := RV.out.blk.c1
                have r2 := RV.out.blk.c2
                obtain ⟨wn, ewn, hmv, hfn⟩ : ∃ wn, ((wc.setCell ⟨gv, xn * 3, none⟩ (.slice Ag ng cg)).setCell ⟨gv, xn * 3 + 1, none⟩ (.int .i64 Rg.value)).setCell ⟨gv, xn * 3 + 2, none⟩ (.bool Rg.found) = wn ∧ MvAt wa wn b m M D' (.slice (some ⟨g7, o7, none⟩) n1 c1) qs (some ⟨bb, off, none⟩) n2 c2 l bs ms (Sm.apply s r) gv n1 (vs.set xn ⟨Ag, ng, cg, Rg⟩) ∧ Fr [gv] wc wn := ⟨_, rfl, MV.out.set hxn ⟨Ag, ng, cg, Rg⟩ ⟨RV.out.rows, RV.out.len⟩⟩
                have EWN := Lib.hid ewn
                have MV9 := Lib.hid hmv
                have HO9 : Hid (OwnL 3 1 encJ wn (.slice (some ⟨bo, oo, none⟩) no co) L) := Lib.hid (HO.out.fr hfn (fun g hg e => by
                  rw [List.mem_singleton] at e
                  rw [e] at hg
                  exact own_own HO.out MV.out.vw.own (by decide) hg VwAt.ob))
                clear ewn hmv hfn hcells hfz hg1
                generalize vs[xn].A = vA at *
                generalize vs[xn].n = vn at *
                generalize vs[xn].c = vc at *
                generalize vs[xn].r.value = vv at *
                generalize vs[xn].r.found = vf at *
                go_wp2_with fail
                go_region
                all_goals
                  rw [EWN.out]
                  go_wp2_with fail
                  go_roundw
                  case rel => exact ⟨k3 + 1, _, by go_num, by omega, Lib.hid (MV9.out.fr0 (Fr.refl [] wn).drew), Lib.hid (by rw [List.length_set]; exact HVL.out), Lib.hid (HVS.out.step hkL HXE.out hxq _ (by rw [← HQQ.out]; exact HRb.out.symm)), Lib.hid (HO9.out.fr (Fr.refl [] wn).drew (by simp))⟩
                  case measure => simp [intOf]; omega
          · obtain rfl : k3 = no := by omega
            have HVF := Lib.hid (Vi.done (by rw [← HNL.out]; exact HVS.out) HL.out HSO.out HFIT.out (fun q hq => (HVALID.out q hq).valid))
            clear HVS HO
            go_wp2_with fail
            go_loopw [19] (fun i w4 => ∃ k4 : Nat, i = .int .i64 k4 ∧ k4 ≤ n1 ∧ Hid (MvAt wa w4 b m M D' (.slice A1 n1 c1) qs (some ⟨bb, off, none⟩) n2 c2 l bs ms (Sm.apply s r) gv n1 vs)) (fun i _ => n1 - (intOf i).toNat)
            case atStart => exact ⟨0, rfl, Nat.zero_le _, MV⟩
            case round =>
              clear MV
              obtain ⟨k4, rfl, hk4, MV⟩ := hrel
              by_cases hlt4 : k4 < n1
              · have hkq : k4 < qs.length := by rw [← HN1.out]; exact hlt4
                have hkv : k4 < vs.length := by rw [HVL.out]; exact hkq
                have hlt4' : (k4 : Int) < (n1 : Int) := by omega
                obtain ⟨q, hq⟩ : ∃ q, q = qs[k4] := ⟨_, rfl⟩
                have HQQ := Lib.hid hq
                have HQO : Hid (QrOk q) := Lib.hid (HVALID.out q (by rw [hq]; exact List.getElem_mem _))
                have HVE := Lib.hid (HVF.out k4 hkv hkq)
                rw [← hq] at HVE
                obtain ⟨Rb, HRb⟩ : ∃ x, Hid (Em.of (Sm.apply s r) q = x) := ⟨_, Lib.hid rfl⟩
                have HBb := Lib.hid (Em.of_bounds HSO'.out HSS'.out q)
                have HOB := Lib.hid (of8_any MV.out.mn.sta HSS'.out HQO.out.valid)
                rw [HRb.out] at HBb HOB HVE
                obtain ⟨g7, o7, hA7, hb7, hc7⟩ := MV.out.mn.mg.query hkq
                rw [← hq] at hc7
                subst hA7
                have q0 : wr.cell? ⟨g7, o7 + k4 * 7, none⟩ = some (.int .i64 q.kind) := hc7 0 (by decide)
                have q1 : wr.cell? ⟨g7, o7 + k4 * 7 + 1, none⟩ = some (.int .i64 q.table) := hc7 1 (by decide)
                have q2 : wr.cell? ⟨g7, o7 + k4 * 7 + 2, none⟩ = some (.int .i64 q.column) := hc7 2 (by decide)
                have q3 : wr.cell? ⟨g7, o7 + k4 * 7 + 3, none⟩ = some (.int .i64 q.low) := hc7 3 (by decide)
                have q4 : wr.cell? ⟨g7, o7 + k4 * 7 + 4, none⟩ = some (.int .i64 q.high) := hc7 4 (by decide)
                have q5 : wr.cell? ⟨g7, o7 + k4 * 7 + 5, none⟩ = some (.int .i64 q.by_) := hc7 5 (by decide)
                have q6 : wr.cell? ⟨g7, o7 + k4 * 7 + 6, none⟩ = some (.int .i64 q.other) := hc7 6 (by decide)
                clear hc7 hq
                go_wp2_with fail
                refine HOB.out.mono ?_
                rintro e wx ⟨Ab, nb2, cb2, rfl, hrw⟩
                have RVb := Lib.hid (RvAt.of (c := cb2) hrw)
                have MV8 := Lib.hid (MV.out.fr0 (hrw.fr.trans ((Fr.refl [] wx).alloc (.cells #[.slice Ab nb2 cb2, .int .i64 Rb.value, .bool Rb.found] 71))))
                clear hrw HOB q0 q1 q2 q3 q4 q5 q6
                go_upto_region 30 with (fail)
                generalize hw8 : wx.alloc (.cells #[.slice Ab nb2 cb2, .int .i64 Rb.value, .bool Rb.found] 71) = w8 at *
                clear hw8
                generalize wx.heap.size = gb at *
                obtain ⟨hg1, hcells, -⟩ := MV8.out.vw.form hlt4
                have hvr := MV8.out.vw.rows _ (List.getElem_mem hkv)
                have h0 := hcells hkv 0 (by decide)
                have h1 := hcells hkv 1 (by decide)
                have h2 := hcells hkv 2 (by decide)
                simp only [VR.cells, List.getElem?_cons_zero, List.getElem?_cons_succ, Nat.add_zero] at h0 h1 h2
                have HVR := Lib.hid hvr
                clear hcells hvr
                generalize vs[k4] = V at *
                obtain ⟨Av, nv, cv, Rv⟩ := V
                dsimp only at h0 h1 h2 HVR HVE
                have hrr := HVE.out
                subst hrr
                clear HVE
                have v0 : ∀ p : Later w8, p.w.cell? ⟨gv, k4 * 3, none⟩ = some (.slice Av nv cv) := fun p => p.cell hg1 h0
                have v1 : ∀ p : Later w8, p.w.cell? ⟨gv, k4 * 3 + 1, none⟩ = some (.int .i64 Rv.value) := fun p => p.cell hg1 h1
                have v2 : ∀ p : Later w8, p.w.cell? ⟨gv, k4 * 3 + 2, none⟩ = some (.bool Rv.found) := fun p => p.cell hg1 h2
                have u0 : ∀ p : Later w8, p.w.cell? ⟨gb, 0, none⟩ = some (.slice Ab nb2 cb2) := fun p => p.cell (Blk.lt RVb.out.blk) RVb.out.blk.c0
                have u1 : ∀ p : Later w8, p.w.cell? ⟨gb, 1, none⟩ = some (.int .i64 Rv.value) := fun p => p.cell (Blk.lt RVb.out.blk) RVb.out.blk.c1
                have u2 : ∀ p : Later w8, p.w.cell? ⟨gb, 2, none⟩ = some (.bool Rv.found) := fun p => p.cell (Blk.lt RVb.out.blk) RVb.out.blk.c2
                have HSM : Hid (∀ p : Later w8, Calls Tryz.prog 32 #[.agg #[.slice Av nv cv, .int .i64 Rv.value, .bool Rv.found], .agg #[.slice Ab nb2 cb2, .int .i64 Rv.value, .bool Rv.found]] p.w fun e w' => e = .returned (.bool true) ∧ Fr [] p.w w') := Lib.hid (fun p => (esame_any Av nv cv Rv.value Rv.found Rv.rows Ab nb2 cb2 Rv.value Rv.found Rv.rows p.w (HVR.out.1.fr0 p.fr) HVR.out.2 (RVb.out.rows.fr0 p.fr) RVb.out.len (by rw [HVR.out.2]; exact HBb.out.1) (by rw [RVb.out.len]; exact HBb.out.1)).mono (fun e w' ⟨h1, h2⟩ => ⟨by rw [h1, decide_eq_true rfl], h2⟩))
                clear h0 h1 h2 hg1
                go_wp2_with fail
                refine wp_region_later (by kernel_rfl) (by kernel_rfl) ?_
                repeat (go_big_quiet_step (exact Later.calls (HSM.out _)))
                refine wpQuiet_nil ?_
                rintro w' ⟨⟨w9, fq⟩, rfl⟩
                have MV9 := Lib.hid (MV8.out.fr0 fq)
                clear fq HSM v0 v1 v2 u0 u1 u2
                go_wp2_with fail
                go_roundw
                case rel => exact ⟨k4 + 1, by go_num, by omega, MV9⟩
                case measure => simp [intOf]; omega
              · have MV9 := MV
                clear MV
                rw [← HRUN.out] at MV9 HVF
                go_wp2_with fail
                go_roundw
                case rel => exact ⟨k + 1, D', vs, by go_num, by omega, MV9, HVF⟩
                case measure => simp [intOf]; omega
      · go_wp2_with fail
        go_ret
        exact ⟨rfl, (FA.out.trans MV.out.mn.mg.fr).below⟩
end Go.Proofs.YtciaallekkdnhaaGreat
