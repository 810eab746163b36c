/-
  MatchScans: the walk of the law.
-/
import Derived.Test.YtciaallekkdnhaaGreatMuB
import Derived.Test.YtciaallekkdnhaaGreatJc
import Derived.Deep.DeepCutAuto
import Derived.Deep.CutBlock
import Derived.StillTailTactics
namespace Go.Proofs.YtciaallekkdnhaaGreat
open Go.RowKit

set_option maxRecDepth 100000 in
set_option maxHeartbeats 8000000 in
theorem scans_walk (A : Option Addr) (n cap : Nat) (B : Option Addr) (nb cb : Nat) (w : World) (hn : n ≤ cap) (hcap : cap ≤ maxLen) (hx : n = 0 ∨ ∃ bx ox, A = some ⟨bx, ox, none⟩ ∧ FivAt w bx ox n) (hnb : nb ≤ cb) (hcb : cb ≤ maxLen) (hy : nb = 0 ∨ ∃ bx ox, B = some ⟨bx, ox, none⟩ ∧ SixAt w bx ox nb) :
    Calls Tryz.prog 4 #[.slice A n cap, .slice B nb cb] w fun e w' => e = .returned (.bool true) ∧ Below w.heap.size w w' := by
  have HX := Lib.hid hx
  have HY := Lib.hid hy
  clear hx hy
  go_enter Tryz.func4, Tryz.ntmps4
  go_wp2_with fail
  refine (msane_any _).mono ?_
  rintro e wa ⟨rfl, fa⟩
  have FA := Lib.hid fa
  clear fa
  go_wp2_with fail
  refine (mindex_any A n cap wa hn hcap (by
    rcases HX.out with h0 | ⟨bx, ox, h1, h2⟩
    · exact .inl h0
    · exact .inr ⟨bx, ox, h1, h2.fr0 FA.out⟩)).mono ?_
  rintro e w1 ⟨b, m, M, qs, v, rfl, hi, hl40, -⟩
  have HI := Lib.hid hi
  have HL40 := Lib.hid hl40
  clear hi HX hl40
  go_wp2_with fail
  refine (mlog_any B nb cb w1 hnb hcb (by
    rcases HY.out with h0 | ⟨bx, ox, h1, h2⟩
    · exact .inl h0
    · exact .inr ⟨bx, ox, h1, (h2.fr0 FA.out).fr0 HI.out.fr⟩)).mono ?_
  rintro e w2 ⟨A2, n2, c2, l, rfl, hor, hok, hll, f2, hn2⟩
  obtain ⟨A1, n1, c1, hv⟩ : ∃ A n c, v = .slice A n c := (match HI.out.row.val with | ⟨_, _, hv⟩ => ⟨_, _, _, hv⟩)
  subst hv
  have MG : Hid (MgAt wa w2 b m M [b, m] (.slice A1 n1 c1) qs A2 n2 c2 l) := Lib.hid (MgAt.of HI.out hor f2)
  have HOK := Lib.hid hok
  have HN2 := Lib.hid hn2
  have HN1 : Hid (n1 = qs.length) := Lib.hid MG.out.len1
  have hn25 : n2 ≤ 25 := by omega
  have hn40 : n1 ≤ 40 := by rw [HN1.out]; exact HL40.out
  clear hor hok hll f2 hn2 HI HY HL40 hn hcap hnb hcb
  go_wp2_with fail
  go_loopw [9] (fun i wr => ∃ (k : Nat) (D : List Nat), i = .int .i64 k ∧ k ≤ n2 ∧ Hid (MgAt wa wr b m M D (.slice A1 n1 c1) qs A2 n2 c2 l)) (fun i _ => n2 - (intOf i).toNat)
  case atStart => exact ⟨0, [b, m], rfl, Nat.zero_le _, MG⟩
  case round =>
    clear MG
    obtain ⟨k, D, rfl, hk, MG⟩ := hrel
    by_cases hlt : k < n2
    · have hkl : k < l.length := by rw [← HN2.out]; exact hlt
      obtain ⟨bb, off, Ak, ck, hA, hbb, hc0, hc1, hhc, hl8⟩ := MG.out.open_ hkl
      subst hA
      obtain ⟨cs, hcs⟩ : ∃ cs, cs = l[k].cs := ⟨_, rfl⟩
      rw [← hcs] at hc1 hhc hl8
      have HCK := Lib.hid (HOK.out.okI hkl)
      rw [← hcs] at HCK
      have HCS := Lib.hid hcs
      obtain ⟨nk, hnk⟩ : ∃ n, n = cs.length := ⟨_, rfl⟩
      rw [← hnk] at hc1 hl8
      have HNK := Lib.hid hnk
      obtain ⟨pk, hpk⟩ : ∃ n, n = l[k].p := ⟨_, rfl⟩
      rw [← hpk] at hc0
      have HM := Lib.hid (MG.out.match_ pk Ak nk ck cs hhc HNK.out (by omega) HCK.out)
      clear hcs hnk hhc hpk
      go_wp2_with fail
      refine HM.out.mono ?_
      rintro e w3 ⟨Ao, no, co, L, rfl, hol, hnl, hL, -, D', hmg, -⟩
      replace MG := Lib.hid hmg
      have HO := Lib.hid hol
      have HNL := Lib.hid hnl
      have HL := Lib.hid hL
      have hno : no ≤ 40 := by
        rw [hnl, hL]
        have := Mm.hits_len (qs := qs) (cs := cs) qs.length
        have := HN1.out
        omega
      clear HM hol hnl hL hmg hc0 hc1 hbb
      clear D
      go_wp2_with fail
      go_loopw [11, 12] (fun a i wr => ∃ (j p : Nat), a = .int .i64 p ∧ i = .int .i64 j ∧ j ≤ n1 ∧ p ≤ 40 ∧ Hid (p = (Mm.hits qs cs j).length) ∧ Hid (Fr [] w3 wr)) (fun _ i _ => n1 - (intOf i).toNat)
      case atStart => exact ⟨0, 0, rfl, rfl, Nat.zero_le _, by decide, Lib.hid rfl, Lib.hid (Fr.refl _ _)⟩
      case round =>
        obtain ⟨j, p, rfl, rfl, hj, hp40, HP, HF⟩ := hrel
        by_cases hjl : j < n1
        · have hjq : j < qs.length := by rw [← HN1.out]; exact hjl
          obtain ⟨q, hq⟩ : ∃ q, q = qs[j] := ⟨_, rfl⟩
          have HQ := Lib.hid hq
          clear hq
          go_wp2_with fail
          go_loopw [13, 14] (fun t i wr => ∃ (z : Nat) (tb : Bool), t = .bool tb ∧ i = .int .i64 z ∧ z ≤ nk ∧ Hid (tb = (cs.take z).any (Pm.touches q)) ∧ Hid (Fr [] w3 wr)) (fun _ i _ => nk - (intOf i).toNat)
          case atStart => exact ⟨0, false, rfl, rfl, Nat.zero_le _, Lib.hid (by simp), HF⟩
          case round =>
            obtain ⟨z, tb, rfl, rfl, hz, HTB, FI⟩ := hrel
            have MG2 := Lib.hid (MG.out.fr0 FI.out)
            obtain ⟨bb', off', Ak', ck', hA', hbb2, hc0, hc1, hhc, _⟩ := MG2.out.open_ hkl
            rw [← HCS.out] at hc1 hhc
            rw [← HNK.out] at hc1
            have eA : bb' = bb ∧ off' = off := by
              injection hA' with hA'
              injection hA' with h1 h2
              exact ⟨h1.symm, h2.symm⟩
            obtain ⟨rfl, rfl⟩ := eA
            clear hA' hc0
            by_cases hlt2 : z < nk
            · have hil : z < cs.length := by rw [← HNK.out]; exact hlt2
              obtain ⟨b3, off3, hA3, hb3, hc3⟩ := hhc.1 (by omega)
              subst hA3
              have hcc := Lib.hid (fun j (hj : j < 10) => hc3 z hil j hj)
              have HAN := Lib.hid (any_succ8 (Pm.touches q) hil)
              rw [← HTB.out] at HAN
              clear hc3 hhc
              obtain ⟨c, HC⟩ : ∃ c, Hid (cs[z] = c) := ⟨_, Lib.hid rfl⟩
              rw [HC.out] at hcc HAN
              have HQO : Hid (QrOk q) := Lib.hid (MG.out.ok q (by rw [HQ.out]; exact List.getElem_mem _))
              have HTC := Lib.hid (fun W => touches_any q c (okI_mk (by have := HQO.out.k; omega) (by have := HQO.out.k; omega)) W)
              obtain ⟨tc, HTCB⟩ : ∃ b, Hid (Pm.touches q c = b) := ⟨_, Lib.hid rfl⟩
              rw [HTCB.out] at HTC HAN
              obtain ⟨g7, o7, hA7, hb7, hc7⟩ := MG2.out.query hjq
              subst hA7
              rw [← HQ.out] at hc7
              have q0 : ∀ p : Later wr, p.w.cell? ⟨g7, o7 + j * 7, none⟩ = some (.int .i64 q.kind) := fun p => p.cell hb7 (hc7 0 (by decide))
              have q1 : ∀ p : Later wr, p.w.cell? ⟨g7, o7 + j * 7 + 1, none⟩ = some (.int .i64 q.table) := fun p => p.cell hb7 (hc7 1 (by decide))
              have q2 : ∀ p : Later wr, p.w.cell? ⟨g7, o7 + j * 7 + 2, none⟩ = some (.int .i64 q.column) := fun p => p.cell hb7 (hc7 2 (by decide))
              have q3 : ∀ p : Later wr, p.w.cell? ⟨g7, o7 + j * 7 + 3, none⟩ = some (.int .i64 q.low) := fun p => p.cell hb7 (hc7 3 (by decide))
              have q4 : ∀ p : Later wr, p.w.cell? ⟨g7, o7 + j * 7 + 4, none⟩ = some (.int .i64 q.high) := fun p => p.cell hb7 (hc7 4 (by decide))
              have q5 : ∀ p : Later wr, p.w.cell? ⟨g7, o7 + j * 7 + 5, none⟩ = some (.int .i64 q.by_) := fun p => p.cell hb7 (hc7 5 (by decide))
              have q6 : ∀ p : Later wr, p.w.cell? ⟨g7, o7 + j * 7 + 6, none⟩ = some (.int .i64 q.other) := fun p => p.cell hb7 (hc7 6 (by decide))
              have y0 : ∀ p : Later wr, p.w.cell? ⟨b3, off3 + z * 10, none⟩ = some (.int .i64 c.t) := fun p => p.cell hb3 (hcc.out 0 (by decide))
              have y1 : ∀ p : Later wr, p.w.cell? ⟨b3, off3 + z * 10 + 1, none⟩ = some (.int .i64 c.k) := fun p => p.cell hb3 (hcc.out 1 (by decide))
              have y2 : ∀ p : Later wr, p.w.cell? ⟨b3, off3 + z * 10 + 2, none⟩ = some (.bool c.had) := fun p => p.cell hb3 (hcc.out 2 (by decide))
              have y3 : ∀ p : Later wr, p.w.cell? ⟨b3, off3 + z * 10 + 3, none⟩ = some (.int .i64 c.o0) := fun p => p.cell hb3 (hcc.out 3 (by decide))
              have y4 : ∀ p : Later wr, p.w.cell? ⟨b3, off3 + z * 10 + 4, none⟩ = some (.int .i64 c.o1) := fun p => p.cell hb3 (hcc.out 4 (by decide))
              have y5 : ∀ p : Later wr, p.w.cell? ⟨b3, off3 + z * 10 + 5, none⟩ = some (.int .i64 c.o2) := fun p => p.cell hb3 (hcc.out 5 (by decide))
              have y6 : ∀ p : Later wr, p.w.cell? ⟨b3, off3 + z * 10 + 6, none⟩ = some (.bool c.has) := fun p => p.cell hb3 (hcc.out 6 (by decide))
              have y7 : ∀ p : Later wr, p.w.cell? ⟨b3, off3 + z * 10 + 7, none⟩ = some (.int .i64 c.n0) := fun p => p.cell hb3 (hcc.out 7 (by decide))
              have y8 : ∀ p : Later wr, p.w.cell? ⟨b3, off3 + z * 10 + 8, none⟩ = some (.int .i64 c.n1) := fun p => p.cell hb3 (hcc.out 8 (by decide))
              have y9 : ∀ p : Later wr, p.w.cell? ⟨b3, off3 + z * 10 + 9, none⟩ = some (.int .i64 c.n2) := fun p => p.cell hb3 (hcc.out 9 (by decide))
              have hs1 : ∀ p : Later wr, p.w.cell? ⟨bb', off' + k * 2 + 1, none⟩ = some (.slice (some ⟨b3, off3, none⟩) nk ck') := fun p => p.cell hbb2 hc1
              clear hcc hc7
              cases tb
              · go_wp2_with fail
                clear hc1
                refine wp_region_later (by kernel_rfl) (by kernel_rfl) ?_
                repeat (go_big_quiet_step (exact Later.calls (HTC.out _)))
                refine wpQuiet_nil ?_
                rintro w' ⟨⟨wz, fq⟩, rfl⟩
                have FI2 := Lib.hid (FI.out.trans fq)
                clear fq FI HTC hs1 hb3 hbb2 q0 q1 q2 q3 q4 q5 q6 y0 y1 y2 y3 y4 y5 y6 y7 y8 y9
                go_wp2_with fail
                go_roundw
                case rel => exact ⟨z + 1, tc, rfl, by go_num, by omega, Lib.hid (by rw [HAN.out]; rfl), FI2⟩
                case measure => simp [intOf]; omega
              · go_wp2_with fail
                clear hc1
                refine wp_region_later (by kernel_rfl) (by kernel_rfl) ?_
                repeat (go_big_quiet_step (exact Later.calls (HTC.out _)))
                refine wpQuiet_nil ?_
                rintro w' ⟨⟨wz, fq⟩, rfl⟩
                have FI2 := Lib.hid (FI.out.trans fq)
                clear fq FI HTC hs1 hb3 hbb2 q0 q1 q2 q3 q4 q5 q6 y0 y1 y2 y3 y4 y5 y6 y7 y8 y9
                go_wp2_with fail
                go_roundw
                case rel => exact ⟨z + 1, true, rfl, by go_num, by omega, Lib.hid (by rw [HAN.out]; rfl), FI2⟩
                case measure => simp [intOf]; omega
            · obtain rfl : z = nk := by omega
              have HTA : Hid (tb = cs.any (Pm.touches q)) := Lib.hid (by rw [HTB.out, List.take_of_length_le (by rw [← HNK.out]; exact Nat.le_refl _)])
              clear hhc HTB MG2
              rw [HQ.out] at HTA
              cases tb
              · have HMI := Lib.hid (Mm.next_miss HL.out hjq HTA.out.symm)
                go_wp2_with fail
                go_roundw
                case rel => exact ⟨j + 1, p, rfl, by go_num, by omega, hp40, Lib.hid (by rw [HMI.out.1]; exact HP.out), FI⟩
                case measure => simp [intOf]; omega
              · obtain ⟨hp1, hp2, hp3⟩ := Mm.next_hit HL.out hjq HTA.out.symm
                have HP3 := Lib.hid hp3
                have hpL : p < L.length := by rw [HP.out]; exact hp1
                have hpn : p < no := by rw [HNL.out]; exact hpL
                have hpn' : (p : Int) < (no : Int) := by omega
                obtain ⟨go, oo, hAo, -, hco⟩ := ((HO.out.at1 encJ_len).1.fr0 FI.out).int hpL
                subst hAo
                have hLp : L[p] = (j : Int) := by simp only [HP.out]; exact hp2
                rw [hLp] at hco
                clear hp1 hp2 hp3 hLp
                go_wp2_with fail
                go_roundw
                case rel => exact ⟨j + 1, p + 1, by go_num, by go_num, by omega, by omega, Lib.hid (by rw [HP3.out, HP.out]), FI⟩
                case measure => simp [intOf]; omega
        · obtain rfl : j = n1 := by omega
          have hpn : p = no := by rw [HP.out, HNL.out, HL.out, HN1.out]
          have hpn' : ((p : Int) != (no : Int)) = false := by rw [hpn]; simp
          clear hpn
          replace MG := Lib.hid (MG.out.fr0 HF.out)
          go_wp2_with fail
          go_roundw
          case rel => exact ⟨k + 1, D', by go_num, by omega, MG⟩
          case measure => simp [intOf]; omega
    · go_wp2_with fail
      go_ret
      exact ⟨rfl, (FA.out.trans MG.out.fr).below⟩
end Go.Proofs.YtciaallekkdnhaaGreat
