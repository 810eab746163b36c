/-
  Reference 08: Match.
-/
import Derived.Test.YtciaallekkdnhaaGreatMuX
import Derived.Test.YtciaallekkdnhaaGreatMuA
import Derived.Test.YtciaallekkdnhaaGreatMuB
import Derived.Test.YtciaallekkdnhaaGreatRsB
import Derived.Test.YtciaallekkdnhaaGreatJc
import Derived.Deep.DeepCutAuto
import Derived.Deep.CutBlock
import Derived.StillTailTactics
namespace Go.Proofs.YtciaallekkdnhaaGreat
open Go.RowKit

set_option maxRecDepth 100000 in
set_option maxHeartbeats 8000000 in
theorem rxmatch_any (b : Nat) (v : Value) (M : Mm.Ix) (R : Rx.Rl) (at_ : Int) (A : Option Addr) (N cap : Nat) (cs : List Chg) (w : World) (h : RxAt w b v M R) (hc : ChgsAt w A cs) (hN : N = cs.length) (h8 : N ≤ 1000) :
    Calls Tryz.prog 23 #[.pointer (some ⟨b, 0, none⟩), .agg #[.int .i64 at_, .slice A N cap]] w fun e w' => ∃ A' n' c' L, e = .returned (.slice A' n' c') ∧ OwnL 3 1 encJ w' (.slice A' n' c') L ∧ n' = L.length ∧ Mm.Hit M cs L ∧ Fr [] w w' ∧ n' ≤ 500 := by
  have HHIT := Lib.hid (h.sim.hit cs)
  obtain ⟨i0, z0, TQ⟩ := etJ
  have TV := Lib.hid TQ
  have HRB := Lib.hid (Blk.new w 26 #[.int .i64 at_, .slice A N cap])
  have HF := Lib.hid ((Fr.refl [] w).alloc (.cells #[.int .i64 at_, .slice A N cap] 26))
  have H := Lib.hid (h.fr0 HF.out)
  have HC := Lib.hid (ChgsAt.fr hc HF.out (by simp))
  have HN := Lib.hid hN
  obtain ⟨A0, cap0, hv, hc1, hc2⟩ := h.val
  have h63 : cap0 < 9223372036854775808 := by simp only [maxLen] at hc2; omega
  have hn5 := h.len
  obtain ⟨n, hn⟩ : ∃ n, n = R.length := ⟨_, rfl⟩
  rw [← hn] at hv hc1 hn5
  have HNR := Lib.hid hn
  subst hv
  clear TQ h hc hN hn hc2
  go_enter Tryz.func23, Tryz.ntmps23
  go_upto_region 1 with (fail)
  generalize w.alloc (.cells #[.int .i64 at_, .slice A N cap] 26) = w0 at *
  obtain ⟨gr, hgr⟩ : ∃ x, w.heap.size = x := ⟨_, rfl⟩
  have HGR := Lib.hid hgr
  rw [hgr] at HRB ⊢
  clear hgr
  go_wp2_with fail
  go_loopw [5, 6] (fun x i wr => ∃ k : Nat, i = .int .i64 k ∧ k ≤ n ∧ Hid (OwnL 3 1 encJ wr x (Rx.out (R.take k) cs)) ∧ Hid (Fr [] w0 wr) ∧ Hid (∀ g, x.ownBlock = some g → w0.heap.size ≤ g)) (fun _ i _ => n - (intOf i).toNat)
  case atStart => exact ⟨0, rfl, Nat.zero_le _, Lib.hid OwnL.nil, Lib.hid (Fr.refl _ _), Lib.hid (by simp [Value.ownBlock])⟩
  case round =>
    obtain ⟨k, rfl, hk, HO, FO, HFR⟩ := hrel
    have hb0 : wr.cell? ⟨b, 0, none⟩ = some (.slice A0 n cap0) := (H.out.fr0 FO.out).blk.cell 0
    by_cases hlt : k < n
    · have hkl : k < R.length := by rw [← HNR.out]; exact hlt
      have HSUC := Lib.hid (Rx.out_succ (cs := cs) hkl)
      obtain ⟨q, hq⟩ : ∃ q, q = R[k].2 := ⟨_, rfl⟩
      obtain ⟨x, hx⟩ : ∃ x, x = R[k].1 := ⟨_, rfl⟩
      rw [← hq, ← hx] at HSUC
      have HQ := Lib.hid hq
      have HX := Lib.hid hx
      clear hq hx
      go_wp2_with fail
      go_loopw [7, 8] (fun t i w5 => ∃ (j : Nat) (tb : Bool), t = .bool tb ∧ i = .int .i64 j ∧ j ≤ N ∧ Hid (tb = (cs.take j).any (Pm.touches q)) ∧ Hid (Fr [] wr w5)) (fun _ i _ => N - (intOf i).toNat)
      case atStart => exact ⟨0, false, rfl, rfl, Nat.zero_le _, Lib.hid (by simp), Lib.hid (Fr.refl _ _)⟩
      case round =>
        rename World => w1
        obtain ⟨j, tb, rfl, rfl, hj, HTB, FI⟩ := hrel
        have F1 := Lib.hid (FO.out.trans FI.out)
        have hr1 : w1.cell? ⟨gr, 1, none⟩ = some (.slice A N cap) := (HRB.out.fr F1.out (by simp)).cell 1
        by_cases hlt2 : j < N
        · have hil : j < cs.length := by rw [← HN.out]; exact hlt2
          obtain ⟨b3, off3, hA3, hb3, hc3⟩ := (ChgsAt.fr HC.out F1.out (by simp)) (by omega)
          subst hA3
          have hcc := Lib.hid (fun z (hz : z < 10) => hc3 j hil z hz)
          have HAN := Lib.hid (any_succ8 (Pm.touches q) hil)
          rw [← HTB.out] at HAN
          clear hc3
          obtain ⟨c, HCC⟩ : ∃ c, Hid (cs[j] = c) := ⟨_, Lib.hid rfl⟩
          rw [HCC.out] at hcc HAN
          have HTC := Lib.hid (fun W => rtouches_any q c W)
          obtain ⟨tc, HTCB⟩ : ∃ b, Hid (Pm.touches q c = b) := ⟨_, Lib.hid rfl⟩
          rw [HTCB.out] at HTC HAN
          have hH1 := H.out.fr0 F1.out
          obtain ⟨bb, off, hA0, hbb, hcell⟩ := (hH1.row.at1 encIt_len).1 (by omega)
          subst hA0
          have hce := Lib.hid (fun z (hz : z < 8) => hcell k hkl z hz)
          clear hcell
          have hb1 : ∀ p : Later w1, p.w.cell? ⟨b, 0, none⟩ = some (.slice (some ⟨bb, off, none⟩) n cap0) := fun p => p.cell hH1.blk.lt (hH1.blk.cell 0)
          have hr1L : ∀ p : Later w1, p.w.cell? ⟨gr, 1, none⟩ = some (.slice (some ⟨b3, off3, none⟩) N cap) := fun p => p.cell (HRB.out.fr F1.out (by simp)).lt hr1
          have q0 : ∀ p : Later w1, p.w.cell? ⟨bb, off + k * 8 + 1, none⟩ = some (.int .i64 q.kind) := fun p => p.cell hbb (by rw [HQ.out]; exact hce.out 1 (by decide))
          have q1 : ∀ p : Later w1, p.w.cell? ⟨bb, off + k * 8 + 2, none⟩ = some (.int .i64 q.table) := fun p => p.cell hbb (by rw [HQ.out]; exact hce.out 2 (by decide))
          have q2 : ∀ p : Later w1, p.w.cell? ⟨bb, off + k * 8 + 3, none⟩ = some (.int .i64 q.column) := fun p => p.cell hbb (by rw [HQ.out]; exact hce.out 3 (by decide))
          have q3 : ∀ p : Later w1, p.w.cell? ⟨bb, off + k * 8 + 4, none⟩ = some (.int .i64 q.low) := fun p => p.cell hbb (by rw [HQ.out]; exact hce.out 4 (by decide))
          have q4 : ∀ p : Later w1, p.w.cell? ⟨bb, off + k * 8 + 5, none⟩ = some (.int .i64 q.high) := fun p => p.cell hbb (by rw [HQ.out]; exact hce.out 5 (by decide))
          have q5 : ∀ p : Later w1, p.w.cell? ⟨bb, off + k * 8 + 6, none⟩ = some (.int .i64 q.by_) := fun p => p.cell hbb (by rw [HQ.out]; exact hce.out 6 (by decide))
          have q6 : ∀ p : Later w1, p.w.cell? ⟨bb, off + k * 8 + 7, none⟩ = some (.int .i64 q.other) := fun p => p.cell hbb (by rw [HQ.out]; exact hce.out 7 (by decide))
          have y0 : ∀ p : Later w1, p.w.cell? ⟨b3, off3 + j * 10, none⟩ = some (.int .i64 c.t) := fun p => p.cell hb3 (hcc.out 0 (by decide))
          have y1 : ∀ p : Later w1, p.w.cell? ⟨b3, off3 + j * 10 + 1, none⟩ = some (.int .i64 c.k) := fun p => p.cell hb3 (hcc.out 1 (by decide))
          have y2 : ∀ p : Later w1, p.w.cell? ⟨b3, off3 + j * 10 + 2, none⟩ = some (.bool c.had) := fun p => p.cell hb3 (hcc.out 2 (by decide))
          have y3 : ∀ p : Later w1, p.w.cell? ⟨b3, off3 + j * 10 + 3, none⟩ = some (.int .i64 c.o0) := fun p => p.cell hb3 (hcc.out 3 (by decide))
          have y4 : ∀ p : Later w1, p.w.cell? ⟨b3, off3 + j * 10 + 4, none⟩ = some (.int .i64 c.o1) := fun p => p.cell hb3 (hcc.out 4 (by decide))
          have y5 : ∀ p : Later w1, p.w.cell? ⟨b3, off3 + j * 10 + 5, none⟩ = some (.int .i64 c.o2) := fun p => p.cell hb3 (hcc.out 5 (by decide))
          have y6 : ∀ p : Later w1, p.w.cell? ⟨b3, off3 + j * 10 + 6, none⟩ = some (.bool c.has) := fun p => p.cell hb3 (hcc.out 6 (by decide))
          have y7 : ∀ p : Later w1, p.w.cell? ⟨b3, off3 + j * 10 + 7, none⟩ = some (.int .i64 c.n0) := fun p => p.cell hb3 (hcc.out 7 (by decide))
          have y8 : ∀ p : Later w1, p.w.cell? ⟨b3, off3 + j * 10 + 8, none⟩ = some (.int .i64 c.n1) := fun p => p.cell hb3 (hcc.out 8 (by decide))
          have y9 : ∀ p : Later w1, p.w.cell? ⟨b3, off3 + j * 10 + 9, none⟩ = some (.int .i64 c.n2) := fun p => p.cell hb3 (hcc.out 9 (by decide))
          clear hcc hce hH1 hb0
          go_wp2_with fail
          clear hr1
          refine wp_region_later (by kernel_rfl) (by kernel_rfl) ?_
          repeat (go_big_quiet_step (exact Later.calls (HTC.out _)))
          refine wpQuiet_nil ?_
          rintro w' ⟨⟨wz, fq⟩, rfl⟩
          have FI2 := Lib.hid (FI.out.trans fq)
          clear fq FI HTC hb1 hr1L hb3 q0 q1 q2 q3 q4 q5 q6 y0 y1 y2 y3 y4 y5 y6 y7 y8 y9
          cases tb
          · go_wp2_with fail
            go_roundw
            case rel => exact ⟨j + 1, tc, rfl, by go_num, by omega, Lib.hid (by rw [HAN.out]; rfl), FI2⟩
            case measure => simp [intOf]; omega
          · go_wp2_with fail
            go_roundw
            case rel => exact ⟨j + 1, true, rfl, by go_num, by omega, Lib.hid (by rw [HAN.out]; rfl), FI2⟩
            case measure => simp [intOf]; omega
        · obtain rfl : j = N := by omega
          have HTA : Hid (tb = cs.any (Pm.touches q)) := Lib.hid (by rw [HTB.out, List.take_of_length_le (by rw [← HN.out]; exact Nat.le_refl _)])
          rw [← HTA.out] at HSUC
          have HO1 := Lib.hid (HO.out.fr FI.out (by simp))
          clear HTB
          cases tb
          · rw [if_neg (by decide)] at HSUC
            go_wp2_with fail
            go_roundw
            case rel => exact ⟨k + 1, by go_num, by omega, by rw [HSUC.out]; exact HO1, F1, HFR⟩
            case measure => simp [intOf]; omega
          · rw [if_pos rfl] at HSUC
            have hH1 := H.out.fr0 F1.out
            obtain ⟨bb, off, hA0, hbb, hcell⟩ := (hH1.row.at1 encIt_len).1 (by omega)
            subst hA0
            have hx0 : w1.cell? ⟨bb, off + k * 8, none⟩ = some (.int .i64 x) := by rw [HX.out]; exact hcell k hkl 0 (by decide)
            have hb1 : w1.cell? ⟨b, 0, none⟩ = some (.slice (some ⟨bb, off, none⟩) n cap0) := hH1.blk.cell 0
            have hlo : Hid ((Rx.out (R.take k) cs).length ≤ 500) := Lib.hid (by
              have h1 := Rx.out_len (R.take k) cs
              rw [List.length_take] at h1
              omega)
            have RD : Hid (Reads (w1.alloc (.cells #[.int .i64 x] 3)) (w1.heap.size + 1) 1 (some ⟨w1.heap.size, 0, none⟩) 1 ([x].flatMap encJ)) := Lib.hid (reads_new w1 3 x rfl)
            clear hcell hH1
            go_wp2_with (at_builtin; refine wpList_appendL rfl _ _ rfl TV.out encJ_len encJ_one rfl (HO1.out.fr ((Fr.refl [] w1).alloc _) (by simp)) _ _ _ _ [x] rfl rfl RD.out (by have := hlo.out; simp only [maxLen, List.length_singleton]; omega) (by have := hlo.out; simp only [List.length_singleton]; omega) ?_; intro v7 w7 ho7 hg7 hat7; have HO7 := Lib.hid ho7; have F7 := Lib.hid ((F1.out.alloc _).grown hg7 (fun g hg => .inr (HFR.out g hg))); have HA7 := Lib.hid (own_fresh2 HFR.out hat7 (by rw [World.size_alloc]; have := F1.out.size; omega)); clear ho7 hg7 hat7)
            go_roundw
            case rel => exact ⟨k + 1, by go_num, by omega, by rw [HSUC.out]; exact HO7, F7, HA7⟩
            case measure => simp [intOf]; omega
    · obtain rfl : k = n := by omega
      have hto : R.take k = R := List.take_of_length_le (by rw [HNR.out]; exact Nat.le_refl _)
      rw [hto] at HO
      clear hto
      obtain ⟨A', c', hv'⟩ := HO.out.val
      generalize hgl : (Rx.out R cs).length = n' at hv'
      have HGL := Lib.hid hgl
      subst hv'
      clear hgl
      go_wp2_with fail
      go_ret
      exact ⟨A', n', c', _, rfl, HO.out, HGL.out.symm, HHIT.out, HF.out.trans FO.out, by rw [← HGL.out]; exact Nat.le_trans (Rx.out_len R cs) (by rw [← HNR.out]; exact hn5)⟩
end Go.Proofs.YtciaallekkdnhaaGreat
