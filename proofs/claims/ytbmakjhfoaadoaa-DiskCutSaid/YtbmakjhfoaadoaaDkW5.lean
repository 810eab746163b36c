/-
  The walk of DiskCut.
-/
import Derived.Test.YtbmakjhfoaadoaaDkS
namespace Go.Proofs.Ytbmakjhfoaadoaa
open Go.RowKit

namespace Dm
/-- A disk that loses its power at the n-th write, behind k of them. -/
structure Cv (d : Dk) (size n k : Nat) : Prop where
  ok : Ok d
  len : d.sure.length = size
  off : d.off = decide (n ≤ k)
  left : d.left = ((n - k : Nat) : Int)
  pl : d.pend.length = min k n
theorem Cv.start {size n : Nat} (h1 : 1 ≤ size) (h2 : size ≤ 4194304) : cutCode (new size) ((n : Int) + 5) = 0 ∧ cutCode (cut (new size) ((n : Int) + 5)) n = 0 ∧ Cv (cut (cut (new size) ((n : Int) + 5)) n) size n 0 ∧ (cut (cut (new size) ((n : Int) + 5)) n).vis = List.replicate size 0 := by
  have e1 : cut (new size) ((n : Int) + 5) = ⟨List.replicate size 0, [], false, (n : Int) + 5⟩ := by
    unfold cut
    rw [if_neg (by simp [new]; omega)]
    simp only [new, Dk.mk.injEq, true_and, and_true]
    exact decide_eq_false (by omega)
  have e2 : cut (cut (new size) ((n : Int) + 5)) n = ⟨List.replicate size 0, [], decide ((n : Int) = 0), n⟩ := by
    rw [e1]
    unfold cut
    rw [if_neg (by simp)]
  refine ⟨?_, ?_, ?_, by rw [e2]; rfl⟩
  · unfold cutCode
    rw [if_neg (by simp [new]), if_neg (by omega)]
  · unfold cutCode
    rw [if_neg (by rw [e1]; simp), if_neg (by omega)]
  · refine ⟨(((Ok.new h1 h2).cut _).cut _), by rw [e2]; simp, ?_, by rw [e2]; simp, by rw [e2]; simp⟩
    rw [e2]
    simp
theorem Cv.more {d : Dk} {size n k : Nat} {u : Wr} (h : Cv d size n k) (hk : k < n) (hu : u.off + u.s.length ≤ size) :
    writeCode d u.off u.s = 0 ∧ Cv (write d u.off u.s) size n (k + 1) ∧ (write d u.off u.s).vis = onto d.vis u := by
  have h0 : d.off = false := by rw [h.off]; exact decide_eq_false (by omega)
  have hw := writes_of h0 (u := u) (by rw [h.len]; exact hu)
  have hi : inside d u.off u.s.length = true := by
    unfold writes at hw
    simp only [Bool.and_eq_true] at hw
    exact hw.2
  have hl := h.left
  have hp := h.pl
  have e1 : write d u.off u.s = ⟨d.sure, d.pend ++ [u], decide (n ≤ k + 1), ((n - (k + 1) : Nat) : Int)⟩ := by
    unfold Dm.write
    rw [if_pos hw, h0, hl]
    unfold used
    rw [if_neg (by omega)]
    simp only [Int.toNat_natCast, Dk.mk.injEq, true_and]
    refine ⟨?_, by omega⟩
    rw [Bool.eq_iff_iff, decide_eq_true_eq, decide_eq_true_eq]
    omega
  refine ⟨?_, ⟨h.ok.write _ _, by rw [e1]; exact h.len, by rw [e1], by rw [e1], by rw [e1]; simp; omega⟩, ?_⟩
  · unfold writeCode
    rw [if_neg (by rw [h0]; simp), if_pos hi]
  · rw [vis_write hw]
    simp
theorem Cv.none {d : Dk} {size n k : Nat} (h : Cv d size n k) (hk : n ≤ k) (off : Int) (s : List UInt8) : writeCode d off s = 221 ∧ write d off s = d ∧ Cv d size n (k + 1) := by
  have h0 : d.off = true := by rw [h.off]; exact decide_eq_true hk
  refine ⟨by unfold writeCode; rw [if_pos h0], ?_, ⟨h.ok, h.len, by rw [h0]; exact (decide_eq_true (by omega)).symm, by rw [h.left]; omega, by rw [h.pl]; omega⟩⟩
  unfold write writes
  rw [h0]
  rfl
theorem Cv.dead {d : Dk} {size n k : Nat} (h : Cv d size n k) (hk : n ≤ k) : read d 0 0 = ([], 221) ∧ syncCode d = 221 ∧ sync d = d ∧ cutCode d 3 = 221 ∧ cut d 3 = d := by
  have h0 : d.off = true := by rw [h.off]; exact decide_eq_true hk
  exact ⟨by unfold read; rw [if_pos h0], by unfold syncCode; rw [if_pos h0], by unfold sync; rw [if_pos h0], by unfold cutCode; rw [if_pos h0], by unfold cut; rw [if_pos (.inl h0)]⟩
theorem Cv.live {d : Dk} {size n k : Nat} (h : Cv d size n k) (hk : k < n) : syncCode d = 0 := by
  have h0 : d.off = false := by rw [h.off]; exact decide_eq_false (by omega)
  unfold syncCode
  rw [if_neg (by rw [h0]; simp)]
theorem Cv.lv {d : Dk} {size n k : Nat} (h : Cv d size n k) : Lv ⟨d.vis, [], false, 0⟩ size 0 :=
  ⟨⟨by rw [show (⟨d.vis, [], false, 0⟩ : Dk).sure = d.vis from rfl, h.ok.vis_len]; exact h.ok.n1, by rw [show (⟨d.vis, [], false, 0⟩ : Dk).sure = d.vis from rfl, h.ok.vis_len]; exact h.ok.n2, by simp, by simp⟩, rfl, rfl, h.ok.vis_len.trans h.len, by simp⟩
end Dm
section
variable {W wr : World} {b bb : Nat} {bs : List UInt8} {d : Dm.Dk}
theorem DB.row {w' : World} {v v' : Value} {L : List Int} {o : Obj} (h : DB W b bb bs d wr) (hr : RowI W wr v L) (hg : (wr.alloc o).grownBy w' v.ownBlock) (_ : v'.ownBlock = v.ownBlock ∨ v'.ownBlock = some (wr.alloc o).heap.size) : DB W b bb bs d w' := by
  obtain ⟨F, h1, h2, h3⟩ := h.disk
  have f1 : Fr v.ownBlock.toList wr w' := ((Fr.refl _ wr).alloc o).grown hg (fun g e => .inl (Option.mem_toList.2 e))
  exact ⟨⟨F, h1.fr f1 (fun g hg hm => h1.not_row hr.own (Option.mem_toList.1 hm) hg), h2, h3⟩, h.buf.fr f1 (fun hm => hr.own.ne h.buf (by decide) (Option.mem_toList.1 hm) rfl), h.fr.trans' f1 (fun g hg => .inr (hr.new g (Option.mem_toList.1 hg))), h.hb⟩
end
set_option maxRecDepth 100000 in
set_option maxHeartbeats 4000000 in
theorem dcut_walk (sz nn : Int) (A : Option Addr) (n cap : Nat) (xs : List Wp) (W : World) (hsz : okI sz) (hnn : okI nn) (hn : xs.length = n) (hmax : n ≤ maxLen) (hx : n = 0 ∨ ∃ b off, A = some ⟨b, off, none⟩ ∧ WpsAt W b off xs) :
    Calls Try.prog 10 #[.int .i64 sz, .int .i64 nn, .slice A n cap] W fun e W' => e = .returned (.bool true) ∧ Below W.heap.size W W' := by
  unfold maxLen at hmax
  have HN := Lib.hid hn
  have HX := Lib.hid hx
  clear hn hx
  go_enter Try.func10, Try.ntmps10
  go_wp2_with fail
  refine (sane_any _).mono ?_
  rintro e w1 ⟨rfl, f1⟩
  have F1 := Lib.hid f1
  clear f1
  go_wp2_with fail
  refine (pick_nat sz 100 _ hsz (by decide) (by decide)).mono ?_
  rintro e w' ⟨k, ⟨rfl, hk, -⟩, rfl⟩
  obtain ⟨size, hs1, hs2, hsz1⟩ : ∃ size : Nat, 1 ≤ size ∧ size ≤ 100 ∧ (1 + (k : Int)) = (size : Int) := ⟨1 + k, by omega, by omega, by omega⟩
  go_wp2_with fail
  refine (pick_nat nn 20 _ hnn (by decide) (by decide)).mono ?_
  rintro e w' ⟨N, ⟨rfl, hN, -⟩, rfl⟩
  have HMK := Lib.hid (fun W => run_make_bytes size W (by omega))
  go_wp2_with fail
  refine (mnew size F1.out (by omega) (by omega)).mono ?_
  rintro e w2 ⟨b, rfl, m2⟩
  have M2 := Lib.hid m2
  clear m2 hsz1 hk
  obtain ⟨p1, p2, p3, p4⟩ := Dm.Cv.start (n := N) hs1 (show size ≤ 4194304 by omega)
  have P1 := Lib.hid p1
  have P2 := Lib.hid p2
  have P3 := Lib.hid p3
  have P4 := Lib.hid p4
  clear p1 p2 p3 p4
  go_wp2_with fail
  refine (mcut ((N : Int) + 5) M2.out P1.out rfl).mono ?_
  rintro e w3 ⟨rfl, m3⟩
  have M3 := Lib.hid m3
  clear m3
  generalize Dm.cut (Dm.new size) ((N : Int) + 5) = d1 at *
  go_wp2_with fail
  refine (mcut (N : Int) M3.out P2.out rfl).mono ?_
  rintro e w4 ⟨rfl, m4⟩
  have M4 := Lib.hid m4
  clear m4
  generalize Dm.cut d1 (N : Int) = d2 at *
  have hmk := HMK.out
  go_wp2_with fail
  have D0 := Lib.hid (DB.made (n := size) M4.out)
  rw [← P4.out] at D0
  clear hmk
  rw [← P4.out]
  generalize (w4.alloc (.cells (Lib.byteCells d2.vis).toArray 5)) = W3 at *
  generalize w4.heap.size = bb at *
  go_loopw [11, 12] (fun v i wr => ∃ (k : Nat) (d : Dm.Dk), k ≤ n ∧ k ≤ 40 ∧ i = .int .i64 k ∧ DB W b bb d.vis d wr ∧ Dm.Cv d size N k ∧ RowI W wr v (uptoI (min k N))) (fun _ i _ => n - (intOf i).toNat)
  case atStart => exact ⟨0, d2, Nat.zero_le _, Nat.zero_le _, rfl, D0.out, P3.out, by rw [Nat.zero_min]; exact RowI.nil⟩
  case round =>
    obtain ⟨k, d, hk, hk60, rfl, hD, hL, hR⟩ := hrel
    have HD := Lib.hid hD
    have HL := Lib.hid hL
    have HR := Lib.hid hR
    by_cases hlt : k < n ∧ k < 40
    · obtain ⟨hlt1, hlt2⟩ := hlt
      obtain ⟨b0, off, rfl, hxs⟩ := HX.out.resolve_left (by omega)
      have hxr := hxs.fr0 hD.fr
      have hkx : k < xs.length := by rw [HN.out]; exact hlt1
      have c0 := hxr.c0 k hkx
      have c1 := hxr.c1 k hkx
      have c2 := hxr.c2 k hkx
      obtain ⟨wo, ws⟩ := hxs.wf _ (List.getElem_mem hkx)
      have HXS := Lib.hid hxs
      generalize xs[k] = x at c0 c1 c2 wo ws
      obtain ⟨xo, xss, xy⟩ := x
      dsimp only at c0 c1 c2 wo ws
      have hu := Wp.fit_ok ⟨xo, xss, xy⟩ size
      have HFT := Lib.hid (fun w => fits_any ⟨xo, xss, xy⟩ size w wo ws (by omega))
      generalize Wp.fit ⟨xo, xss, xy⟩ size = u at hu HFT
      have HU := Lib.hid hu
      have hpl := hL.pl
      have hpl2 : d.pend.length ≤ 100000 := by omega
      have hlf : okI d.left := by rw [hL.left]; exact okI_mk (by omega) (by omega)
      have HPL := Lib.hid (And.intro hpl2 hlf)
      clear hxr hxs hD hL hR hu wo ws hpl hpl2 hlf
      go_wp2_with fail
      refine (HFT.out _).mono ?_
      rintro e w5 ⟨rfl, f4⟩
      have ff := f4.alloc (.cells #[.int .i64 u.off, .string ⟨u.s.toArray⟩, .bool xy] 53)
      have HB4 := Lib.hid (HD.out.fr0 ff)
      have HR4 := Lib.hid (HR.out.fr0 ff)
      have HY := Lib.hid (Blk.new w5 53 #[.int .i64 u.off, .string ⟨u.s.toArray⟩, .bool xy])
      clear f4 ff c0 c1 c2
      go_wp2_with fail
      generalize (w5.alloc (.cells #[.int .i64 u.off, .string ⟨u.s.toArray⟩, .bool xy] 53)) = W4 at *
      generalize w5.heap.size = gy at *
      by_cases hkN : k < N
      · obtain ⟨q1, q2, q3⟩ := HL.out.more hkN HU.out.1
        have Q1 := Lib.hid q1
        have Q2 := Lib.hid q2
        have Q3 := Lib.hid q3
        clear q1 q2 q3
        refine (DB.write HB4.out (c := 0) u.off u.s (okI_mk (by omega) (by have := HU.out.2; omega)) HPL.out.1 HPL.out.2 Q1.out rfl).mono ?_
        rintro e w6 ⟨rfl, h6, k6⟩
        have H6 := Lib.hid h6
        have R6 := Lib.hid (HR4.out.keep k6)
        have Y6 := Lib.hid (k6.blk HY.out)
        have y0 := Y6.out.cell 0
        have y1 := Y6.out.cell 1
        clear h6 k6
        generalize Dm.write d u.off u.s = d3 at *
        go_wp2_with fail
        refine (DB.put H6.out u (HL.out.ok.vis_len.trans HL.out.len) HU.out.1 (by omega) Q3.out.symm).mono ?_
        rintro e w7 ⟨rfl, h7, k7⟩
        have H7 := Lib.hid h7
        have R7 := Lib.hid (R6.out.keep k7)
        clear h7 k7 y0 y1
        obtain ⟨i0, z, TI⟩ := etI
        have hmin : min k N = k := by omega
        rw [hmin] at R7
        have HRA := Lib.hid (R7.out.own.fr (S := []) ((Fr.refl _ w7).alloc (.cells #[.int .i64 (k : Int)] 3)) (by simp))
        have HUL := Lib.hid (uptoI_len k)
        clear hmin
        go_wp2_with (at_builtin; refine wpList_appendL rfl _ _ rfl TI encI_len encI_one rfl HRA.out (w7.heap.size + 1) _ _ _ [(k : Int)] rfl rfl (reads_new (enc := encI) w7 3 (k : Int) rfl) (by rw [HUL.out]; simp only [maxLen, List.length_singleton]; omega) (by rw [HUL.out]; simp only [List.length_singleton]; omega) ?_; intro v5 w8 hown5 hg5 hat5; have HG5 := Lib.hid hg5; have HO5 := Lib.hid hown5; have HA5 := Lib.hid hat5; clear hg5 hown5 hat5)
        go_roundw
        case rel => exact ⟨k + 1, d3, by omega, by omega, by go_num, H7.out.row R7.out HG5.out HA5.out, Q2.out, by rw [show min (k + 1) N = k + 1 by omega, uptoI_succ]; exact R7.out.append H7.out.fr.size HO5.out HA5.out (okI_mk (by omega) (by omega))⟩
        case measure => simp [intOf]; omega
      · obtain ⟨q1, q2, q3⟩ := HL.out.none (show N ≤ k by omega) (u.off : Int) u.s
        have Q1 := Lib.hid q1
        have Q2 := Lib.hid q2
        have Q3 := Lib.hid q3
        clear q1 q2 q3
        refine (DB.write HB4.out (c := 221) u.off u.s (okI_mk (by omega) (by have := HU.out.2; omega)) HPL.out.1 HPL.out.2 Q1.out Q2.out).mono ?_
        rintro e w6 ⟨rfl, h6, k6⟩
        have H6 := Lib.hid h6
        have R6 := Lib.hid (HR4.out.keep k6)
        clear h6 k6
        go_wp2_with fail
        go_roundw
        case rel => exact ⟨k + 1, d, by omega, by omega, by go_num, H6.out, Q3.out, by rw [show min (k + 1) N = min k N by omega]; exact R6.out⟩
        case measure => simp [intOf]; omega
    · obtain ⟨A2, c2, hv⟩ := hR.own.val
      rw [uptoI_len] at hv
      subst hv
      by_cases hkN : k < N
      · have hkn : k = n := by omega
        subst hkn
        rw [show min k N = k by omega] at HR ⊢
        have HS0 := Lib.hid (HL.out.live hkN)
        clear hD hL hR
        go_wp2_with fail
        refine (DB.sync HD.out HS0.out rfl).mono ?_
        rintro e w6 ⟨rfl, h6, k6⟩
        have H6 := Lib.hid h6
        clear h6 k6
        go_wp2_with fail
        go_ret
        exact ⟨rfl, H6.out.fr.below⟩
      · rw [show min k N = N by omega] at HR ⊢
        obtain ⟨q1, q2, q3, q4, q5⟩ := HL.out.dead (show N ≤ k by omega)
        have Q1 := Lib.hid q1
        have Q2 := Lib.hid q2
        have Q3 := Lib.hid q3
        have Q4 := Lib.hid q4
        have Q5 := Lib.hid q5
        have hpl := HL.out.pl
        have HPN : Hid (d.pend.length = N) := Lib.hid (by omega)
        have HLN := Lib.hid HL.out.len
        have HLV := Lib.hid HL.out.lv
        have HCR := Lib.hid (Dm.crash_all (d := d) (keep := uptoI N) (fun i hi => uptoI_mem (by rw [← HPN.out]; exact hi)) (t := -1) (by decide))
        have HVL := Lib.hid (HL.out.ok.vis_len.trans HL.out.len)
        clear q1 q2 q3 q4 q5 hD hL hR hpl
        go_wp2_with fail
        all_goals
          refine (mread 0 0 HD.out.mine okI0 Q1.out).mono ?_
          rintro e w' ⟨rfl, rfl⟩
          go_wp2_with fail
          refine (DB.sync HD.out Q2.out Q3.out).mono ?_
          rintro e w6 ⟨rfl, h6, k6⟩
          have H6 := Lib.hid h6
          have R6 := Lib.hid (HR.out.keep k6)
          clear h6 k6
          go_wp2_with fail
          refine (DB.cut H6.out 3 Q4.out Q5.out).mono ?_
          rintro e w7 ⟨rfl, h7, k7⟩
          have H7 := Lib.hid h7
          have R7 := Lib.hid (R6.out.keep k7)
          clear h7 k7
          go_wp2_with fail
          refine (mpending (n := N) H7.out.mine HPN.out).mono ?_
          rintro e w' ⟨rfl, rfl⟩
          go_wp2_with fail
          refine (msize (n := size) H7.out.mine HLN.out).mono ?_
          rintro e w' ⟨rfl, rfl⟩
          go_wp2_with fail
          refine (DB.crash H7.out A2 N c2 (uptoI N) (-1) (uptoI_len N).symm (by rw [uptoI_len]; omega) R7.out.intsIn (okI_mk (by decide) (by decide)) HCR.out).mono ?_
          rintro e w8 ⟨rfl, h8, k8⟩
          have H8 := Lib.hid h8
          clear h8 k8
          have HRD : Hid (Dm.read ⟨d.vis, [], false, 0⟩ 0 size = (d.vis, 0)) := Lib.hid HLV.out.read
          go_wp2_with fail
          refine (mread 0 size H8.out.mine okI0 HRD.out).mono ?_
          rintro e w' ⟨rfl, rfl⟩
          have hcv := fun c => conv_any H8.out.buf HVL.out c
          obtain ⟨z1, z2, z3, z4⟩ := Dm.Lv.write HLV.out (u := ⟨0, [120]⟩) (by show 0 + 1 ≤ size; omega)
          have Z1 : Hid (Dm.writeCode ⟨d.vis, [], false, 0⟩ 0 [120] = 0) := Lib.hid z1
          have Z3 := Lib.hid z3
          clear z1 z2 z3 z4
          go_wp2_with fail
          refine (DB.write H8.out (c := 0) 0 [120] okI0 (by simp) okI0 Z1.out rfl).mono ?_
          rintro e w9 ⟨rfl, h9, k9⟩
          have H9 := Lib.hid h9
          clear h9 k9 hcv
          have Z4 := Lib.hid Z3.out.sync.1
          go_wp2_with fail
          refine (DB.sync H9.out (c := 0) Z4.out rfl).mono ?_
          rintro e w10 ⟨rfl, h10, k10⟩
          have H10 := Lib.hid h10
          clear h10 k10
          go_wp2_with fail
          go_ret
          exact ⟨rfl, H10.out.fr.below⟩
end Go.Proofs.Ytbmakjhfoaadoaa
