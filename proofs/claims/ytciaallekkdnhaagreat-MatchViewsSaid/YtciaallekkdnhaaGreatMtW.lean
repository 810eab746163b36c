/-
  Law 08: sane. UNDER WAY.
-/
import Derived.Test.YtciaallekkdnhaaGreatMtT
import Derived.Test.YtciaallekkdnhaaGreatJk
namespace Go.Proofs.YtciaallekkdnhaaGreat
open Go.RowKit

set_option maxRecDepth 100000 in
set_option maxHeartbeats 8000000 in
theorem msane_any (w : World) : Calls Tryz.prog 10 #[] w fun e w' => e = .returned (.bool true) ∧ Fr [] w w' := by
  have oi : ∀ x : Int, 0 ≤ x → x ≤ 100 → okI x := fun x h1 h2 => okI_mk (by omega) (by omega)
  have HOI := Lib.hid oi
  clear oi
  go_enter Tryz.func10, Tryz.ntmps10
  go_upto_region 2 with (go_at_call 11; refine (mnew_any _).mono ?_; rintro e w1 ⟨rfl, hix, hf1⟩)
  obtain ⟨m, hm⟩ : ∃ m, w.heap.size = m := ⟨_, rfl⟩
  have hs1 : m + 2 ≤ w1.heap.size := by
    have h1 := hix.map.lt
    obtain ⟨lp, h2, -⟩ := hix.blk
    have := h2.lt
    omega
  rw [hm] at hix ⊢
  have HM := Lib.hid hm
  have H1 := Lib.hid hix
  have HF1 := Lib.hid hf1
  clear hix hf1 hm
  have c1 : Mm.code [] 1 Mm.sq1 = 0 := by decide
  have e1 : Mm.add [] 1 Mm.sq1 = [(1, Mm.sq1)] := by decide
  have A1 := madd_any 1 (HOI.out 1 (by decide) (by decide)) Mm.sq1 w1 H1.out
  rw [c1, e1] at A1
  go_upto_region 5 with (go_at_call 17; refine A1.mono ?_; rintro e w2 ⟨rfl, h2, f2⟩)
  have H2 := Lib.hid h2
  have HF2 := Lib.hid f2
  clear h2 f2 c1 e1 A1
  have c1 : Mm.code [(1, Mm.sq1)] 2 Mm.sq2 = 0 := by decide
  have e1 : Mm.add [(1, Mm.sq1)] 2 Mm.sq2 = [(2, Mm.sq2), (1, Mm.sq1)] := by decide
  have A1 := madd_any 2 (HOI.out 2 (by decide) (by decide)) Mm.sq2 w2 H2.out
  rw [c1, e1] at A1
  go_upto_region 6 with (go_at_call 17; refine A1.mono ?_; rintro e w3 ⟨rfl, h3, f3⟩)
  have H3 := Lib.hid h3
  have HF3 := Lib.hid f3
  clear h3 f3 c1 e1 A1
  have c1 : Mm.code [(2, Mm.sq2), (1, Mm.sq1)] 3 Mm.sq3 = 0 := by decide
  have e1 : Mm.add [(2, Mm.sq2), (1, Mm.sq1)] 3 Mm.sq3 = [(3, Mm.sq3), (2, Mm.sq2), (1, Mm.sq1)] := by decide
  have A1 := madd_any 3 (HOI.out 3 (by decide) (by decide)) Mm.sq3 w3 H3.out
  rw [c1, e1] at A1
  go_upto_region 7 with (go_at_call 17; refine A1.mono ?_; rintro e w4 ⟨rfl, h4, f4⟩)
  have H4 := Lib.hid h4
  have HF4 := Lib.hid f4
  clear h4 f4 c1 e1 A1
  have c1 : Mm.code [(3, Mm.sq3), (2, Mm.sq2), (1, Mm.sq1)] 4 Mm.sq4 = 0 := by decide
  have e1 : Mm.add [(3, Mm.sq3), (2, Mm.sq2), (1, Mm.sq1)] 4 Mm.sq4 = [(4, Mm.sq4), (3, Mm.sq3), (2, Mm.sq2), (1, Mm.sq1)] := by decide
  have A1 := madd_any 4 (HOI.out 4 (by decide) (by decide)) Mm.sq4 w4 H4.out
  rw [c1, e1] at A1
  go_upto_region 8 with (go_at_call 17; refine A1.mono ?_; rintro e w5 ⟨rfl, h5, f5⟩)
  have H5 := Lib.hid h5
  have HF5 := Lib.hid f5
  clear h5 f5 c1 e1 A1
  have c1 : Mm.code [(4, Mm.sq4), (3, Mm.sq3), (2, Mm.sq2), (1, Mm.sq1)] 4 ⟨3, 0, 0, 0, 0, 0, 0⟩ = 80 := by decide
  have e1 : Mm.add [(4, Mm.sq4), (3, Mm.sq3), (2, Mm.sq2), (1, Mm.sq1)] 4 ⟨3, 0, 0, 0, 0, 0, 0⟩ = [(4, Mm.sq4), (3, Mm.sq3), (2, Mm.sq2), (1, Mm.sq1)] := by decide
  have A1 := madd_any 4 (HOI.out 4 (by decide) (by decide)) ⟨3, 0, 0, 0, 0, 0, 0⟩ w5 H5.out
  rw [c1, e1] at A1
  go_upto_region 9 with (go_at_call 17; refine A1.mono ?_; rintro e w6 ⟨rfl, h6, f6⟩)
  have H6 := Lib.hid h6
  have HF6 := Lib.hid f6
  clear h6 f6 c1 e1 A1
  have HB6 : Hid (∀ x ∈ [m + 1, m], x < w6.heap.size) := Lib.hid (fun x hx => by
    have h1 := H6.out.map.lt
    obtain ⟨lp, h2, -⟩ := H6.out.blk
    have h3 := h2.lt
    simp only [List.mem_cons, List.not_mem_nil, or_false] at hx
    omega)
  go_upto_region 10 with (first
    | (go_at_call 34; refine (mchange_any 5 false true 0 0 0 12 7 0 _).mono ?_; rintro e wc1 ⟨Ac1, rfl, hc1, fc1⟩; have HC1 := Lib.hid hc1; have FC1 := Lib.hid fc1; clear hc1 fc1)
    | (go_at_call 22; refine (mmatch_any (m + 1) m _ _ 1 Ac1 1 1 [(⟨0, 5, false, 0, 0, 0, true, 12, 7, 0⟩ : Chg)] wc1 (H6.out.fr FC1.out (by simp)) (fun x hx => Nat.lt_of_lt_of_le (HB6.out x hx) FC1.out.size) HC1.out rfl (by decide) (by intro c hc; obtain rfl : c = _ := (by simpa using hc); exact ⟨HOI.out 0 (by decide) (by decide), rows_okI (HOI.out _ (by decide) (by decide)) (HOI.out _ (by decide) (by decide)) (HOI.out _ (by decide) (by decide)) (HOI.out _ (by decide) (by decide)) (HOI.out _ (by decide) (by decide)) (HOI.out _ (by decide) (by decide)) (HOI.out _ (by decide) (by decide))⟩)).mono ?_; rintro e wm1 ⟨v1, L1, rfl, ho1, hh1, D1, hx1, hg1, hd1⟩; obtain ⟨Av1, cv1, hv1⟩ := ho1.val; subst hv1; have HL1 := Lib.hid (hh1.uniq Mm.sane_one); have HO1 := Lib.hid ho1; have HX1 := Lib.hid hx1; have HG1 := Lib.hid hg1; have HD1 := Lib.hid hd1; clear ho1 hh1 hx1 hg1 hd1)
    | (go_at_call 21; refine (rsame8_any Av1 (some ⟨wm1.heap.size, 0, Option.none⟩) L1.length 4 cv1 4 L1 [1, 2, 3, 4] _ ((HO1.out.at1 encJ_len).1.fr0 ((Fr.refl [] wm1).alloc _)) (AtL.of_blk encJ_len (Blk.new wm1 3 #[.int .i64 1, .int .i64 2, .int .i64 3, .int .i64 4]) rfl) rfl rfl (by rw [HL1.out]; decide)).mono ?_; rintro e ws1 ⟨rfl, fs1⟩; rw [HL1.out]; have FS1 := Lib.hid (((Fr.refl [] wm1).alloc (.cells #[.int .i64 1, .int .i64 2, .int .i64 3, .int .i64 4] 3)).trans fs1); clear fs1))
  have HY1 := Lib.hid (HX1.out.fr FS1.out (by simp))
  go_upto_region 11 with (first
    | (go_at_call 34; refine (mchange_any 6 true true 12 0 0 13 0 0 _).mono ?_; rintro e wc2 ⟨Ac2, rfl, hc2, fc2⟩; have HC2 := Lib.hid hc2; have FC2 := Lib.hid fc2; clear hc2 fc2)
    | (go_at_call 22; refine (mmatch_any (m + 1) m _ _ 1 Ac2 1 1 [(⟨0, 6, true, 12, 0, 0, true, 13, 0, 0⟩ : Chg)] wc2 (HY1.out.fr FC2.out (by simp)) (fun x hx => Nat.lt_of_lt_of_le (HD1.out x hx).2 (Nat.le_trans FS1.out.size FC2.out.size)) HC2.out rfl (by decide) (by intro c hc; obtain rfl : c = _ := (by simpa using hc); exact ⟨HOI.out 0 (by decide) (by decide), rows_okI (HOI.out _ (by decide) (by decide)) (HOI.out _ (by decide) (by decide)) (HOI.out _ (by decide) (by decide)) (HOI.out _ (by decide) (by decide)) (HOI.out _ (by decide) (by decide)) (HOI.out _ (by decide) (by decide)) (HOI.out _ (by decide) (by decide))⟩)).mono ?_; rintro e wm2 ⟨v2, L2, rfl, ho2, hh2, D2, hx2, hg2, hd2⟩; obtain ⟨Av2, cv2, hv2⟩ := ho2.val; subst hv2; have HL2 := Lib.hid (hh2.uniq Mm.sane_two); have HO2 := Lib.hid ho2; have HX2 := Lib.hid hx2; have HG2 := Lib.hid hg2; have HD2 := Lib.hid hd2; clear ho2 hh2 hx2 hg2 hd2)
    | (go_at_call 21; refine (rsame8_any Av2 (some ⟨wm2.heap.size, 0, Option.none⟩) L2.length 1 cv2 1 L2 [4] _ ((HO2.out.at1 encJ_len).1.fr0 ((Fr.refl [] wm2).alloc _)) (AtL.of_blk encJ_len (Blk.new wm2 3 #[.int .i64 4]) rfl) rfl rfl (by rw [HL2.out]; decide)).mono ?_; rintro e ws2 ⟨rfl, fs2⟩; rw [HL2.out]; have FS2 := Lib.hid (((Fr.refl [] wm2).alloc (.cells #[.int .i64 4] 3)).trans fs2); clear fs2))
  have HY2 := Lib.hid (HX2.out.fr FS2.out (by simp))
  go_upto_region 12 with (first
    | (go_at_call 34; refine (mchange_any 6 true true 12 1 0 25 1 0 _).mono ?_; rintro e wc3 ⟨Ac3, rfl, hc3, fc3⟩; have HC3 := Lib.hid hc3; have FC3 := Lib.hid fc3; clear hc3 fc3)
    | (go_at_call 22; refine (mmatch_any (m + 1) m _ _ 1 Ac3 1 1 [(⟨0, 6, true, 12, 1, 0, true, 25, 1, 0⟩ : Chg)] wc3 (HY2.out.fr FC3.out (by simp)) (fun x hx => Nat.lt_of_lt_of_le (HD2.out x hx).2 (Nat.le_trans FS2.out.size FC3.out.size)) HC3.out rfl (by decide) (by intro c hc; obtain rfl : c = _ := (by simpa using hc); exact ⟨HOI.out 0 (by decide) (by decide), rows_okI (HOI.out _ (by decide) (by decide)) (HOI.out _ (by decide) (by decide)) (HOI.out _ (by decide) (by decide)) (HOI.out _ (by decide) (by decide)) (HOI.out _ (by decide) (by decide)) (HOI.out _ (by decide) (by decide)) (HOI.out _ (by decide) (by decide))⟩)).mono ?_; rintro e wm3 ⟨v3, L3, rfl, ho3, hh3, D3, hx3, hg3, hd3⟩; obtain ⟨Av3, cv3, hv3⟩ := ho3.val; subst hv3; have HL3 := Lib.hid (hh3.uniq Mm.sane_three); have HO3 := Lib.hid ho3; have HX3 := Lib.hid hx3; have HG3 := Lib.hid hg3; have HD3 := Lib.hid hd3; clear ho3 hh3 hx3 hg3 hd3)
    | (go_at_call 21; refine (rsame8_any Av3 (some ⟨wm3.heap.size, 0, Option.none⟩) L3.length 3 cv3 3 L3 [2, 3, 4] _ ((HO3.out.at1 encJ_len).1.fr0 ((Fr.refl [] wm3).alloc _)) (AtL.of_blk encJ_len (Blk.new wm3 3 #[.int .i64 2, .int .i64 3, .int .i64 4]) rfl) rfl rfl (by rw [HL3.out]; decide)).mono ?_; rintro e ws3 ⟨rfl, fs3⟩; rw [HL3.out]; have FS3 := Lib.hid (((Fr.refl [] wm3).alloc (.cells #[.int .i64 2, .int .i64 3, .int .i64 4] 3)).trans fs3); clear fs3))
  have HY3 := Lib.hid (HX3.out.fr FS3.out (by simp))
  go_upto_region 13 with (first
    | (go_at_call 34; refine (mchange_any 6 true false 25 1 0 0 0 0 _).mono ?_; rintro e wc4 ⟨Ac4, rfl, hc4, fc4⟩; have HC4 := Lib.hid hc4; have FC4 := Lib.hid fc4; clear hc4 fc4)
    | (go_at_call 22; refine (mmatch_any (m + 1) m _ _ 1 Ac4 1 1 [(⟨0, 6, true, 25, 1, 0, false, 0, 0, 0⟩ : Chg)] wc4 (HY3.out.fr FC4.out (by simp)) (fun x hx => Nat.lt_of_lt_of_le (HD3.out x hx).2 (Nat.le_trans FS3.out.size FC4.out.size)) HC4.out rfl (by decide) (by intro c hc; obtain rfl : c = _ := (by simpa using hc); exact ⟨HOI.out 0 (by decide) (by decide), rows_okI (HOI.out _ (by decide) (by decide)) (HOI.out _ (by decide) (by decide)) (HOI.out _ (by decide) (by decide)) (HOI.out _ (by decide) (by decide)) (HOI.out _ (by decide) (by decide)) (HOI.out _ (by decide) (by decide)) (HOI.out _ (by decide) (by decide))⟩)).mono ?_; rintro e wm4 ⟨v4, L4, rfl, ho4, hh4, D4, hx4, hg4, hd4⟩; obtain ⟨Av4, cv4, hv4⟩ := ho4.val; subst hv4; have HL4 := Lib.hid (hh4.uniq Mm.sane_four); have HO4 := Lib.hid ho4; have HX4 := Lib.hid hx4; have HG4 := Lib.hid hg4; have HD4 := Lib.hid hd4; clear ho4 hh4 hx4 hg4 hd4; rw [HL4.out]))
  have R1 := mremove_any 2 (HOI.out 2 (by decide) (by decide)) wm4 HX4.out
  have r1 : (mget ([(4, Mm.sq4), (3, Mm.sq3), (2, Mm.sq2), (1, Mm.sq1)] : Mm.Ix) 2).isSome = true := by decide
  have r2 : mdel ([(4, Mm.sq4), (3, Mm.sq3), (2, Mm.sq2), (1, Mm.sq1)] : Mm.Ix) 2 = [(4, Mm.sq4), (3, Mm.sq3), (1, Mm.sq1)] := by decide
  rw [r1, r2] at R1
  have HR1 := Lib.hid R1
  clear R1 r1 r2
  have HL1' : Hid (Calls Tryz.prog 19 #[.pointer (some ⟨m + 1, 0, none⟩)] wm4 fun e w' => e = .returned (.int .i64 4) ∧ wm4 = w') := Lib.hid (mlen_any wm4 HX4.out)
  go_wp2_with (first
    | (go_at_call 19; first | (refine HL1'.out.mono ?_; rintro e w' ⟨rfl, rfl⟩) | (refine HL2'.out.mono ?_; rintro e w' ⟨rfl, rfl⟩))
    | (go_at_call 15; first
        | (refine HR1.out.mono ?_; rintro e w7 ⟨rfl, h7, f7⟩; have H7 := Lib.hid h7; have F7 := Lib.hid f7; clear h7 f7; have R2 := mremove_any 2 (HOI.out 2 (by decide) (by decide)) w7 H7.out; have r1 : (mget ([(4, Mm.sq4), (3, Mm.sq3), (1, Mm.sq1)] : Mm.Ix) 2).isSome = false := (by decide); have r2 : mdel ([(4, Mm.sq4), (3, Mm.sq3), (1, Mm.sq1)] : Mm.Ix) 2 = [(4, Mm.sq4), (3, Mm.sq3), (1, Mm.sq1)] := (by decide); rw [r1, r2] at R2; have HR2 := Lib.hid R2; clear R2 r1 r2)
        | (refine HR2.out.mono ?_; rintro e w8 ⟨rfl, h8, f8⟩; have H8 := Lib.hid h8; have F8 := Lib.hid f8; clear h8 f8; have HL2' : Hid (Calls Tryz.prog 19 #[.pointer (some ⟨m + 1, 0, none⟩)] w8 fun e w' => e = .returned (.int .i64 3) ∧ w8 = w') := Lib.hid (mlen_any w8 H8.out))))
  go_ret
  have k1 : Fr [m + 1, m] w1 w6 := (((HF2.out.trans HF3.out).trans HF4.out).trans HF5.out).trans HF6.out
  have k2 : Fr [m + 1, m] w6 ws1 := ((FC1.out.mono (by simp)).trans (HG1.out.mono (by simp))).trans (FS1.out.mono (by simp))
  have k3 : Fr [m + 1, m] ws1 ws2 := ((FC2.out.mono (by simp)).trans (HG2.out.mono (by simp))).trans (FS2.out.mono (by simp))
  have k4 : Fr [m + 1, m] ws2 ws3 := ((FC3.out.mono (by simp)).trans (HG3.out.mono (by simp))).trans (FS3.out.mono (by simp))
  have k5 : Fr [m + 1, m] ws3 wm4 := (FC4.out.mono (by simp)).trans (HG4.out.mono (by simp))
  have k6 : Fr [m + 1, m] wm4 w8 := F7.out.trans F8.out
  exact ⟨rfl, HF1.out.trans' (((((k1.trans k2).trans k3).trans k4).trans k5).trans k6) (fun i hi => .inr (by have := HM.out; simp at hi; omega))⟩
end Go.Proofs.YtciaallekkdnhaaGreat
