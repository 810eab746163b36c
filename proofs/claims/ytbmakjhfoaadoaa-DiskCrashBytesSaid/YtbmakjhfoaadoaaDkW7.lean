/-
  The walk of DiskCrashBytes.
-/
import Derived.Test.YtbmakjhfoaadoaaDkT
namespace Go.Proofs.Ytbmakjhfoaadoaa
open Go.RowKit

set_option maxRecDepth 100000 in
set_option maxHeartbeats 4000000 in
theorem dbytes_walk (sz : Int) (A : Option Addr) (n cap : Nat) (xs : List Wp) (Ak : Option Addr) (nk capk : Nat) (ks : List Bool) (t : Int) (W : World) (hsz : okI sz) (hn : xs.length = n) (hmax : n ≤ maxLen) (hx : n = 0 ∨ ∃ b off, A = some ⟨b, off, none⟩ ∧ WpsAt W b off xs)
    (hnk : ks.length = nk) (hmaxk : nk ≤ maxLen) (hxk : nk = 0 ∨ ∃ b off, Ak = some ⟨b, off, none⟩ ∧ BoolsAt W b off ks) (ht : okI t) :
    Calls Try.prog 8 #[.int .i64 sz, .slice A n cap, .slice Ak nk capk, .int .i64 t] W fun e W' => e = .returned (.bool true) ∧ Below W.heap.size W W' := by
  unfold maxLen at hmax hmaxk
  have HN := Lib.hid hn
  have HX := Lib.hid hx
  have HNK := Lib.hid hnk
  have HXK := Lib.hid hxk
  have HT := Lib.hid ht
  clear hn hx hnk hxk
  obtain ⟨tb1, tb2⟩ := okI_bounds ht
  clear ht
  obtain ⟨K, HK⟩ : ∃ K : Nat → Bool, Hid (K = fun i => ks[i]?.getD false) := ⟨_, Lib.hid rfl⟩
  go_enter Try.func8, Try.ntmps8
  go_wp2_with fail
  refine (sane_any _).mono ?_
  rintro e w1 ⟨rfl, f1⟩
  have F1 := Lib.hid f1
  clear f1
  go_wp2_with fail
  refine (pick_nat sz 100 _ hsz (by decide) (by decide)).mono ?_
  rintro e w' ⟨k, ⟨rfl, hk, -⟩, rfl⟩
  obtain ⟨size, hs1, hs2, hsz1⟩ : ∃ size : Nat, 1 ≤ size ∧ size ≤ 100 ∧ (1 + (k : Int)) = (size : Int) := ⟨1 + k, by omega, by omega, by omega⟩
  have HMK := Lib.hid (fun W => run_make_bytes size W (by omega))
  go_wp2_with fail
  refine (mnew size F1.out (by omega) (by omega)).mono ?_
  rintro e w2 ⟨b, rfl, m2⟩
  have M2 := Lib.hid m2
  clear m2 hsz1 hk
  have hmk := HMK.out
  go_wp2_with fail
  have D0 := Lib.hid (DB.made (n := size) M2.out)
  rw [← Dm.ini_zero] at D0
  clear hmk
  rw [← Dm.ini_zero]
  generalize (w2.alloc (.cells (Lib.byteCells (Dm.ini size 0)).toArray 5)) = W3 at *
  generalize w2.heap.size = bb at *
  go_loopw [13] (fun i wr => ∃ k : Nat, k ≤ size ∧ i = .int .i64 k ∧ DB W b bb (Dm.ini size k) (Dm.new size) wr) (fun i _ => size - (intOf i).toNat)
  case atStart => exact ⟨0, Nat.zero_le _, rfl, D0.out⟩
  case round =>
    obtain ⟨k, hk, rfl, hD⟩ := hrel
    have HD := Lib.hid hD
    by_cases hlt : k < size
    · have h10 : (0 : Int) ≤ (k : Int) % 10 := by omega
      have h11 : (k : Int) % 10 < 10 := by omega
      have hst := Dm.ini_step size k hlt
      have HD2 := Lib.hid (HD.out.set k _ hst)
      have z := hD.buf.frozen k
      have hbl := hD.buf.lt
      obtain ⟨v0, c0⟩ : ∃ v, wr.cell? ⟨bb, k, none⟩ = some v := ⟨_, (hD.buf.cell k).trans (Array.getElem?_eq_getElem (by simp [Lib.byteCells, Dm.ini_len]; exact hlt))⟩
      clear hst hD
      go_wp2_with fail
      go_roundw
      case rel => exact ⟨k + 1, by omega, by go_num, HD2.out⟩
      case measure => simp [intOf]; omega
    · obtain rfl : k = size := by omega
      obtain ⟨q1, q2, q3⟩ := Dm.first_write (b := Dm.ini k k) hs1 (show k ≤ 4194304 by omega) (Dm.ini_len k k)
      have Q1 := Lib.hid q1
      have Q2 := Lib.hid q2
      have Q3 := Lib.hid q3
      have hcv := fun c => conv_any hD.buf (Dm.ini_len k k) c
      clear q1 q2 q3 hD
      go_wp2_with fail
      refine (DB.write HD.out (c := 0) 0 (Dm.ini k k) okI0 (by simp [Dm.new]) okI0 Q1.out rfl).mono ?_
      rintro e w4 ⟨rfl, h4, k4⟩
      have H4 := Lib.hid h4
      clear h4 k4 hcv
      go_wp2_with fail
      refine (DB.sync H4.out (c := 0) Q2.out Q3.out).mono ?_
      rintro e w5 ⟨rfl, h5, k5⟩
      have H5 := Lib.hid h5
      clear h5 k5
      have HBL := Lib.hid (Dm.ini_len k k)
      generalize Dm.ini k k = base at *
      clear HD D0 M2 HMK
      obtain ⟨w3, HW3⟩ : ∃ w3 : World, w3 = wr := ⟨_, rfl⟩
      subst HW3
      go_wp2_with fail
      go_loop [14, 15] (fun la i => ∃ q : Nat, q ≤ n ∧ q ≤ 20 ∧ i = .int .i64 q ∧ la = .int .i64 (Dm.lastK K q)) (fun _ i => n - (intOf i).toNat)
      case atStart => exact ⟨0, Nat.zero_le _, Nat.zero_le _, rfl, rfl⟩
      case round =>
        obtain ⟨q, hq, hq20, rfl, rfl⟩ := hrel
        by_cases hlt : q < n ∧ q < 20
        · obtain ⟨hl1, hl2⟩ := hlt
          by_cases hqk : q < nk
          · obtain ⟨bk, offk, rfl, hbk⟩ := HXK.out.resolve_left (by omega)
            have hqk' : q < ks.length := by rw [HNK.out]; exact hqk
            have ck := (hbk.fr H5.out.fr).cell q hqk'
            have HKK : Hid (K q = ks[q]) := Lib.hid (by rw [HK.out]; simp [hqk'])
            generalize ks[q] = kv at ck HKK
            clear hbk hqk'
            cases kv
            · have HLL : Hid (Dm.lastK K (q + 1) = Dm.lastK K q) := Lib.hid (by show (if K q = true then (q : Int) else Dm.lastK K q) = _; rw [HKK.out]; rfl)
              go_wp2_with fail
              go_round
              case rel => exact ⟨q + 1, by omega, by omega, by go_num, by rw [HLL.out]⟩
              case measure => simp [intOf]; omega
            · have HLL : Hid (Dm.lastK K (q + 1) = q) := Lib.hid (by show (if K q = true then (q : Int) else Dm.lastK K q) = _; rw [HKK.out]; rfl)
              go_wp2_with fail
              go_round
              case rel => exact ⟨q + 1, by omega, by omega, by go_num, by rw [HLL.out]⟩
              case measure => simp [intOf]; omega
          · have HKK : Hid (K q = false) := Lib.hid (by rw [HK.out]; show ks[q]?.getD false = false; rw [List.getElem?_eq_none (by rw [HNK.out]; omega)]; rfl)
            have HLL : Hid (Dm.lastK K (q + 1) = Dm.lastK K q) := Lib.hid (by show (if K q = true then (q : Int) else Dm.lastK K q) = _; rw [HKK.out]; rfl)
            go_wp2_with fail
            go_round
            case rel => exact ⟨q + 1, by omega, by omega, by go_num, by rw [HLL.out]⟩
            case measure => simp [intOf]; omega
        · obtain ⟨m, hm1, hm2, rfl⟩ : ∃ m, m ≤ n ∧ m ≤ 20 ∧ q = m := ⟨q, hq, hq20, rfl⟩
          have HMX : Hid (q = n ∨ q = 20) := Lib.hid (by omega)
          obtain ⟨l1, l2⟩ := Dm.lastK_spec K q
          have HL2 := Lib.hid l2
          obtain ⟨la, HLA⟩ : ∃ la, Hid (Dm.lastK K q = la) := ⟨_, Lib.hid rfl⟩
          rw [HLA.out] at l1 HL2 ⊢
          obtain ⟨l3, l4⟩ := l1
          clear l2
          go_wp2_with fail
          all_goals
            go_loopw [16, 17] (fun v i wr => ∃ (p : Nat) (d : Dm.Dk), p ≤ n ∧ p ≤ 20 ∧ i = .int .i64 p ∧ DB W b bb (Dm.wantGo d.pend K la.toNat t base p) d wr ∧ Dm.Lv d k p ∧ d.sure = base ∧ d.pend.length = p ∧ RowI W wr v (Dm.nums K p)) (fun _ i _ => n - (intOf i).toNat)
            case atStart => exact ⟨0, ⟨base, [], false, 0⟩, Nat.zero_le _, Nat.zero_le _, rfl, H5.out, Dm.Lv.base hs1 (by omega) HBL.out, rfl, rfl, RowI.nil⟩
            case round =>
              obtain ⟨p, d, hp, hp20, rfl, hD, hL, hS, hPL, hR⟩ := hrel
              have HD := Lib.hid hD
              have HL := Lib.hid hL
              have HS := Lib.hid hS
              have HPL := Lib.hid hPL
              have HR := Lib.hid hR
              clear hD hL hS hPL hR
              by_cases hlt : p < n ∧ p < 20
              · obtain ⟨hlt1, hlt2⟩ := hlt
                obtain ⟨b0, off, rfl, hxs⟩ := HX.out.resolve_left (by omega)
                have hxr := hxs.fr0 HD.out.fr
                have hkx : p < xs.length := by rw [HN.out]; exact hlt1
                have c0 := hxr.c0 p hkx
                have c1 := hxr.c1 p hkx
                have c2 := hxr.c2 p hkx
                obtain ⟨wo, ws⟩ := hxs.wf _ (List.getElem_mem hkx)
                have HXS := Lib.hid hxs
                generalize xs[p] = x at c0 c1 c2 wo ws
                obtain ⟨xo, xss, xy⟩ := x
                dsimp only at c0 c1 c2 wo ws
                have hu := Wp.fit_ok ⟨xo, xss, xy⟩ k
                have HFT := Lib.hid (fun w => fits_any ⟨xo, xss, xy⟩ k w wo ws (by omega))
                generalize Wp.fit ⟨xo, xss, xy⟩ k = u at hu HFT
                obtain ⟨p1, p2, p3, p4⟩ := HL.out.write hu.1
                have P1 := Lib.hid p1
                have P2 := Lib.hid p2
                have P3 := Lib.hid p3
                have HU := Lib.hid hu
                have HWG := Lib.hid (Dm.wantGo_snoc d.pend u K la.toNat t base)
                rw [HPL.out] at HWG
                obtain ⟨A2, c2', hv⟩ := HR.out.own.val
                obtain ⟨nl, HNL⟩ : ∃ nl, Hid ((Dm.nums K p).length = nl) := ⟨_, Lib.hid rfl⟩
                rw [HNL.out] at hv
                subst hv
                have HNB := Lib.hid (show nl ≤ 20 by have := Dm.nums_len K p; rw [HNL.out] at this; omega)
                clear p1 p2 p3 p4 hxr hxs hu wo ws
                go_wp2_with fail
                refine (HFT.out _).mono ?_
                rintro e w4 ⟨rfl, f4⟩
                have ff := f4.alloc (.cells #[.int .i64 u.off, .string ⟨u.s.toArray⟩, .bool xy] 53)
                have HB4 := Lib.hid (HD.out.fr0 ff)
                have HR4 := Lib.hid (HR.out.fr0 ff)
                have HY := Lib.hid (Blk.new w4 53 #[.int .i64 u.off, .string ⟨u.s.toArray⟩, .bool xy])
                clear f4 ff c0 c1 c2
                go_wp2_with fail
                generalize (w4.alloc (.cells #[.int .i64 u.off, .string ⟨u.s.toArray⟩, .bool xy] 53)) = W4 at *
                generalize w4.heap.size = gy at *
                refine (DB.write HB4.out (c := 0) u.off u.s (okI_mk (by omega) (by have := HU.out.2; omega)) (by have := HL.out.pl; omega) (by rw [HL.out.left]; exact okI0) P1.out P2.out).mono ?_
                rintro e w6 ⟨rfl, h6, k6⟩
                have H6 := Lib.hid h6
                have R6 := Lib.hid (HR4.out.keep k6)
                have Y6 := Lib.hid (k6.blk HY.out)
                rw [P2.out] at P3
                clear h6 k6
                by_cases hqk : p < nk
                · obtain ⟨bk, offk, rfl, hbk⟩ := HXK.out.resolve_left (by omega)
                  have hqk' : p < ks.length := by rw [HNK.out]; exact hqk
                  have ck := (hbk.fr H6.out.fr).cell p hqk'
                  have HKK : Hid (K p = ks[p]) := Lib.hid (by rw [HK.out]; simp [hqk'])
                  generalize ks[p] = kv at ck HKK
                  clear hbk hqk'
                  cases kv
                  · have HWN : Hid (Dm.wantGo (d.pend ++ [u]) K la.toNat t base (p + 1) = Dm.wantGo d.pend K la.toNat t base p) := Lib.hid (by rw [HWG.out, HKK.out]; rfl)
                    have HNN : Hid (Dm.nums K (p + 1) = Dm.nums K p) := Lib.hid (by show (if K p = true then (p : Int) :: Dm.nums K p else Dm.nums K p) = _; rw [HKK.out]; rfl)
                    go_wp2_with fail
                    go_roundw
                    case rel => exact ⟨p + 1, _, by omega, by omega, by go_num, by rw [HWN.out]; exact H6.out, P3.out, HS.out, by simp [HPL.out], by rw [HNN.out]; exact R6.out⟩
                    case measure => simp [intOf]; omega
                  · have HNN : Hid (Dm.nums K (p + 1) = (p : Int) :: Dm.nums K p) := Lib.hid (by show (if K p = true then (p : Int) :: Dm.nums K p else Dm.nums K p) = _; rw [HKK.out]; rfl)
                    have HWN : Hid (Dm.wantGo (d.pend ++ [u]) K la.toNat t base (p + 1) = Dm.onto (Dm.wantGo d.pend K la.toNat t base p) (Dm.tear la.toNat t p u)) := Lib.hid (by rw [HWG.out, HKK.out]; rfl)
                    have hla : 0 ≤ la := (HL2.out p (by have := HMX.out; omega) HKK.out).1
                    have HLEN : Hid ((Dm.wantGo d.pend K la.toNat t base p).length = k) := Lib.hid ((Dm.wantGo_len (by rw [← HS.out]; exact HL.out.ok.fit) p).trans HBL.out)
                    by_cases hpt : (p : Int) = la ∧ 0 ≤ t
                    · obtain ⟨hp1, ht0⟩ := hpt
                      have htr : Dm.tear la.toNat t p u = ⟨u.off, u.s.take t.toNat⟩ := by unfold Dm.tear; rw [if_pos ⟨by omega, ht0⟩]
                      rw [htr] at HWN
                      have hpe : ((p : Int) == la) = true := by simp; omega
                      clear htr hp1
                      have HLIT := Lib.hid (RowI.lit (W := W) (wr := w6) (x := (p : Int)) H6.out.fr.size (okI_mk (by omega) (by omega)))
                      have fA : Fr [] w6 (w6.alloc (.cells #[.int .i64 (p : Int)] 3)) := (Fr.refl _ _).alloc _
                      have HRA := Lib.hid (R6.out.fr0 fA)
                      have HDA := Lib.hid (H6.out.fr0 fA)
                      have HYA := Lib.hid (Y6.out.fr fA (by simp))
                      have hyl := Y6.out.lt
                      have HNE := Lib.hid (show some gy ≠ (Value.slice (some ⟨w6.heap.size, 0, none⟩) 1 1).ownBlock from fun e => by
                        have e2 : gy = w6.heap.size := by simpa [Value.ownBlock] using e
                        omega)
                      have hrd := HRA.out.own.reads rfl
                      rw [HNL.out] at hrd
                      have HRD := Lib.hid hrd
                      obtain ⟨i0, z, TI⟩ := etI
                      clear hrd fA
                      go_wp2_with (at_builtin; refine wpList_appendL rfl _ _ rfl TI encI_len encI_one rfl HLIT.out.own _ _ _ _ (Dm.nums K p) rfl HNL.out.symm HRD.out (by rw [HNL.out]; have := HNB.out; simp only [maxLen, List.length_singleton]; omega) (by rw [HNL.out]; have := HNB.out; simp only [List.length_singleton]; omega) ?_; intro v5 w7 hown5 hg5 hat5; have HG5 := Lib.hid hg5; have HO5 := Lib.hid hown5; have HA5 := Lib.hid hat5; have Y7 := Lib.hid (HYA.out.grown hg5 HNE.out); clear hg5 hown5 hat5; have y1 := Y7.out.cell 1; have y0 := Y7.out.cell 0)
                      refine (cutS_any u.s t _ (by have := HU.out.1; simp only [maxLen]; omega) ht0).mono ?_
                      rintro e w' ⟨rfl, rfl⟩
                      go_wp2_with fail
                      refine (DB.put (HDA.out.grow HLIT.out HG5.out) ⟨u.off, u.s.take t.toNat⟩ HLEN.out (by have := HU.out.1; simp only [List.length_take]; omega) (by omega) HWN.out.symm).mono ?_
                      rintro e w8 ⟨rfl, h8, k8⟩
                      have H8 := Lib.hid h8
                      have R8 := Lib.hid ((RowI.cons HLIT.out HRA.out (HDA.out.fr.size) HO5.out HA5.out HNN.out).keep k8)
                      clear h8 k8
                      go_wp2_with fail
                      go_roundw
                      case rel => exact ⟨p + 1, _, by omega, by omega, by go_num, H8.out, P3.out, HS.out, by simp [HPL.out], R8.out⟩
                      case measure => simp [intOf]; omega
                    · have htr : Dm.tear la.toNat t p u = u := by
                        unfold Dm.tear
                        rw [if_neg (fun h => hpt ⟨by omega, h.2⟩)]
                      rw [htr] at HWN
                      clear htr
                      by_cases hp1 : (p : Int) = la
                      · have ht0 : t < 0 := by omega
                        have hpe : ((p : Int) == la) = true := by simp; omega
                        clear hpt hp1
                        have HLIT := Lib.hid (RowI.lit (W := W) (wr := w6) (x := (p : Int)) H6.out.fr.size (okI_mk (by omega) (by omega)))
                        have fA : Fr [] w6 (w6.alloc (.cells #[.int .i64 (p : Int)] 3)) := (Fr.refl _ _).alloc _
                        have HRA := Lib.hid (R6.out.fr0 fA)
                        have HDA := Lib.hid (H6.out.fr0 fA)
                        have HYA := Lib.hid (Y6.out.fr fA (by simp))
                        have hyl := Y6.out.lt
                        have HNE := Lib.hid (show some gy ≠ (Value.slice (some ⟨w6.heap.size, 0, none⟩) 1 1).ownBlock from fun e => by
                          have e2 : gy = w6.heap.size := by simpa [Value.ownBlock] using e
                          omega)
                        have hrd := HRA.out.own.reads rfl
                        rw [HNL.out] at hrd
                        have HRD := Lib.hid hrd
                        obtain ⟨i0, z, TI⟩ := etI
                        clear hrd fA
                        go_wp2_with (at_builtin; refine wpList_appendL rfl _ _ rfl TI encI_len encI_one rfl HLIT.out.own _ _ _ _ (Dm.nums K p) rfl HNL.out.symm HRD.out (by rw [HNL.out]; have := HNB.out; simp only [maxLen, List.length_singleton]; omega) (by rw [HNL.out]; have := HNB.out; simp only [List.length_singleton]; omega) ?_; intro v5 w7 hown5 hg5 hat5; have HG5 := Lib.hid hg5; have HO5 := Lib.hid hown5; have HA5 := Lib.hid hat5; have Y7 := Lib.hid (HYA.out.grown hg5 HNE.out); clear hg5 hown5 hat5; have y1 := Y7.out.cell 1; have y0 := Y7.out.cell 0)
                        refine (DB.put (HDA.out.grow HLIT.out HG5.out) u HLEN.out HU.out.1 (by omega) HWN.out.symm).mono ?_
                        rintro e w8 ⟨rfl, h8, k8⟩
                        have H8 := Lib.hid h8
                        have R8 := Lib.hid ((RowI.cons HLIT.out HRA.out (HDA.out.fr.size) HO5.out HA5.out HNN.out).keep k8)
                        clear h8 k8
                        go_wp2_with fail
                        go_roundw
                        case rel => exact ⟨p + 1, _, by omega, by omega, by go_num, H8.out, P3.out, HS.out, by simp [HPL.out], R8.out⟩
                        case measure => simp [intOf]; omega
                      · have hpe : ((p : Int) == la) = false := by simp; omega
                        clear hpt hp1
                        have HLIT := Lib.hid (RowI.lit (W := W) (wr := w6) (x := (p : Int)) H6.out.fr.size (okI_mk (by omega) (by omega)))
                        have fA : Fr [] w6 (w6.alloc (.cells #[.int .i64 (p : Int)] 3)) := (Fr.refl _ _).alloc _
                        have HRA := Lib.hid (R6.out.fr0 fA)
                        have HDA := Lib.hid (H6.out.fr0 fA)
                        have HYA := Lib.hid (Y6.out.fr fA (by simp))
                        have hyl := Y6.out.lt
                        have HNE := Lib.hid (show some gy ≠ (Value.slice (some ⟨w6.heap.size, 0, none⟩) 1 1).ownBlock from fun e => by
                          have e2 : gy = w6.heap.size := by simpa [Value.ownBlock] using e
                          omega)
                        have hrd := HRA.out.own.reads rfl
                        rw [HNL.out] at hrd
                        have HRD := Lib.hid hrd
                        obtain ⟨i0, z, TI⟩ := etI
                        clear hrd fA
                        go_wp2_with (at_builtin; refine wpList_appendL rfl _ _ rfl TI encI_len encI_one rfl HLIT.out.own _ _ _ _ (Dm.nums K p) rfl HNL.out.symm HRD.out (by rw [HNL.out]; have := HNB.out; simp only [maxLen, List.length_singleton]; omega) (by rw [HNL.out]; have := HNB.out; simp only [List.length_singleton]; omega) ?_; intro v5 w7 hown5 hg5 hat5; have HG5 := Lib.hid hg5; have HO5 := Lib.hid hown5; have HA5 := Lib.hid hat5; have Y7 := Lib.hid (HYA.out.grown hg5 HNE.out); clear hg5 hown5 hat5; have y1 := Y7.out.cell 1; have y0 := Y7.out.cell 0)
                        refine (DB.put (HDA.out.grow HLIT.out HG5.out) u HLEN.out HU.out.1 (by omega) HWN.out.symm).mono ?_
                        rintro e w8 ⟨rfl, h8, k8⟩
                        have H8 := Lib.hid h8
                        have R8 := Lib.hid ((RowI.cons HLIT.out HRA.out (HDA.out.fr.size) HO5.out HA5.out HNN.out).keep k8)
                        clear h8 k8
                        go_wp2_with fail
                        go_roundw
                        case rel => exact ⟨p + 1, _, by omega, by omega, by go_num, H8.out, P3.out, HS.out, by simp [HPL.out], R8.out⟩
                        case measure => simp [intOf]; omega
                · have HKK : Hid (K p = false) := Lib.hid (by rw [HK.out]; show ks[p]?.getD false = false; rw [List.getElem?_eq_none (by rw [HNK.out]; omega)]; rfl)
                  have HWN : Hid (Dm.wantGo (d.pend ++ [u]) K la.toNat t base (p + 1) = Dm.wantGo d.pend K la.toNat t base p) := Lib.hid (by rw [HWG.out, HKK.out]; rfl)
                  have HNN : Hid (Dm.nums K (p + 1) = Dm.nums K p) := Lib.hid (by show (if K p = true then (p : Int) :: Dm.nums K p else Dm.nums K p) = _; rw [HKK.out]; rfl)
                  go_wp2_with fail
                  go_roundw
                  case rel => exact ⟨p + 1, _, by omega, by omega, by go_num, by rw [HWN.out]; exact H6.out, P3.out, HS.out, by simp [HPL.out], by rw [HNN.out]; exact R6.out⟩
                  case measure => simp [intOf]; omega
              · obtain rfl : p = q := by have := HMX.out; omega
                obtain ⟨A2, c2', hv⟩ := HR.out.own.val
                obtain ⟨nl, HNL⟩ : ∃ nl, Hid ((Dm.nums K p).length = nl) := ⟨_, Lib.hid rfl⟩
                rw [HNL.out] at hv
                subst hv
                have HNB := Lib.hid (show nl ≤ 20 by have := Dm.nums_len K p; rw [HNL.out] at this; omega)
                have hcb := Dm.crash_bytes (K := K) (t := t) HPL.out
                rw [HLA.out, HS.out] at hcb
                have HLC := Lib.hid (HL.out.crash (Dm.nums K p) t)
                have hrd := HLC.out.read
                have hve : (Dm.crash d (Dm.nums K p) t).vis = Dm.wantGo d.pend K la.toNat t base p := hcb
                rw [hve] at hrd
                have HRD := Lib.hid hrd
                have HLEN : Hid ((Dm.wantGo d.pend K la.toNat t base p).length = k) := Lib.hid ((Dm.wantGo_len (by rw [← HS.out]; exact HL.out.ok.fit) p).trans HBL.out)
                clear hcb hrd hve
                go_wp2_with fail
                all_goals
                  refine (DB.crash HD.out A2 nl c2' (Dm.nums K p) t HNL.out.symm (by rw [HNL.out]; have := HNB.out; omega) HR.out.intsIn HT.out rfl).mono ?_
                  rintro e w8 ⟨rfl, h8, k8⟩
                  have H8 := Lib.hid h8
                  clear h8 k8
                  go_wp2_with fail
                  refine (mread 0 k H8.out.mine okI0 HRD.out).mono ?_
                  rintro e w' ⟨rfl, rfl⟩
                  have hcv := fun c => conv_any H8.out.buf HLEN.out c
                  go_wp2_with fail
                  go_ret
                  exact ⟨rfl, H8.out.fr.below⟩
end Go.Proofs.Ytbmakjhfoaadoaa
