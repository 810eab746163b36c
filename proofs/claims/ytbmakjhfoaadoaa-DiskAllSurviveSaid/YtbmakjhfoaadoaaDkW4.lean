/-
  The walk of DiskAllSurvive.
-/
import Derived.Test.YtbmakjhfoaadoaaDkS
namespace Go.Proofs.Ytbmakjhfoaadoaa
open Go.RowKit

set_option maxRecDepth 100000 in
set_option maxHeartbeats 4000000 in
theorem dall_walk (sz : Int) (A : Option Addr) (n cap : Nat) (xs : List Wp) (W : World) (hsz : okI sz) (hn : xs.length = n) (hmax : n ≤ maxLen) (hx : n = 0 ∨ ∃ b off, A = some ⟨b, off, none⟩ ∧ WpsAt W b off xs) :
    Calls Try.prog 9 #[.int .i64 sz, .slice A n cap] W fun e W' => e = .returned (.bool true) ∧ Below W.heap.size W W' := by
  unfold maxLen at hmax
  have HN := Lib.hid hn
  have HX := Lib.hid hx
  clear hn hx
  go_enter Try.func9, Try.ntmps9
  go_wp2_with fail
  refine (sane_any _).mono ?_
  rintro e w1 ⟨rfl, f1⟩
  have F1 := Lib.hid f1
  clear f1
  go_wp2_with fail
  refine (pick_nat sz 300 _ hsz (by decide) (by decide)).mono ?_
  rintro e w' ⟨k, ⟨rfl, hk, -⟩, rfl⟩
  obtain ⟨size, hs1, hs2, hsz1⟩ : ∃ size : Nat, 1 ≤ size ∧ size ≤ 300 ∧ (1 + (k : Int)) = (size : Int) := ⟨1 + k, by omega, by omega, by omega⟩
  go_wp2_with fail
  refine (mnew size F1.out (by omega) (by omega)).mono ?_
  rintro e w2 ⟨b, rfl, m2⟩
  have M2 := Lib.hid m2
  clear m2 hsz1 hk
  go_wp2_with fail
  go_loopw [8] (fun i wr => ∃ (k : Nat) (d : Dm.Dk), k ≤ n ∧ k ≤ 60 ∧ i = .int .i64 k ∧ Mine W wr b d ∧ Dm.Lv d size k) (fun i _ => n - (intOf i).toNat)
  case atStart => exact ⟨0, Dm.new size, Nat.zero_le _, Nat.zero_le _, rfl, M2.out, Dm.Lv.new hs1 (by omega)⟩
  case round =>
    obtain ⟨k, d, hk, hk60, rfl, hD, hL⟩ := hrel
    have HD := Lib.hid hD
    have HL := Lib.hid hL
    by_cases hlt : k < n ∧ k < 60
    · obtain ⟨hlt1, hlt2⟩ := hlt
      obtain ⟨b0, off, rfl, hxs⟩ := HX.out.resolve_left (by omega)
      have hxr := hxs.fr0 hD.frame
      have hkx : k < xs.length := by rw [HN.out]; exact hlt1
      have c0 := hxr.c0 k hkx
      have c1 := hxr.c1 k hkx
      have c2 := hxr.c2 k hkx
      obtain ⟨wo, ws⟩ := hxs.wf _ (List.getElem_mem hkx)
      have HXS := Lib.hid hxs
      generalize xs[k] = x at c0 c1 c2 wo ws
      obtain ⟨xo, xss, xy⟩ := x
      dsimp only at c0 c1 c2 wo ws
      have hu := Wp.fit_ok ⟨xo, xss, xy⟩ size
      have HFT := Lib.hid (fun w => fits_any ⟨xo, xss, xy⟩ size w wo ws (by omega))
      generalize Wp.fit ⟨xo, xss, xy⟩ size = u at hu HFT
      obtain ⟨p1, p2, p3, p4⟩ := hL.write hu.1
      have P1 := Lib.hid p1
      have P3 := Lib.hid p3
      have HU := Lib.hid hu
      clear p1 p2 p3 p4 hxr hxs hD hL hu wo ws
      go_wp2_with fail
      refine (HFT.out _).mono ?_
      rintro e w4 ⟨rfl, f4⟩
      have HB4 := Lib.hid ((HD.out.fr0 f4).fr0 ((Fr.refl [] w4).alloc (.cells #[.int .i64 u.off, .string ⟨u.s.toArray⟩, .bool xy] 53)))
      have HY := Lib.hid (Blk.new w4 53 #[.int .i64 u.off, .string ⟨u.s.toArray⟩, .bool xy])
      clear f4 c0 c1 c2
      go_wp2_with fail
      generalize (w4.alloc (.cells #[.int .i64 u.off, .string ⟨u.s.toArray⟩, .bool xy] 53)) = W4 at *
      generalize w4.heap.size = gy at *
      refine (Mine.write HB4.out (c := 0) u.off u.s (okI_mk (by omega) (by have := HU.out.2; omega)) (by have := HL.out.pl; omega) (by rw [HL.out.left]; exact okI0) P1.out rfl).mono ?_
      rintro e w6 ⟨rfl, h6, k6⟩
      have H6 := Lib.hid h6
      have Y6 := Lib.hid (k6.blk HY.out)
      have y2 := Y6.out.cell 2
      clear h6 k6
      generalize Dm.write d u.off u.s = d1 at *
      cases xy
      · go_wp2_with fail
        go_roundw
        case rel => exact ⟨k + 1, d1, by omega, by omega, by go_num, H6.out, P3.out⟩
        case measure => simp [intOf]; omega
      · obtain ⟨q1, q2, q3, q4⟩ := P3.out.sync
        have Q1 := Lib.hid q1
        have Q3 := Lib.hid q3
        clear q1 q2 q3 q4
        go_wp2_with fail
        refine (Mine.sync H6.out (c := 0) Q1.out rfl).mono ?_
        rintro e w7 ⟨rfl, h7, k7⟩
        have H7 := Lib.hid h7
        clear h7 k7 y2
        generalize Dm.sync d1 = d2 at *
        go_wp2_with fail
        go_roundw
        case rel => exact ⟨k + 1, d2, by omega, by omega, by go_num, H7.out, Q3.out⟩
        case measure => simp [intOf]; omega
    · clear hD hL
      have HRD := Lib.hid HL.out.read
      obtain ⟨wo, HWO⟩ : ∃ wo : World, wo = wr := ⟨_, rfl⟩
      subst HWO
      have hpl := HL.out.pl
      obtain ⟨m, HM⟩ : ∃ m, Hid (d.pend.length = m) := ⟨_, Lib.hid rfl⟩
      have hm : m ≤ 60 := by rw [← HM.out]; omega
      clear hpl
      go_wp2_with fail
      all_goals
        refine (mread 0 size HD.out okI0 HRD.out).mono ?_
        rintro e w' ⟨rfl, rfl⟩
        go_wp2_with fail
        go_loopw [12, 13] (fun v i wr => ∃ q : Nat, q ≤ m ∧ i = .int .i64 q ∧ Mine W wr b d ∧ RowI W wr v (uptoI q)) (fun _ i _ => m - (intOf i).toNat)
        case atStart => exact ⟨0, Nat.zero_le _, rfl, HD.out, RowI.nil⟩
        case round =>
          obtain ⟨q, hq, rfl, hD2, hR2⟩ := hrel
          have HD2 := Lib.hid hD2
          have HR2 := Lib.hid hR2
          clear hD2 hR2
          by_cases hqm : q < m
          · obtain ⟨i0, z, TI⟩ := etI
            have hownA := HR2.out.own.fr (S := []) ((Fr.refl _ wr).alloc (.cells #[.int .i64 (q : Int)] 3)) (by simp)
            have HRA := Lib.hid hownA
            have hul := uptoI_len q
            have HUL := Lib.hid hul
            clear hul hownA
            go_wp2_with fail
            refine (mpending (n := m) HD2.out HM.out).mono ?_
            rintro e w' ⟨rfl, rfl⟩
            go_wp2_with (at_builtin; refine wpList_appendL rfl _ _ rfl TI encI_len encI_one rfl HRA.out (wr.heap.size + 1) _ _ _ [(q : Int)] rfl rfl (reads_new (enc := encI) wr 3 (q : Int) rfl) (by rw [HUL.out]; simp only [maxLen, List.length_singleton]; omega) (by rw [HUL.out]; simp only [List.length_singleton]; omega) ?_; intro v5 w5 hown5 hg5 hat5; have HG5 := Lib.hid hg5; have HO5 := Lib.hid hown5; have HA5 := Lib.hid hat5; clear hg5 hown5 hat5)
            go_roundw
            case rel => exact ⟨q + 1, by omega, by go_num, HD2.out.row HR2.out HG5.out HA5.out, by rw [uptoI_succ]; exact HR2.out.append HD2.out.frame.size HO5.out HA5.out (okI_mk (by omega) (by omega))⟩
            case measure => simp [intOf]; omega
          · obtain rfl : q = m := by omega
            obtain ⟨A2, c2, hv⟩ := HR2.out.own.val
            rw [uptoI_len] at hv
            subst hv
            have HCR := Lib.hid (Dm.crash_all (d := d) (keep := uptoI q) (fun i hi => uptoI_mem (by rw [← HM.out]; exact hi)) (t := -1) (by decide))
            have HLC := Lib.hid (HL.out.crash (uptoI q) (-1))
            rw [HCR.out] at HLC
            have HRD2 := Lib.hid HLC.out.read
            have HCR3 := Lib.hid (Dm.crash_nil ⟨d.vis, [], false, 0⟩ 0)
            have HRD' : Hid (Dm.read ⟨d.vis, [], false, 0⟩ 0 size = (d.vis, 0)) := HRD2
            have HCR' : Hid (Dm.crash ⟨d.vis, [], false, 0⟩ [] 0 = ⟨d.vis, [], false, 0⟩) := HCR3
            go_wp2_with fail
            refine (mpending (n := q) HD2.out HM.out).mono ?_
            rintro e w' ⟨rfl, rfl⟩
            go_wp2_with fail
            refine (Mine.crash HD2.out A2 q c2 (uptoI q) (-1) (uptoI_len q).symm (by rw [uptoI_len]; omega) HR2.out.intsIn (okI_mk (by decide) (by decide)) HCR.out).mono ?_
            rintro e w7 ⟨rfl, h7, k7⟩
            have H7 := Lib.hid h7
            clear h7 k7
            go_wp2_with fail
            refine (mread 0 size H7.out okI0 HRD'.out).mono ?_
            rintro e w' ⟨rfl, rfl⟩
            go_wp2_with fail
            refine (Mine.crash H7.out none 0 0 [] 0 rfl (by decide) (.inl rfl) okI0 HCR'.out).mono ?_
            rintro e w8 ⟨rfl, h8, k8⟩
            have H8 := Lib.hid h8
            clear h8 k8
            go_wp2_with fail
            refine (mread 0 size H8.out okI0 HRD'.out).mono ?_
            rintro e w' ⟨rfl, rfl⟩
            go_wp2_with fail
            go_ret
            exact ⟨rfl, H8.out.frame.below⟩
end Go.Proofs.Ytbmakjhfoaadoaa
