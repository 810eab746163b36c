/-
  The walk of DiskSynced.
-/
import Derived.Test.YtbmakjhfoaadoaaDkR
namespace Go.Proofs.Ytbmakjhfoaadoaa
open Go.RowKit

set_option maxRecDepth 100000 in
set_option maxHeartbeats 4000000 in
theorem dsynced_walk (sz : Int) (A : Option Addr) (n cap : Nat) (xs : List Wp) (t : Int) (W : World) (hsz : okI sz) (hn : xs.length = n) (hmax : n ≤ maxLen) (hx : n = 0 ∨ ∃ b off, A = some ⟨b, off, none⟩ ∧ WpsAt W b off xs) (ht : okI t) :
    Calls Try.prog 7 #[.int .i64 sz, .slice A n cap, .int .i64 t] W fun e W' => e = .returned (.bool true) ∧ Below W.heap.size W W' := by
  unfold maxLen at hmax
  have HN := Lib.hid hn
  have HX := Lib.hid hx
  clear hn hx
  go_enter Try.func7, Try.ntmps7
  go_wp2_with fail
  refine (sane_any _).mono ?_
  rintro e w1 ⟨rfl, f1⟩
  have F1 := Lib.hid f1
  clear f1
  go_wp2_with fail
  refine (pick_nat sz 300 _ hsz (by decide) (by decide)).mono ?_
  rintro e w' ⟨k, ⟨rfl, hk, -⟩, rfl⟩
  obtain ⟨size, hs1, hs2, hsz1⟩ : ∃ size : Nat, 1 ≤ size ∧ size ≤ 300 ∧ (1 + (k : Int)) = (size : Int) := ⟨1 + k, by omega, by omega, by omega⟩
  have HMK := Lib.hid (fun W => run_make_bytes size W (by omega))
  go_wp2_with fail
  refine (mnew size F1.out (by omega) (by omega)).mono ?_
  rintro e w2 ⟨b, rfl, m2⟩
  have M2 := Lib.hid m2
  clear m2 hsz1 hk
  have hmk := HMK.out
  have D0 := Lib.hid (DB.made (n := size) M2.out)
  have hcv0 := fun c => conv_any (w := w2.alloc (.cells (Lib.byteCells (List.replicate size 0)).toArray 5)) (D0.out.buf) (n := size) (by simp) c
  go_wp2_with fail
  clear hmk hcv0
  generalize (w2.alloc (.cells (Lib.byteCells (List.replicate size 0)).toArray 5)) = W3 at *
  generalize w2.heap.size = bb at *
  go_loopw [11, 12] (fun u i wr => ∃ (k : Nat) (d : Dm.Dk), k ≤ n ∧ k ≤ 60 ∧ u = .string ⟨d.sure.toArray⟩ ∧ i = .int .i64 k ∧ DB W b bb d.vis d wr ∧ Dm.Lv d size k) (fun _ i _ => n - (intOf i).toNat)
  case atStart => exact ⟨0, Dm.new size, Nat.zero_le _, Nat.zero_le _, rfl, rfl, D0.out, Dm.Lv.new hs1 (by omega)⟩
  case round =>
    obtain ⟨k, d, hk, hk60, rfl, rfl, hD, hL⟩ := hrel
    have HD := Lib.hid hD
    have HL := Lib.hid hL
    by_cases hlt : k < n ∧ k < 60
    · obtain ⟨hlt1, hlt2⟩ := hlt
      obtain ⟨b0, off, rfl, hxs⟩ := HX.out.resolve_left (by omega)
      have hxr := hxs.fr0 hD.fr
      have hkx : k < xs.length := by rw [HN.out]; exact hlt1
      have c0 := hxr.c0 k hkx
      have c1 := hxr.c1 k hkx
      have c2 := hxr.c2 k hkx
      obtain ⟨wo, ws⟩ := hxs.wf _ (List.getElem_mem hkx)
      have HXS := Lib.hid hxs
      generalize xs[k] = x at c0 c1 c2 wo ws
      obtain ⟨xo, xss, xy⟩ := x
      dsimp only at c0 c1 c2 wo ws
      have hu := Wp.fit_ok ⟨xo, xss, xy⟩ size
      have HFT := Lib.hid (fun w => fits_any ⟨xo, xss, xy⟩ size w wo ws (by omega))
      generalize Wp.fit ⟨xo, xss, xy⟩ size = u at hu HFT
      obtain ⟨p1, p2, p3, p4⟩ := hL.write hu.1
      have P1 := Lib.hid p1
      have P3 := Lib.hid p3
      have P4 := Lib.hid p4
      have P5 : Hid ((Dm.write d u.off u.s).sure = d.sure) := Lib.hid (by rw [p2])
      have HU := Lib.hid hu
      clear p1 p2 p3 p4 hxr hxs hD hL hu wo ws
      go_wp2_with fail
      refine (HFT.out _).mono ?_
      rintro e w4 ⟨rfl, f4⟩
      have HB4 := Lib.hid ((HD.out.fr0 f4).fr0 ((Fr.refl [] w4).alloc (.cells #[.int .i64 u.off, .string ⟨u.s.toArray⟩, .bool xy] 53)))
      have HY := Lib.hid (Blk.new w4 53 #[.int .i64 u.off, .string ⟨u.s.toArray⟩, .bool xy])
      clear f4 c0 c1 c2
      go_wp2_with fail
      generalize (w4.alloc (.cells #[.int .i64 u.off, .string ⟨u.s.toArray⟩, .bool xy] 53)) = W4 at *
      generalize w4.heap.size = gy at *
      refine (DB.put HB4.out u (HL.out.ok.vis_len.trans HL.out.len) HU.out.1 (by omega) rfl).mono ?_
      rintro e w5 ⟨rfl, h5, k5⟩
      have H5 := Lib.hid h5
      have Y5 := Lib.hid (k5.blk HY.out)
      have y0 := Y5.out.cell 0
      have y1 := Y5.out.cell 1
      clear h5 k5
      go_wp2_with fail
      refine (DB.write H5.out (c := 0) u.off u.s (okI_mk (by omega) (by have := HU.out.2; omega)) (by have := HL.out.pl; omega) (by rw [HL.out.left]; exact okI0) P1.out rfl).mono ?_
      rintro e w6 ⟨rfl, h6, k6⟩
      have H6 := Lib.hid h6
      have Y6 := Lib.hid (k6.blk Y5.out)
      have y2 := Y6.out.cell 2
      clear h6 k6 y0 y1
      generalize Dm.write d u.off u.s = d1 at *
      rw [← P4.out] at H6
      cases xy
      · rw [← P5.out]
        go_wp2_with fail
        go_roundw
        case rel => exact ⟨k + 1, d1, by omega, by omega, rfl, by go_num, H6.out, P3.out⟩
        case measure => simp [intOf]; omega
      · obtain ⟨q1, q2, q3, q4⟩ := P3.out.sync
        have Q1 := Lib.hid q1
        have Q3 := Lib.hid q3
        have Q4 := Lib.hid q4
        have Q5 : Hid ((Dm.sync d1).sure = d1.vis) := Lib.hid (by rw [q2])
        clear q1 q2 q3 q4
        go_wp2_with fail
        refine (DB.sync H6.out (c := 0) Q1.out rfl).mono ?_
        rintro e w7 ⟨rfl, h7, k7⟩
        have H7 := Lib.hid h7
        have Y7 := Lib.hid (k7.blk Y6.out)
        clear h7 k7 y2
        generalize Dm.sync d1 = d2 at *
        rw [← Q4.out] at H7
        have y27 := Y7.out.cell 2
        have hcv := fun c => conv_any H7.out.buf (Q3.out.ok.vis_len.trans Q3.out.len) c
        rw [Q4.out, ← Q5.out] at hcv
        go_wp2_with fail
        go_roundw
        case rel => exact ⟨k + 1, d2, by omega, by omega, rfl, by go_num, H7.out, Q3.out⟩
        case measure => simp [intOf]; omega
    · clear hD hL
      have hcr : Dm.crash d [] t = ⟨d.sure, [], false, 0⟩ := Dm.crash_nil d t
      have HCR := Lib.hid hcr
      have HLC := Lib.hid (HL.out.crash [] t)
      clear hcr
      go_wp2_with fail
      all_goals
        refine (DB.crash HD.out none 0 0 [] t rfl (by decide) (.inl rfl) ht HCR.out).mono ?_
        rintro e w7 ⟨rfl, h7, k7⟩
        have H7 := Lib.hid h7
        clear h7 k7
        have HRD := Lib.hid HLC.out.read
        rw [HCR.out] at HRD
        have HRD' : Hid (Dm.read ⟨d.sure, [], false, 0⟩ 0 size = (d.sure, 0)) := HRD
        go_wp2_with fail
        refine (mread 0 size H7.out.mine okI0 HRD'.out).mono ?_
        rintro e w' ⟨rfl, rfl⟩
        go_wp2_with fail
        refine (mpending (n := 0) H7.out.mine rfl).mono ?_
        rintro e w' ⟨rfl, rfl⟩
        go_wp2_with fail
        go_ret
        exact ⟨rfl, H7.out.fr.below⟩
end Go.Proofs.Ytbmakjhfoaadoaa
