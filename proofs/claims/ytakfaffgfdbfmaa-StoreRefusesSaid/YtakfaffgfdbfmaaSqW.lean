/-
  StoreRefuses: the walk of the law.
-/
import Derived.Test.YtakfaffgfdbfmaaSwC
import Derived.Test.YtakfaffgfdbfmaaLgE
import Derived.Test.YtakfaffgfdbfmaaSwB
import Derived.Test.YtakfaffgfdbfmaaSwP
import Derived.Test.YtakfaffgfdbfmaaStQ
import Derived.Deep.DeepCutAuto
import Derived.Deep.RegionLaw
import Derived.Deep.RegionWith
import Derived.Deep.CutBlock
import Derived.StillTailTactics
namespace Go.Proofs.Ytakfaffgfdbfmaa
open Go.RowKit

theorem reads_of_chgs {w : World} {A : Option Addr} {cs : List Chg} (h : ChgsAt w A cs) : Reads w w.heap.size 10 A cs.length (cs.flatMap Chg.cells) := by
  refine ⟨flat_len Chg.len cs, fun hl => ?_⟩
  obtain ⟨b, off, e, hb, hc⟩ := h hl
  refine ⟨_, e, hb, fun q u hu => ?_⟩
  have hq : q < cs.length * 10 := by
    rw [← flat_len Chg.len cs]
    exact (List.getElem?_eq_some_iff.1 hu).1
  have h1 := hc (q / 10) (by omega) (q % 10) (by omega)
  have h2 := flat_get Chg.len cs (q / 10) (by omega) (q % 10) (by omega)
  rw [show q / 10 * 10 + q % 10 = q by omega] at h2
  have hadd : (⟨b, off, none⟩ : Addr).add q = ⟨b, off + q, none⟩ := by unfold Addr.add; split <;> simp_all
  rw [hadd, show off + q = off + q / 10 * 10 + q % 10 by omega, h1, ← h2, hu]

theorem OwnL.again {X : Type} {e size : Nat} {enc : X → List Value} {w : World} {v : Value} {L : List X} {i : Nat} {y : X} (henc : ∀ x, (enc x).length = size) (h : OwnL e size enc w v (L.set i y)) {g j : Nat} (hg : v.ownBlock = some g) (hi : i < L.length) (hj : j < size) (u : Value) (x : X) (hx : enc x = (enc y).set j u) :
    OwnL e size enc (w.setCell ⟨g, i * size + j, none⟩ u) v (L.set i x) := by
  have h1 := OwnL.set henc h hg (i := i) (by simpa using hi) hj u x (by simpa using hx)
  rwa [List.set_set] at h1
theorem Sm.old_bound {s : Sm.Sta} {r : Rec} (h : Sm.fits s r = true) {i : Nat} (hi : i < r.cs.length) : -1000000000 ≤ r.cs[i].o1 ∧ r.cs[i].o1 ≤ 1000000000 := by
  simp only [Sm.fits, Bool.and_eq_true] at h
  have hv := (Rw.valid_all h.1.1).1 _ (List.getElem_mem hi)
  generalize r.cs[i] = c at hv
  simp only [Rw.chg, Bool.and_eq_true] at hv
  have h2 := hv.1.2
  unfold Rw.sound at h2
  split at h2
  · simp only [Rw.row, Rw.inI, Bool.and_eq_true, decide_eq_true_eq] at h2
    omega
  · simp only [decide_eq_true_eq] at h2
    omega
/-- The damaged record, ahead of the applying. -/
structure RqAt (w4 wc : World) (gr : Nat) (S : Sm.Sta) : Prop where
  all : ∃ (r' : Rec) (A' : Option Addr) (n' c' : Nat), Blk wc gr 32 #[.int .i64 r'.p, .slice A' n' c'] ∧ n' = r'.cs.length ∧ HoldsC wc A' r'.cs ∧ r'.cs.length ≤ 8 ∧ Sm.fits S r' = false
  fr : Fr [] w4 wc
theorem RqAt.drew {w4 W : World} {gr : Nat} {S : Sm.Sta} (h : RqAt w4 W gr S) : RqAt w4 W.drew gr S := ⟨h.all, h.fr.drew⟩

set_option maxRecDepth 100000 in
set_option maxHeartbeats 4000000 in
theorem refuse_walk (A : Option Addr) (n cap : Nat) (which how : Int) (w : World) (hn : n ≤ cap) (hcap : cap ≤ maxLen) (hx : n = 0 ∨ ∃ bx ox, A = some ⟨bx, ox, none⟩ ∧ SixAt w bx ox n) (hbk : okI which) (hbh : okI how) :
    Calls Try.prog 6 #[.slice A n cap, .int .i64 which, .int .i64 how] w fun e w' => e = .returned (.bool true) ∧ Below w.heap.size w w' := by
  have HX := Lib.hid hx
  have hbb := okI_bounds hbk
  have hbb2 := okI_bounds hbh
  clear hx hbk hbh
  go_enter Try.func6, Try.ntmps6
  go_wp2_with fail
  refine (sane_any _).mono ?_
  rintro e w1 ⟨rfl, f1⟩
  have F1 := Lib.hid f1
  go_wp2_with fail
  refine (log4_any A n cap w1 hn hcap (by
    rcases HX.out with h0 | ⟨bx, ox, h1, h2⟩
    · exact .inl h0
    · exact .inr ⟨bx, ox, h1, h2.fr0 F1.out⟩)).mono ?_
  rintro e w2 ⟨vl, l, rfl, hor, hok, hll, f2, hvo⟩
  obtain ⟨A2, n2, cap2, hv⟩ : ∃ A n c, vl = .slice A n c := by
    obtain ⟨us, hus, _⟩ := hor
    obtain ⟨A2, cap2, hv⟩ := hus.val
    exact ⟨_, _, _, hv⟩
  subst hv
  obtain ⟨hat, hnl⟩ := hor.recs
  subst hnl
  have hc2 : l.length ≤ cap2 := hor.cap
  have HAT := Lib.hid hat
  have HOK := Lib.hid hok
  have F2 := Lib.hid f2
  clear hor hat hok f1 f2 hvo
  by_cases hl0 : l.length = 0
  · rw [hl0]
    go_wp2_with fail
    go_ret
    exact ⟨rfl, (F1.out.trans F2.out).below⟩
  · obtain ⟨q, hq⟩ : ∃ q : Nat, q + 1 = l.length := ⟨l.length - 1, by omega⟩
    have e1 : (l.length : Int) - 1 = (q : Int) := by omega
    have hql : q < l.length := by omega
    go_wp2_with fail
    refine (sat_ok A2 cap2 l q w2 HAT.out (by omega) (by omega) hc2 (fun i h _ => HOK.out.fits i h)).mono ?_
    rintro e w3 ⟨b, m, rfl, hst, f3, hb, hm⟩
    have HST := Lib.hid hst
    have F3 := Lib.hid f3
    have HAT3 := Lib.hid (HAT.out.fr0 f3)
    have hl1 := hst.lt
    clear hst f3
    go_wp2_with fail
    refine (sat_ok A2 cap2 l q w3 HAT3.out (by omega) (by omega) hc2 (fun i h _ => HOK.out.fits i h)).mono ?_
    rintro e w4 ⟨b', m', rfl, hst', f4, hb', hm'⟩
    have HST' := Lib.hid hst'
    have F4 := Lib.hid f4
    have HAT4 := Lib.hid (HAT3.out.fr0 f4)
    have HS4 := Lib.hid (HST.out.fr0 f4)
    have hl2 := hst'.lt
    clear hst' f4
    obtain ⟨bb, off, Ak, ck, hA, hbb0, hc0, hc1, hhc, hl8⟩ := HAT4.out.open_ hql
    subst hA
    have hfit := HOK.out.fits q hql
    have hps := HOK.out.pos q (by omega)
    obtain ⟨r, hr⟩ : ∃ r, l[q] = r := ⟨_, rfl⟩
    have HRQ := Lib.hid hr
    rw [hr] at hc0 hc1 hhc hl8 hfit
    have hln := Sm.fits_len hfit
    have HHC := Lib.hid hhc
    have HFT := Lib.hid hfit
    have HPS := Lib.hid hps
    clear hhc hfit hps hr
    obtain ⟨nk, hnk⟩ : ∃ n, n = r.cs.length := ⟨_, rfl⟩
    rw [← hnk] at hc1 hln hl8
    have HNK := Lib.hid hnk
    obtain ⟨pk, hpk⟩ : ∃ n, n = r.p := ⟨_, rfl⟩
    rw [← hpk] at hc0
    have HPK := Lib.hid hpk
    clear hnk hpk
    have HP1 := Lib.hid (fun W => pick_any which nk W hbb.1 hbb.2 (by omega) (by omega))
    obtain ⟨j, hj, hjn⟩ : ∃ j : Nat, pickI which nk = j ∧ j < nk := by
      have h1 := pickI_nonneg which (n := (nk : Int)) (by omega)
      have h2 := pickI_lt which (n := (nk : Int)) (by omega)
      exact ⟨(pickI which nk).toNat, by omega, by omega⟩
    rw [hj] at HP1
    have HP2 := Lib.hid (fun W => pick_any how 4 W hbb2.1 hbb2.2 (by omega) (by omega))
    have hrd := Lib.hid (reads_of_chgs HHC.out.1)
    have hbr := Blk.new w4 32 #[.int .i64 pk, .slice Ak nk ck]
    have HBR := Lib.hid hbr
    have hsz4 := hbr.lt
    have hlen : Hid (([] : List Chg).length + r.cs.length ≤ 140) := Lib.hid (by rw [← HNK.out]; simp only [List.length_nil]; omega)
    have hmx : Hid ((140 : Nat) ≤ maxLen) := Lib.hid (by decide)
    have hpos : 0 < nk := by omega
    have hrd5 : Hid (Reads ((w4.alloc (.cells #[.int .i64 pk, .slice Ak nk ck] 32)).alloc (.cells #[] 57)) w4.heap.size 10 Ak nk (r.cs.flatMap Chg.cells)) := Lib.hid (by
      have h1 := (hrd.out.alloc (Nat.le_refl _) (.cells #[.int .i64 pk, .slice Ak nk ck] 32)).alloc (by rw [World.size_alloc]; omega) (.cells #[] 57)
      rw [← HNK.out] at h1
      exact h1)
    obtain ⟨i0, TR⟩ := etChg
    clear hbr
    go_wp2_with (at_builtin; refine wpList_append_fullL rfl _ _ rfl TR Chg.one 0 _ 0 _ rfl (L := []) rfl ⟨by simp, fun h => absurd h (by decide)⟩ (Nat.le_refl _) _ _ _ _ (N := r.cs) rfl HNK.out hpos hrd5.out (Nat.le_trans hlen.out hmx.out) (Nat.le_trans (Nat.mul_le_mul_right 80 hlen.out) (by decide)) ?_; intro v5 w5 hown5 hg5 hat5; rw [List.nil_append] at hown5; have HO5 := Lib.hid hown5; have HG5 := Lib.hid hg5; obtain ⟨g1, c1, hv5, hle1, hcm1, hg1, hcell1, hfz1⟩ := OwnL.form Chg.len hown5 (by rw [← HNK.out]; exact hpos); subst hv5; rw [← HNK.out] at HO5 hle1 ⊢; have HA5 := Lib.hid hat5; have f45 : Fr [] (w4.alloc (.cells #[.int .i64 pk, .slice Ak nk ck] 32)) w5 := ((Fr.refl _ _).alloc _).grown HG5.out (fun g hg => by cases hg); have hb5 := HBR.out.fr f45 (by simp); have HB5 := Lib.hid hb5; have F45 := Lib.hid f45; have s1 := hb5.cell 1; have s1z := hb5.frozen 1; have s1l := hb5.lt; have HNE := Lib.hid (HO5.out.ne HB5.out (by decide) (g := g1) rfl); clear hown5 hg5 hat5 hb5 f45 hcell1 hfz1)
    have HB7 := Lib.hid (HB5.out.set_ 1 (.slice (some ⟨g1, 0, none⟩) nk c1))
    have HO7 := Lib.hid (HO5.out.fr ((Fr.refl [w4.heap.size] w5).setCell (p := ⟨w4.heap.size, 1, none⟩) (.inl (by simp)) (.slice (some ⟨g1, 0, none⟩) nk c1)) (fun g hg => by
      have h2 : g1 = g := by simpa [Value.ownBlock] using hg
      have h3 := HNE.out
      subst h2
      simpa using h3))
    have F7 := Lib.hid ((((Fr.refl [] w4).alloc _).trans F45.out).setCell (p := ⟨w4.heap.size, 1, none⟩) (.inr (Nat.le_refl _)) (.slice (some ⟨g1, 0, none⟩) nk c1))
    have hg17 : g1 < (w5.setCell ⟨w4.heap.size, 1, none⟩ (.slice (some ⟨g1, 0, none⟩) nk c1)).heap.size := HO7.out.lt rfl
    have hgs : w4.heap.size ≤ g1 := by
      have h1 := F45.out.size
      rw [World.size_alloc] at h1
      rcases Nat.lt_or_ge g1 w4.heap.size with h2 | h2
      · exfalso
        have h3 := HG5.out
        have h4 := HA5.out
        have h5 : some g1 = some _ := h4
        simp at h5
        omega
      · exact h2
    generalize (w5.setCell ⟨w4.heap.size, 1, none⟩ (.slice (some ⟨g1, 0, none⟩) nk c1)) = W7 at *
    have hpk0 : pk ≤ 1000 ∧ 0 ≤ pk := by
      have h1 := HOK.out.at_ hql
      rw [HRQ.out] at h1
      rw [HPK.out, h1]
      omega
    have hjr : j < r.cs.length := by rw [← HNK.out]; exact hjn
    have hob := Sm.old_bound HFT.out hjr
    have hgb := HB7.out.lt
    have p0 : W7.cell? ⟨w4.heap.size, 0, none⟩ = some (.int .i64 pk) := by have h1 := HB7.out.cell 0; simpa using h1
    have p0z := HB7.out.frozen 0
    have p1z := HB7.out.frozen 1
    have p1 : W7.cell? ⟨w4.heap.size, 1, none⟩ = some (.slice (some ⟨g1, 0, none⟩) nk c1) := by have h1 := HB7.out.cell 1; simpa using h1
    have hfm := HO7.out.form Chg.len (by omega)
    obtain ⟨g1', c1', hv7, _, _, _, hcell, hfz⟩ := hfm
    obtain rfl : g1 = g1' := by simpa [Value.ownBlock] using congrArg Value.ownBlock hv7
    clear hv7
    have y2 : W7.cell? ⟨g1, j * 10 + 2, none⟩ = some (.bool r.cs[j].had) := hcell j hjr 2 (by decide)
    have y3 : W7.cell? ⟨g1, j * 10 + 3, none⟩ = some (.int .i64 r.cs[j].o0) := hcell j hjr 3 (by decide)
    have y4 : W7.cell? ⟨g1, j * 10 + 4, none⟩ = some (.int .i64 r.cs[j].o1) := hcell j hjr 4 (by decide)
    have y5 : W7.cell? ⟨g1, j * 10 + 5, none⟩ = some (.int .i64 r.cs[j].o2) := hcell j hjr 5 (by decide)
    have z2 := hfz (j * 10 + 2)
    have z3 := hfz (j * 10 + 3)
    have z4 := hfz (j * 10 + 4)
    have z5 := hfz (j * 10 + 5)
    clear hcell hfz
    replace HB7 : Hid (Blk W7 w4.heap.size 32 #[.int .i64 pk, .slice (some ⟨g1, 0, none⟩) nk c1]) := Lib.hid (by have h1 := HB7.out; simpa using h1)
    have hne1 : Hid (w4.heap.size ≠ g1) := Lib.hid (fun h => HNE.out h.symm)
    have hown1 : Hid (∀ g, (Value.slice (some ⟨g1, 0, none⟩) nk c1).ownBlock = some g → g ∉ [w4.heap.size]) := Lib.hid (fun g hg => by
      have h2 : g1 = g := by simpa [Value.ownBlock] using hg
      have h3 := HNE.out
      subst h2
      simpa using h3)
    go_cut [14] (fun s14 wc => s14 = .pointer (some ⟨g1, j * 10, none⟩) ∧ wc = W7.drew)
    case first =>
      go_region_with (go_at_call 18; refine (HP1.out _).mono ?_; rintro e w6 ⟨rfl, rfl⟩)
      all_goals (go_wp2_with fail; go_meet; exact ⟨rfl, rfl⟩)
    case rest =>
      obtain ⟨rfl, rfl⟩ := hcut
      obtain ⟨h4, hh4, hlt4⟩ : ∃ h : Nat, pickI how 4 = h ∧ h < 4 := by
        have h1 := pickI_nonneg how (n := 4) (by omega)
        have h2 := pickI_lt how (n := 4) (by omega)
        exact ⟨(pickI how 4).toNat, by omega, by omega⟩
      rw [hh4] at HP2
      clear hh4
      go_upto_block 0 with (refine (HP2.out _).mono ?_; rintro e w6 ⟨rfl, rfl⟩)
      go_cut [] (fun wc => Hid (RqAt w4 wc w4.heap.size (Lg.run (l.take q))))
      case first =>
        obtain rfl | rfl | rfl | rfl : h4 = 0 ∨ h4 = 1 ∨ h4 = 2 ∨ h4 = 3 := by omega
        · go_wp2_with fail
          go_meet
          case rel => exact Lib.hid (RqAt.drew ⟨⟨⟨pk + 1, r.cs⟩, some ⟨g1, 0, none⟩, nk, c1, by have h1 := HB7.out.set_ 0 (.int .i64 (pk + 1)); simpa using h1, HNK.out,
            (HO7.out.fr ((Fr.refl [w4.heap.size] W7).setCell (p := ⟨w4.heap.size, 0, none⟩) (.inl (by simp)) _) (hown1.out)).holdsC, by rw [← HNK.out]; exact hl8, Sm.refuse_pos HFT.out (by rw [← HPK.out]; omega)⟩,
            F7.out.setCell (p := ⟨w4.heap.size, 0, none⟩) (.inr (Nat.le_refl _)) _⟩)
        · go_wp2_with fail
          go_meet
          case rel =>
            have h1 := OwnL.set Chg.len HO7.out rfl hjr (j := 2) (by decide) (.bool (!r.cs[j].had)) { r.cs[j] with had := !r.cs[j].had } rfl
            have h2 := OwnL.again Chg.len h1 rfl hjr (j := 3) (by decide) (.int .i64 0) { r.cs[j] with had := !r.cs[j].had, o0 := 0 } rfl
            have h3 := OwnL.again Chg.len h2 rfl hjr (j := 4) (by decide) (.int .i64 0) { r.cs[j] with had := !r.cs[j].had, o0 := 0, o1 := 0 } rfl
            have h4 := OwnL.again Chg.len h3 rfl hjr (j := 5) (by decide) (.int .i64 0) (Sm.dmg1 r.cs[j]) rfl
            exact Lib.hid (RqAt.drew ⟨⟨⟨pk, r.cs.set j (Sm.dmg1 r.cs[j])⟩, some ⟨g1, 0, none⟩, nk, c1, (((HB7.out.far hne1.out _).far hne1.out _).far hne1.out _).far hne1.out _, by rw [List.length_set]; exact HNK.out, h4.holdsC,
              by rw [List.length_set, ← HNK.out]; exact hl8, Sm.refuse1 HFT.out hjr pk⟩, (((F7.out.setCell (.inr hgs) _).setCell (.inr hgs) _).setCell (.inr hgs) _).setCell (.inr hgs) _⟩)
        · go_wp2_with fail
          go_region
          go_wp2_with fail
          go_meet
          case rel =>
            have h1 := OwnL.set Chg.len HO7.out rfl hjr (j := 4) (by decide) (.int .i64 (r.cs[j].o1 + 1)) (Sm.dmg2 r.cs[j]) rfl
            exact Lib.hid (RqAt.drew (RqAt.drew ⟨⟨⟨pk, r.cs.set j (Sm.dmg2 r.cs[j])⟩, some ⟨g1, 0, none⟩, nk, c1, HB7.out.far hne1.out _, by rw [List.length_set]; exact HNK.out, h1.holdsC,
              by rw [List.length_set, ← HNK.out]; exact hl8, Sm.refuse2 HFT.out hjr pk⟩, F7.out.setCell (.inr hgs) _⟩))
        · go_wp2_with fail
          go_meet
          case rel => exact Lib.hid (RqAt.drew ⟨⟨⟨pk, []⟩, none, 0, 0, by have h1 := HB7.out.set_ 1 (.slice none 0 0); simpa using h1, rfl, ⟨fun h => absurd h (by simp), fun h => absurd h (by simp)⟩, by simp, Sm.refuse_nil _ _⟩,
            F7.out.setCell (p := ⟨w4.heap.size, 1, none⟩) (.inr (Nat.le_refl _)) _⟩)
      case rest =>
        obtain ⟨r', A', n', c', hB, hn', hH, hl', hF⟩ := hcut.out.all
        have FC := Lib.hid hcut.out.fr
        clear hcut
        have r0 := hB.cell 0
        have r1 := hB.cell 1
        obtain ⟨hcd, hap⟩ := Sm.refused hF
        have hA := sapply_n b m (Lg.run (l.take q)) r' A' n' c' r'.p wc (HS4.out.fr0 FC.out) hH hl' hn' rfl
        rw [hcd, hap] at hA
        have HAP := Lib.hid hA
        generalize r'.p = pp at r0 HAP
        clear hB hn' hH hl' hF hcd hap hA
        go_wp2_with fail
        refine HAP.out.mono ?_
        rintro e w9 ⟨rfl, hst9, f9⟩
        have HS9 := Lib.hid hst9
        have HT9 := Lib.hid ((HST'.out.fr0 FC.out).fr f9 (by simp; omega) (by simp; omega))
        have F29 : Fr [] w2 w9 := ((F3.out.trans F4.out).trans FC.out).trans' f9 (fun x hx => .inr (by
          simp only [List.mem_cons, List.not_mem_nil, or_false] at hx
          rcases hx with rfl | rfl <;> omega))
        have HF29 := Lib.hid F29
        clear hst9 f9 F29
        go_wp2_with fail
        refine (equal_any b m b' m' _ _ w9 HS9.out HT9.out (List.Perm.refl _)).mono ?_
        rintro e w10 ⟨rfl, f10⟩
        have HS10 := Lib.hid (HS9.out.fr0 f10)
        have HT10 := Lib.hid (HT9.out.fr0 f10)
        have HF20 := Lib.hid (HF29.out.trans f10)
        clear f10
        have hpe : ((Lg.run (l.take q)).pos == (Lg.run (l.take q)).pos) = true := by simp
        obtain ⟨bb', off', Ak', ck', hA', hbb', hc0', hc1', hhc', _⟩ := (HAT.out.fr0 HF20.out).open_ hql
        cases hA'
        rw [HRQ.out] at hc0' hc1' hhc'
        rw [← HPK.out] at hc0'
        rw [← HNK.out] at hc1'
        have hcode := Lib.hid (Lg.code_zero.2 HFT.out)
        have HAQ := Lib.hid (sapply_n b m (Lg.run (l.take q)) r Ak' nk ck' pk w10 HS10.out hhc' (by rw [← HNK.out]; exact hl8) HNK.out HPK.out)
        clear hhc' hc0 hc1
        go_wp2_with fail
        refine (sposition_any b m _ w10 HS10.out).mono ?_
        rintro e w11 ⟨rfl, rfl⟩
        go_wp2_with fail
        refine (sposition_any b' m' _ w10 HT10.out).mono ?_
        rintro e w11 ⟨rfl, rfl⟩
        go_wp2_with fail
        refine HAQ.out.mono ?_
        rintro e w12 ⟨rfl, _, f12⟩
        rw [hcode.out]
        have HFE := Lib.hid (((F1.out.trans F2.out).trans HF20.out).trans' f12 (fun x hx => .inr (by
          simp only [List.mem_cons, List.not_mem_nil, or_false] at hx
          have h1 := ((F1.out.trans F2.out)).size
          rcases hx with rfl | rfl <;> omega)))
        clear f12
        go_wp2_with fail
        go_ret
        exact ⟨rfl, HFE.out.below⟩
end Go.Proofs.Ytakfaffgfdbfmaa
