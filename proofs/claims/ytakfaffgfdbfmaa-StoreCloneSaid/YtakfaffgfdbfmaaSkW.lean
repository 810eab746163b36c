/-
  StoreClone: the walk of the law.
-/
import Derived.Test.YtakfaffgfdbfmaaSwC
import Derived.Test.YtakfaffgfdbfmaaLgE
import Derived.Test.YtakfaffgfdbfmaaSwB
import Derived.Test.YtakfaffgfdbfmaaSwP
import Derived.Test.YtakfaffgfdbfmaaStK
import Derived.Deep.DeepCutAuto
import Derived.Deep.RegionLaw
import Derived.StillTailTactics
namespace Go.Proofs.Ytakfaffgfdbfmaa
open Go.RowKit

/-- Between two rounds of the applying to the clone. -/
structure CkRel (w2 w8 wr : World) (l : List Rec) (b m i : Nat) : Prop where
  st : StaAt wr b m (Lg.run (l.take i))
  fr : Fr [] w2 wr
  fr8 : Fr [b, m] w8 wr
/-- Between two rounds of the spoiling of the rows. -/
structure CkSp (w7 wr : World) (v : Value) (n : Nat) : Prop where
  all : ∃ R : List RowV, R.length = n ∧ RowsOwn wr v R
  fr : Fr [] w7 wr

set_option maxRecDepth 100000 in
set_option maxHeartbeats 4000000 in
theorem clone_walk (A : Option Addr) (n cap : Nat) (p : Int) (w : World) (hn : n ≤ cap) (hcap : cap ≤ maxLen) (hx : n = 0 ∨ ∃ bx ox, A = some ⟨bx, ox, none⟩ ∧ SixAt w bx ox n) (hbk : okI p) :
    Calls Try.prog 9 #[.slice A n cap, .int .i64 p] w fun e w' => e = .returned (.bool true) ∧ Below w.heap.size w w' := by
  have HX := Lib.hid hx
  have hbb := okI_bounds hbk
  clear hx hbk
  go_enter Try.func9, Try.ntmps9
  go_wp2_with fail
  refine (sane_any _).mono ?_
  rintro e w1 ⟨rfl, f1⟩
  have F1 := Lib.hid f1
  go_wp2_with fail
  refine (log4_any A n cap w1 hn hcap (by
    rcases HX.out with h0 | ⟨bx, ox, h1, h2⟩
    · exact .inl h0
    · exact .inr ⟨bx, ox, h1, h2.fr0 F1.out⟩)).mono ?_
  rintro e w2 ⟨vl, l, rfl, hor, hok, hll, f2, hvo⟩
  obtain ⟨A2, n2, cap2, hv⟩ : ∃ A n c, vl = .slice A n c := by
    obtain ⟨us, hus, _⟩ := hor
    obtain ⟨A2, cap2, hv⟩ := hus.val
    exact ⟨_, _, _, hv⟩
  subst hv
  obtain ⟨hat, hnl⟩ := hor.recs
  subst hnl
  have hc2 : l.length ≤ cap2 := hor.cap
  have HAT := Lib.hid hat
  have HOK := Lib.hid hok
  have F2 := Lib.hid f2
  have HP := Lib.hid (fun W => pick_any p (l.length + 1) W hbb.1 hbb.2 (by omega) (by omega))
  obtain ⟨q, hq, hql⟩ : ∃ q : Nat, pickI p (l.length + 1) = q ∧ q ≤ l.length := by
    have h1 := pickI_nonneg p (n := (l.length : Int) + 1) (by omega)
    have h2 := pickI_lt p (n := (l.length : Int) + 1) (by omega)
    exact ⟨(pickI p (l.length + 1)).toNat, by omega, by omega⟩
  rw [hq] at HP
  clear hq hor hat hok f1 f2 hbb hvo
  go_wp2_with fail
  refine (HP.out _).mono ?_
  rintro e w3 ⟨rfl, rfl⟩
  go_wp2_with fail
  refine (sat_ok A2 cap2 l q w2 HAT.out (by omega) hql hc2 (fun i h _ => HOK.out.fits i h)).mono ?_
  rintro e w3 ⟨b, m, rfl, hst, f3, hb, hm⟩
  have HST := Lib.hid hst
  have F3 := Lib.hid f3
  have HAT3 := Lib.hid (HAT.out.fr0 f3)
  have hl1 := hst.lt
  clear hst f3
  go_wp2_with fail
  refine (sat_ok A2 cap2 l q w3 HAT3.out (by omega) hql hc2 (fun i h _ => HOK.out.fits i h)).mono ?_
  rintro e w4 ⟨b', m', rfl, hst', f4, hb', hm'⟩
  have HST' := Lib.hid hst'
  have F4 := Lib.hid f4
  have HAT4 := Lib.hid (HAT3.out.fr0 f4)
  have hl2 := hst'.lt
  clear hst' f4
  go_wp2_with fail
  refine (sat_ok A2 cap2 l l.length w4 HAT4.out (by omega) (Nat.le_refl _) hc2 (fun i h _ => HOK.out.fits i h)).mono ?_
  rintro e w5 ⟨ba, ma, rfl, hsta, f5, hba, hma⟩
  have HSTA := Lib.hid hsta
  have F5 := Lib.hid f5
  have hl3 := hsta.lt
  clear hsta f5
  go_wp2_with fail
  have HS5 := Lib.hid (HST.out.fr0 (F4.out.trans F5.out))
  have HT5 := Lib.hid (HST'.out.fr0 F5.out)
  refine (sclone_any b m _ w5 HS5.out).mono ?_
  rintro e w6 ⟨bc, mc, rfl, hstc, f6, hbc, hmc⟩
  have HC6 := Lib.hid hstc
  have F6 := Lib.hid f6
  have hl4 := hstc.lt
  clear hstc f6
  go_wp2_with fail
  refine (equal_any bc mc b' m' _ _ w6 HC6.out (HT5.out.fr0 F6.out) (List.Perm.refl _)).mono ?_
  rintro e w7 ⟨rfl, f7⟩
  have F7 := Lib.hid f7
  have HC7 := Lib.hid (HC6.out.fr0 f7)
  have hpq : (Lg.run (l.take q)).pos = q := HOK.out.pos q hql
  clear f7
  go_wp2_with fail
  refine (sposition_any bc mc _ w7 HC7.out).mono ?_
  rintro e w8 ⟨rfl, rfl⟩
  rw [hpq]
  have R0 : Hid (CkRel w2 w7 w7 l bc mc q) := Lib.hid ⟨HC7.out, (((F3.out.trans F4.out).trans F5.out).trans F6.out).trans F7.out, Fr.refl _ _⟩
  have hsz : w2.heap.size ≤ w5.heap.size := ((F3.out.trans F4.out).trans F5.out).size
  have HS7 := Lib.hid (HS5.out.fr0 (F6.out.trans F7.out))
  have HT7 := Lib.hid (HT5.out.fr0 (F6.out.trans F7.out))
  have HA7 := Lib.hid (HSTA.out.fr0 (F6.out.trans F7.out))
  have hs3 := F3.out.size
  have hs4 := F4.out.size
  have hs5 := F5.out.size
  go_wp2_with fail
  go_loopw [15] (fun i wr => ∃ i0 : Nat, i = .int .i64 i0 ∧ q ≤ i0 ∧ i0 ≤ l.length ∧ Hid (CkRel w2 w7 wr l bc mc i0)) (fun i _ => l.length - (intOf i).toNat)
  case atStart => exact ⟨q, rfl, Nat.le_refl _, hql, R0⟩
  case round =>
    clear R0
    obtain ⟨i, rfl, hqi, hi, HR⟩ := hrel
    by_cases hlt : i < l.length
    · obtain ⟨bb, off, Ak, ck, hA, hbb, hc0, hc1, hhc, hl8⟩ := (HAT.out.fr0 HR.out.fr).open_ hlt
      subst hA
      have hfit := HOK.out.fits i hlt
      have hps := Lg.run_succ l hlt
      obtain ⟨r, hr⟩ : ∃ r, l[i] = r := ⟨_, rfl⟩
      rw [hr] at hc0 hc1 hhc hl8 hfit hps
      have hcode := Lib.hid (Lg.code_zero.2 hfit)
      have HPS := Lib.hid hps
      obtain ⟨nk, hnk⟩ : ∃ n, n = r.cs.length := ⟨_, rfl⟩
      rw [← hnk] at hc1
      obtain ⟨pk, hpk⟩ : ∃ n, n = r.p := ⟨_, rfl⟩
      rw [← hpk] at hc0
      have hap := Lib.hid (sapply_n bc mc (Lg.run (l.take i)) r Ak nk ck pk wr HR.out.st hhc hl8 hnk hpk)
      clear hhc hl8 hfit hps hr hnk hpk
      go_wp2_with fail
      refine hap.out.mono ?_
      rintro e w9 ⟨rfl, hst, hf⟩
      rw [hcode.out]
      have R3 : Hid (CkRel w2 w7 w9 l bc mc (i + 1)) := Lib.hid ⟨by rw [HPS.out]; exact hst, HR.out.fr.trans' hf (fun x hx => .inr (by
              simp only [List.mem_cons, List.not_mem_nil, or_false] at hx
              rcases hx with rfl | rfl <;> omega)), HR.out.fr8.trans' hf (fun x hx => .inl hx)⟩
      clear hst hf hap
      go_wp2_with fail
      go_roundw
      case rel => exact ⟨i + 1, by go_num, by omega, by omega, R3⟩
      case measure => simp [intOf]; omega
    · have hiq : i = l.length := by omega
      subst hiq
      have HS9 := Lib.hid (HS7.out.fr HR.out.fr8 (by simp; omega) (by simp; omega))
      have HT9 := Lib.hid (HT7.out.fr HR.out.fr8 (by simp; omega) (by simp; omega))
      have HA9 := Lib.hid (HA7.out.fr HR.out.fr8 (by simp; omega) (by simp; omega))
      obtain ⟨Wn, hWn⟩ : ∃ W, W = wr := ⟨_, rfl⟩
      subst hWn
      go_wp2_with fail
      refine (srows_any b m _ 0 Wn HS9.out).mono ?_
      rintro e wS ⟨v, R, rfl, hown, hpk, fS, hvg⟩
      have HOWN := Lib.hid hown
      have FS := Lib.hid fS
      have HRL := Lib.hid (hpk.len (Lg.run_ok _))
      obtain ⟨Av, nv, cv, hv, hnv⟩ : ∃ A n c, v = .slice A n c ∧ n = R.length := (match OwnL.val hown with | ⟨_, _, hv⟩ => ⟨_, _, _, hv, rfl⟩)
      subst hv
      have hn2 : nv ≤ 2000 := by rw [hnv]; exact HRL.out
      have P0 : Hid (CkSp Wn wS (.slice Av nv cv) nv) := Lib.hid ⟨⟨R, hnv.symm, hown⟩, fS⟩
      have HVG := Lib.hid hvg
      clear hown hpk fS hvg hnv
      go_wp2_with fail
      go_loopw [17] (fun j wq => ∃ j0 : Nat, j = .int .i64 j0 ∧ j0 ≤ nv ∧ Hid (CkSp Wn wq (.slice Av nv cv) nv)) (fun j _ => nv - (intOf j).toNat)
      case atStart => exact ⟨0, rfl, Nat.zero_le _, P0⟩
      case round =>
        clear P0
        obtain ⟨j, rfl, hj, HK⟩ := hrel
        by_cases hjl : j < nv
        · obtain ⟨R', hR', hown⟩ := HK.out.all
          subst hR'
          obtain ⟨gR, capR, hA, hnc, hcm, hgR, hcell, hfz⟩ := OwnL.form RowV.cells_len hown (by omega)
          cases hA
          have e1 : wr.cell? ⟨gR, j * 5 + 1, none⟩ = some (.int .i64 R'[j].k) := hcell j hjl 1 (by decide)
          have z1 := hfz (j * 5 + 1)
          have hsp : Hid (CkSp Wn (wr.setCell ⟨gR, j * 5 + 1, none⟩ (.int .i64 99)) (.slice (some ⟨gR, 0, none⟩) R'.length cv) R'.length) := Lib.hid ⟨⟨R'.set j { R'[j] with k := 99 }, List.length_set .., OwnL.set RowV.cells_len hown rfl hjl (by decide) _ _ rfl⟩, HK.out.fr.setCell (p := ⟨gR, j * 5 + 1, none⟩) (.inr (HVG.out gR rfl)) _⟩
          clear hcell hfz hown
          go_wp2_with fail
          go_roundw
          case rel => exact ⟨j + 1, by go_num, by omega, hsp⟩
          case measure => simp [intOf]; omega
        · have hjn : j = nv := by omega
          subst hjn
          have HCE := Lib.hid (HR.out.st.fr0 HK.out.fr)
          have HAE := Lib.hid (HA9.out.fr0 HK.out.fr)
          have HSE := Lib.hid (HS9.out.fr0 HK.out.fr)
          have HTE := Lib.hid (HT9.out.fr0 HK.out.fr)
          have HFE := Lib.hid (((F1.out.trans F2.out).trans HR.out.fr).trans HK.out.fr)
          have hq0 : ((q : Int) == (q : Int)) = true := by simp
          go_wp2_with fail
          refine (equal_any bc mc ba ma _ _ wr HCE.out HAE.out (List.Perm.refl _)).mono ?_
          rintro e wx ⟨rfl, fx⟩
          have FX := Lib.hid fx
          clear fx
          go_wp2_with fail
          refine (equal_any b m b' m' _ _ wx (HSE.out.fr0 FX.out) (HTE.out.fr0 FX.out) (List.Perm.refl _)).mono ?_
          rintro e wy ⟨rfl, fy⟩
          have FY := Lib.hid fy
          clear fy
          go_wp2_with fail
          refine (sposition_any b m _ wy (HSE.out.fr0 (FX.out.trans FY.out))).mono ?_
          rintro e wz ⟨rfl, rfl⟩
          rw [hpq]
          go_wp2_with fail
          go_ret
          exact ⟨rfl, ((HFE.out.trans FX.out).trans FY.out).below⟩
end Go.Proofs.Ytakfaffgfdbfmaa
