/-
  StoreLast: the walk of the law.
-/
import Derived.Test.YtakfaffgfdbfmaaSwC
import Derived.Test.YtakfaffgfdbfmaaLgE
import Derived.Test.YtakfaffgfdbfmaaSwB
import Derived.Test.YtakfaffgfdbfmaaSwP
import Derived.Test.YtakfaffgfdbfmaaStL
import Derived.Test.YtakfaffgfdbfmaaStD
import Derived.Test.YtakfaffgfdbfmaaRfD
import Derived.Deep.DeepCutAuto
import Derived.Deep.RegionLaw
import Derived.Deep.CutBlock
import Derived.StillTailTactics
namespace Go.Proofs.Ytakfaffgfdbfmaa
open Go.RowKit

/-- What the last change leaves, while the records are looked through. -/
structure LastAt (wm wr : World) (gw : Nat) (o : Option RowV) : Prop where
  all : ∃ r : RowV, Blk wr gw 50 #[.int .i64 r.t, .int .i64 r.k, .int .i64 r.x, .int .i64 r.y, .int .i64 r.z] ∧ ∀ r', o = some r' → r' = r
  fr : Fr [] wm wr
theorem LastAt.fr0 {wm w w' : World} {gw : Nat} {o : Option RowV} (h : LastAt wm w gw o) (hf : Fr [] w w') : LastAt wm w' gw o :=
  ⟨h.all.elim fun r h1 => ⟨r, h1.1.fr hf (by simp), h1.2⟩, h.fr.trans hf⟩

set_option maxRecDepth 100000 in
set_option maxHeartbeats 4000000 in
theorem last_walk (A : Option Addr) (n cap : Nat) (p : Int) (w : World) (hn : n ≤ cap) (hcap : cap ≤ maxLen) (hx : n = 0 ∨ ∃ bx ox, A = some ⟨bx, ox, none⟩ ∧ SixAt w bx ox n) (hbk : okI p) :
    Calls Try.prog 7 #[.slice A n cap, .int .i64 p] w fun e w' => e = .returned (.bool true) ∧ Below w.heap.size w w' := by
  have HX := Lib.hid hx
  have hbb := okI_bounds hbk
  clear hx hbk
  go_enter Try.func7, Try.ntmps7
  go_wp2_with fail
  refine (sane_any _).mono ?_
  rintro e w1 ⟨rfl, f1⟩
  have F1 := Lib.hid f1
  go_wp2_with fail
  refine (log4_any A n cap w1 hn hcap (by
    rcases HX.out with h0 | ⟨bx, ox, h1, h2⟩
    · exact .inl h0
    · exact .inr ⟨bx, ox, h1, h2.fr0 F1.out⟩)).mono ?_
  rintro e w2 ⟨vl, l, rfl, hor, hok, hll, f2, hvo⟩
  obtain ⟨A2, n2, cap2, hv⟩ : ∃ A n c, vl = .slice A n c := by
    obtain ⟨us, hus, _⟩ := hor
    obtain ⟨A2, cap2, hv⟩ := hus.val
    exact ⟨_, _, _, hv⟩
  subst hv
  obtain ⟨hat, hnl⟩ := hor.recs
  subst hnl
  have hc2 : l.length ≤ cap2 := hor.cap
  have HAT := Lib.hid hat
  have HOK := Lib.hid hok
  have F2 := Lib.hid f2
  have HP := Lib.hid (fun W => pick_any p (l.length + 1) W hbb.1 hbb.2 (by omega) (by omega))
  obtain ⟨q, hq, hql⟩ : ∃ q : Nat, pickI p (l.length + 1) = q ∧ q ≤ l.length := by
    have h1 := pickI_nonneg p (n := (l.length : Int) + 1) (by omega)
    have h2 := pickI_lt p (n := (l.length : Int) + 1) (by omega)
    exact ⟨(pickI p (l.length + 1)).toNat, by omega, by omega⟩
  rw [hq] at HP
  clear hq hor hat hok f1 f2 hbb hvo
  go_wp2_with fail
  refine (HP.out _).mono ?_
  rintro e w3 ⟨rfl, rfl⟩
  go_wp2_with fail
  refine (sat_ok A2 cap2 l q w2 HAT.out (by omega) hql hc2 (fun i h _ => HOK.out.fits i h)).mono ?_
  rintro e w3 ⟨b, m, rfl, hst, f3, hb, hm⟩
  have HST := Lib.hid hst
  have F3 := Lib.hid f3
  have HAT3 := Lib.hid (HAT.out.fr0 f3)
  have hl1 := hst.lt
  clear hst f3
  obtain ⟨M, hM⟩ : ∃ M, (Lg.run (l.take q)).M = M := ⟨_, rfl⟩
  have HM := Lib.hid hM
  clear hM
  go_wp2_with fail
  go_loopw [10, 11] (fun ct t wr => ∃ t0 : Nat, (ct = .int .i64 (Lst.cnt (Lst.there M) (t0 * 9) : Nat) ∧ t = .int .i64 t0) ∧ t0 ≤ 3 ∧ Hid (Fr [] w3 wr)) (fun _ t _ => 3 - (intOf t).toNat)
  case atStart => exact ⟨0, ⟨rfl, rfl⟩, by omega, Lib.hid (Fr.refl _ _)⟩
  case round =>
    obtain ⟨t0, ⟨rfl, rfl⟩, ht, HR⟩ := hrel
    by_cases ht3 : t0 < 3
    · obtain ⟨Wt, hWt⟩ : ∃ W, W = wr := ⟨_, rfl⟩
      subst hWt
      have hct := Lst.cnt_le (Lst.there M) (t0 * 9)
      generalize hcg : Lst.cnt (Lst.there M) (t0 * 9) = c0 at *
      have HCG := Lib.hid hcg
      clear hcg
      go_wp2_with fail
      rw [show decide ((t0 : Int) < 3) = true from decide_eq_true (by omega)]
      have HT3 := Lib.hid ht3
      clear ht3
      go_loopw [10, 12] (fun ct k wr => ∃ k0 : Nat, (ct = .int .i64 (Lst.cnt (Lst.there M) (t0 * 9 + k0) : Nat) ∧ k = .int .i64 (1 + k0 : Nat)) ∧ k0 ≤ 9 ∧ Hid (Fr [] w3 wr)) (fun _ k _ => 10 - (intOf k).toNat)
      case atStart => exact ⟨0, ⟨by rw [← HCG.out]; rfl, rfl⟩, by omega, HR⟩
      case round =>
        obtain ⟨k0, ⟨rfl, rfl⟩, hk, HK⟩ := hrel
        by_cases hk9 : k0 < 9
        · obtain ⟨Wk, hWk⟩ : ∃ W, W = wr := ⟨_, rfl⟩
          subst hWk
          have L0 : Hid (LastAt Wk (Wk.alloc (.cells #[.int .i64 0, .int .i64 0, .int .i64 0, .int .i64 0, .int .i64 0] 50)) Wk.heap.size none) := Lib.hid ⟨⟨⟨0, 0, 0, 0, 0⟩, Blk.new Wk 50 #[.int .i64 0, .int .i64 0, .int .i64 0, .int .i64 0, .int .i64 0], fun r' h => by cases h⟩, (Fr.refl _ _).alloc _⟩
          go_wp2_with fail
          rw [show decide (1 + (k0 : Int) ≤ 9) = true from decide_eq_true (by omega)]
          have HK9 := Lib.hid hk9
          clear hk9
          obtain ⟨kk, hkk⟩ : ∃ kk : Int, ((1 + k0 : Nat) : Int) = kk := ⟨_, rfl⟩
          have HKK := Lib.hid hkk
          rw [hkk]
          have hkb : 1 ≤ kk ∧ kk ≤ 9 := by have := HK9.out; omega
          clear hkk
          generalize hgw : Wk.heap.size = gw at L0 ⊢
          have HGW := Lib.hid hgw
          clear hgw
          go_loopw [14, 15] (fun th i wr => ∃ (tb : Bool) (i0 : Nat), (th = .bool tb ∧ i = .int .i64 i0) ∧ tb = (Lst.last t0 kk (l.take i0)).isSome ∧ i0 ≤ q ∧ Hid (LastAt Wk wr gw (Lst.last t0 kk (l.take i0)))) (fun _ i _ => q - (intOf i).toNat)
          case atStart => exact ⟨false, 0, ⟨rfl, rfl⟩, rfl, Nat.zero_le _, L0⟩
          case round =>
            clear L0
            obtain ⟨tb, i, ⟨rfl, rfl⟩, htb, hi, HI⟩ := hrel
            by_cases hiq : i < q
            · have hil : i < l.length := by omega
              obtain ⟨r, hr⟩ : ∃ r, l[i] = r := ⟨_, rfl⟩
              have HLS : Hid (Lst.last t0 kk (l.take (i + 1)) = r.cs.foldl (Lst.hit t0 kk) (Lst.last t0 kk (l.take i))) := Lib.hid (by
                rw [List.take_succ_eq_append_getElem hil, hr]
                unfold Lst.last
                rw [List.foldl_append]
                rfl)
              have HOP := Lib.hid (fun W (f : Fr [] w2 W) => (HAT.out.fr0 f).open_ hil)
              rw [hr] at HOP
              have HF2 := Lib.hid (F3.out.trans HK.out)
              clear hr
              generalize Lst.last t0 kk (l.take i) = w0 at *
              go_wp2_with fail
              go_loopw [14, 16] (fun th k wr => ∃ (th0 : Bool) (k1 : Nat), (th = .bool th0 ∧ k = .int .i64 k1) ∧ th0 = ((r.cs.take k1).foldl (Lst.hit t0 kk) w0).isSome ∧ k1 ≤ r.cs.length ∧ Hid (LastAt Wk wr gw ((r.cs.take k1).foldl (Lst.hit t0 kk) w0))) (fun _ k _ => r.cs.length - (intOf k).toNat)
              case atStart => exact ⟨tb, 0, ⟨rfl, rfl⟩, htb, Nat.zero_le _, HI⟩
              case round =>
                clear HI
                obtain ⟨th, k, ⟨rfl, rfl⟩, hth, hk1, HL⟩ := hrel
                obtain ⟨bb, off, Ak, ck, hA, hbb, hc0, hc1, hhc, hl8⟩ := HOP.out wr (HF2.out.trans HL.out.fr)
                subst hA
                by_cases hkl : k < r.cs.length
                · obtain ⟨b0, o0, hA, hb0, hcc⟩ := hhc.1 (by omega)
                  subst hA
                  have HTS : Hid ((r.cs.take (k + 1)).foldl (Lst.hit t0 kk) w0 = Lst.hit t0 kk ((r.cs.take k).foldl (Lst.hit t0 kk) w0) r.cs[k]) := Lib.hid (by rw [List.take_succ_eq_append_getElem hkl, List.foldl_append]; rfl)
                  have hz := hcc k hkl
                  generalize r.cs[k] = c at hz HTS
                  have z0 : wr.cell? ⟨b0, o0 + k * 10, none⟩ = some (.int .i64 c.t) := hz 0 (by decide)
                  have z1 : wr.cell? ⟨b0, o0 + k * 10 + 1, none⟩ = some (.int .i64 c.k) := hz 1 (by decide)
                  have z2 : wr.cell? ⟨b0, o0 + k * 10 + 2, none⟩ = some (.bool c.had) := hz 2 (by decide)
                  have z3 : wr.cell? ⟨b0, o0 + k * 10 + 3, none⟩ = some (.int .i64 c.o0) := hz 3 (by decide)
                  have z4 : wr.cell? ⟨b0, o0 + k * 10 + 4, none⟩ = some (.int .i64 c.o1) := hz 4 (by decide)
                  have z5 : wr.cell? ⟨b0, o0 + k * 10 + 5, none⟩ = some (.int .i64 c.o2) := hz 5 (by decide)
                  have z6 : wr.cell? ⟨b0, o0 + k * 10 + 6, none⟩ = some (.bool c.has) := hz 6 (by decide)
                  have z7 : wr.cell? ⟨b0, o0 + k * 10 + 7, none⟩ = some (.int .i64 c.n0) := hz 7 (by decide)
                  have z8 : wr.cell? ⟨b0, o0 + k * 10 + 8, none⟩ = some (.int .i64 c.n1) := hz 8 (by decide)
                  have z9 : wr.cell? ⟨b0, o0 + k * 10 + 9, none⟩ = some (.int .i64 c.n2) := hz 9 (by decide)
                  have fc : Fr [] wr (wr.alloc (.cells #[.int .i64 c.t, .int .i64 c.k, .bool c.had, .int .i64 c.o0, .int .i64 c.o1, .int .i64 c.o2, .bool c.has, .int .i64 c.n0, .int .i64 c.n1, .int .i64 c.n2] 57)) := (Fr.refl _ _).alloc _
                  have HL2 := Lib.hid (HL.out.fr0 fc)
                  generalize (r.cs.take k).foldl (Lst.hit t0 kk) w0 = w1o at *
                  have HTH := Lib.hid hth
                  clear hth
                  clear hz hcc hhc hc0
                  by_cases h1 : c.t = t0
                  · have h1' : (c.t == (t0 : Int)) = true := by simpa using h1
                    have H1 := Lib.hid h1
                    clear h1
                    by_cases h2 : c.k = kk
                    · have h2' : (c.k == kk) = true := by simpa using h2
                      have H2 := Lib.hid h2
                      clear h2
                      by_cases hh : c.has = true
                      · have HAF := Lib.hid (fun W => after_yes c hh W)
                        have HTQ : Hid (Lst.hit t0 kk w1o c = some (Sm.after c)) := Lib.hid (by unfold Lst.hit; rw [if_pos ⟨H1.out, H2.out⟩, if_pos hh])
                        rw [hh] at z6 HL2
                        unfold Chg.val rowVal at HAF
                        rw [hh] at HAF
                        go_upto_block 7 with fail
                        go_cut [14] (fun s14 wc => s14 = .bool true ∧ Hid (LastAt Wk wc gw (Lst.hit t0 kk w1o c)))
                        case first =>
                          go_wp2_with fail
                          refine (HAF.out _).mono ?_
                          rintro e w5 ⟨rfl, f5⟩
                          obtain ⟨r5, hb5, _⟩ := (HL2.out.fr0 f5).all
                          have HB5 := Lib.hid hb5
                          have HF5 := Lib.hid (HL2.out.fr0 f5).fr
                          have s0 := hb5.cell 0
                          have s1 := hb5.cell 1
                          have s2 := hb5.cell 2
                          have s3 := hb5.cell 3
                          have s4 := hb5.cell 4
                          have y0 := hb5.frozen 0
                          have y1 := hb5.frozen 1
                          have y2 := hb5.frozen 2
                          have y3 := hb5.frozen 3
                          have y4 := hb5.frozen 4
                          have hgl := hb5.lt
                          clear hb5 f5
                          go_wp2_with fail
                          go_meet
                          case rel => exact ⟨rfl, Lib.hid (by
                            rw [HTQ.out]
                            exact ⟨⟨Sm.after c, by have h1 := ((((HB5.out.set_ 0 (.int .i64 c.t)).set_ 1 (.int .i64 c.k)).set_ 2 (.int .i64 c.n0)).set_ 3 (.int .i64 c.n1)).set_ 4 (.int .i64 c.n2); simpa [Sm.after] using h1, fun r' h => (Option.some.inj h).symm⟩,
                            ((((HF5.out.setCell (.inr (Nat.le_of_eq HGW.out)) _).setCell (.inr (Nat.le_of_eq HGW.out)) _).setCell (.inr (Nat.le_of_eq HGW.out)) _).setCell (.inr (Nat.le_of_eq HGW.out)) _).setCell (.inr (Nat.le_of_eq HGW.out)) _⟩)⟩
                        case rest =>
                          obtain ⟨rfl, HCU⟩ := hcut
                          go_wp2_with fail
                          go_roundw
                          case rel => exact ⟨true, k + 1, ⟨rfl, by go_num⟩, by rw [HTS.out, HTQ.out]; rfl, by omega, Lib.hid (by rw [HTS.out]; exact HCU.out)⟩
                          case measure => simp [intOf]; omega
                      · have hh0 : c.has = false := by simpa using hh
                        have HAF := Lib.hid (fun W => after_no c hh0 W)
                        have HTQ : Hid (Lst.hit t0 kk w1o c = none) := Lib.hid (by unfold Lst.hit; rw [if_pos ⟨H1.out, H2.out⟩, if_neg hh])
                        rw [hh0] at z6 HL2
                        unfold Chg.val rowVal at HAF
                        rw [hh0] at HAF
                        clear hh
                        go_upto_block 7 with fail
                        go_cut [14] (fun s14 wc => s14 = .bool false ∧ Hid (LastAt Wk wc gw (Lst.hit t0 kk w1o c)))
                        case first =>
                          go_wp2_with fail
                          refine (HAF.out _).mono ?_
                          rintro e w5 ⟨rfl, f5⟩
                          obtain ⟨r5, hb5, _⟩ := (HL2.out.fr0 f5).all
                          have HB5 := Lib.hid hb5
                          have HF5 := Lib.hid (HL2.out.fr0 f5).fr
                          have s0 := hb5.cell 0
                          have s1 := hb5.cell 1
                          have s2 := hb5.cell 2
                          have s3 := hb5.cell 3
                          have s4 := hb5.cell 4
                          have y0 := hb5.frozen 0
                          have y1 := hb5.frozen 1
                          have y2 := hb5.frozen 2
                          have y3 := hb5.frozen 3
                          have y4 := hb5.frozen 4
                          have hgl := hb5.lt
                          clear hb5 f5
                          go_wp2_with fail
                          go_meet
                          case rel => exact ⟨rfl, Lib.hid (by
                            rw [HTQ.out]
                            exact ⟨⟨⟨0, 0, 0, 0, 0⟩, by have h1 := ((((HB5.out.set_ 0 (.int .i64 0)).set_ 1 (.int .i64 0)).set_ 2 (.int .i64 0)).set_ 3 (.int .i64 0)).set_ 4 (.int .i64 0); simpa using h1, fun r' h => by cases h⟩,
                            ((((HF5.out.setCell (.inr (Nat.le_of_eq HGW.out)) _).setCell (.inr (Nat.le_of_eq HGW.out)) _).setCell (.inr (Nat.le_of_eq HGW.out)) _).setCell (.inr (Nat.le_of_eq HGW.out)) _).setCell (.inr (Nat.le_of_eq HGW.out)) _⟩)⟩
                        case rest =>
                          obtain ⟨rfl, HCU⟩ := hcut
                          go_wp2_with fail
                          go_roundw
                          case rel => exact ⟨false, k + 1, ⟨rfl, by go_num⟩, by rw [HTS.out, HTQ.out]; rfl, by omega, Lib.hid (by rw [HTS.out]; exact HCU.out)⟩
                          case measure => simp [intOf]; omega
                    · have h2' : (c.k == kk) = false := by simpa using h2
                      have H2 := Lib.hid h2
                      clear h2
                      go_wp2_with fail
                      go_roundw
                      case rel => exact ⟨th, k + 1, ⟨rfl, by go_num⟩, by rw [HTS.out]; unfold Lst.hit; rw [if_neg (fun h => H2.out h.2)]; exact HTH.out, by omega, Lib.hid (by rw [HTS.out]; unfold Lst.hit; rw [if_neg (fun h => H2.out h.2)]; exact HL2.out)⟩
                      case measure => simp [intOf]; omega
                  · have h1' : (c.t == (t0 : Int)) = false := by simpa using h1
                    have H1 := Lib.hid h1
                    clear h1
                    go_wp2_with fail
                    go_roundw
                    case rel => exact ⟨th, k + 1, ⟨rfl, by go_num⟩, by rw [HTS.out]; unfold Lst.hit; rw [if_neg (fun h => H1.out h.1)]; exact HTH.out, by omega, Lib.hid (by rw [HTS.out]; unfold Lst.hit; rw [if_neg (fun h => H1.out h.1)]; exact HL2.out)⟩
                    case measure => simp [intOf]; omega
                · have hkq : k = r.cs.length := by omega
                  subst hkq
                  rw [List.take_length] at *
                  go_wp2_with fail
                  go_roundw
                  case rel => exact ⟨th, i + 1, ⟨rfl, by go_num⟩, by rw [HLS.out]; exact hth, by omega, Lib.hid (by rw [HLS.out]; exact HL.out)⟩
                  case measure => simp [intOf]; omega
            · have hiq' : i = q := by omega
              subst hiq'
              have hokt : okI (t0 : Int) := okI_mk (by omega) (by omega)
              have hokk : okI kk := by rw [← HKK.out]; exact okI_mk (by omega) (by omega)
              have HRL : Hid (mget M (idOf t0 kk) = Lst.last t0 kk (l.take i)) := Lib.hid (by rw [← HM.out]; exact Lst.run_last HOK.out hokt hokk i hql)
              have HCN : Hid (Lst.cnt (Lst.there M) (t0 * 9 + (k0 + 1)) = Lst.cnt (Lst.there M) (t0 * 9 + k0) + (if tb = true then 1 else 0)) := Lib.hid (by
                have h9 := HK9.out
                have e1 : (t0 * 9 + k0) / 9 = t0 := by omega
                have e2 : (t0 * 9 + k0) % 9 = k0 := by omega
                have e3 : Lst.there M (t0 * 9 + k0) = tb := by
                  unfold Lst.there
                  rw [e1, e2, show (1 + (k0 : Int)) = kk from by rw [← HKK.out]; omega, HRL.out, htb]
                show Lst.cnt (Lst.there M) (t0 * 9 + k0 + 1) = _
                rw [Lst.cnt, e3])
              have hcl := Lst.cnt_le (Lst.there M) (t0 * 9 + k0)
              have HGT := Lib.hid (fun W (f : Fr [] w3 W) => sget_any b m (Lg.run (l.take i)) t0 kk W (HST.out.fr0 f) hokt hokk)
              rw [HM.out, HRL.out] at HGT
              obtain ⟨rw0, hbw, hrw⟩ := HI.out.all
              have HBW := Lib.hid hbw
              have HTB : Hid (tb = (Lst.last t0 kk (l.take i)).isSome) := Lib.hid htb
              have HRW := Lib.hid hrw
              clear htb hrw
              have HFW := Lib.hid (HK.out.trans HI.out.fr)
              clear hbw
              go_wp2_with fail
              refine (HGT.out _ HFW.out).mono ?_
              rintro e w6 ⟨rfl, f6⟩
              have hb6 := HBW.out.fr f6 (by simp)
              have s0 := hb6.cell 0
              have s1 := hb6.cell 1
              have s2 := hb6.cell 2
              have s3 := hb6.cell 3
              have s4 := hb6.cell 4
              have hgl := hb6.lt
              have HF6 := Lib.hid (HFW.out.trans f6)
              clear hb6 f6 hokt hokk
              generalize Lst.last t0 kk (l.take i) = ol at *
              cases ol with
              | none =>
                obtain rfl : tb = false := HTB.out
                clear HTB HRW
                unfold gotVal
                go_wp2_with fail
                go_roundw
                case rel => exact ⟨k0 + 1, ⟨by rw [HCN.out]; rfl, by rw [← HKK.out]; go_num⟩, by have := HK9.out; omega, Lib.hid (HF6.out.alloc _)⟩
                case measure => have := HK9.out; have := HKK.out; simp [intOf]; omega
              | some rr =>
                obtain rfl : tb = true := HTB.out
                obtain rfl := HRW.out rr rfl
                clear HTB HRW
                have hq := neq_row rr rr
                have hg := eqGuard_row
                rw [decide_eq_true (rfl : rr = rr)] at hq
                unfold gotVal
                go_wp2_with fail
                go_roundw
                case rel => exact ⟨k0 + 1, ⟨by rw [HCN.out]; go_num, by rw [← HKK.out]; go_num⟩, by have := HK9.out; omega, Lib.hid (HF6.out.alloc _)⟩
                case measure => have := HK9.out; have := HKK.out; simp [intOf]; omega
        · have hk9' : k0 = 9 := by omega
          subst hk9'
          go_wp2_with fail
          go_roundw
          case rel => exact ⟨t0 + 1, ⟨by rw [show (t0 + 1) * 9 = t0 * 9 + 9 from by omega], by go_num⟩, by omega, HK⟩
          case measure => simp [intOf]; omega
    · have ht3' : t0 = 3 := by omega
      subst ht3'
      have hso := Lg.run_ok (l.take q)
      have hln : Lst.cnt (Lst.there M) (3 * 9) = M.length := Lst.cnt_len (by rw [← HM.out]; exact hso.nd) (by rw [← HM.out]; exact Lst.grid HOK.out q hql)
      rw [hln]
      have HLN := Lib.hid (slen_any b m (Lg.run (l.take q)) wr (HST.out.fr0 HR.out))
      rw [HM.out] at HLN
      have HFE := Lib.hid (((F1.out.trans F2.out).trans F3.out).trans HR.out)
      clear hln hso
      go_wp2_with fail
      refine HLN.out.mono ?_
      rintro e wx ⟨rfl, rfl⟩
      go_wp2_with fail
      go_ret
      exact ⟨rfl, HFE.out.below⟩
end Go.Proofs.Ytakfaffgfdbfmaa
