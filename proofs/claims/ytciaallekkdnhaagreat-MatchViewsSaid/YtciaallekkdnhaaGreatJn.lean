/-
  The reference's Log: records that integers determine.
-/
import Derived.Test.YtciaallekkdnhaaGreatJm
import Derived.Test.YtciaallekkdnhaaGreatJc
import Derived.Test.YtciaallekkdnhaaGreatJh
import Derived.Test.YtciaallekkdnhaaGreatJi
import Derived.Test.YtciaallekkdnhaaGreatJb
import Derived.Deep.DeepCutAuto
import Derived.Deep.RegionLaw
import Derived.StillTailTactics
namespace Go.Proofs.YtciaallekkdnhaaGreat
open Go.RowKit

/-- Between two rounds of the loop over the integers. -/
structure LgOut (w W : World) (b : Nat) (vo : Value) (i : Nat) : Prop where
  all : ∃ (out : List Rec) (v : Value) (L : List RowV), OwnR W vo out ∧ Lg.Ok out ∧ out.length ≤ i ∧ RfAt W b v L (Lg.run out)
  fr : Fr [] w W
  own : ∀ g, vo.ownBlock = some g → w.heap.size ≤ g
  bn : w.heap.size ≤ b
set_option maxRecDepth 100000 in
set_option maxHeartbeats 20000000 in
theorem log_any (A : Option Addr) (n cap : Nat) (w : World) (hn : n ≤ 100) (hx : n = 0 ∨ ∃ bx ox, A = some ⟨bx, ox, none⟩ ∧ SixAt w bx ox n) :
    Calls Tryz.prog 38 #[.slice A n cap] w fun e w' => ∃ (vo : Value) (out : List Rec), e = .returned vo ∧ OwnR w' vo out ∧ Lg.Ok out ∧ out.length ≤ n ∧ Fr [] w w' ∧ ∀ g, vo.ownBlock = some g → w.heap.size ≤ g := by
  have HX := Lib.hid hx
  clear hx
  go_enter Tryz.func38, Tryz.ntmps38
  go_wp2_with fail
  refine (rfnew_any _).mono ?_
  rintro e w1 ⟨rfl, hnew, f1⟩
  have HO : Hid (LgOut w w1 w.heap.size (.slice none 0 0) 0) := Lib.hid ⟨⟨[], _, [], OwnR.nil _, Lg.ok_nil, Nat.le_refl _, hnew⟩, f1, fun g hg => by simp [Value.ownBlock] at hg, Nat.le_refl _⟩
  clear hnew f1
  generalize hb : w.heap.size = b at HO ⊢
  have HB := Lib.hid hb
  clear hb
  go_wp2_with fail
  go_loopw [3, 5] (fun vo i wr => ∃ (i0 : Nat) (Ao : Option Addr) (no co : Nat), i = .int .i64 i0 ∧ vo = .slice Ao no co ∧ i0 ≤ n ∧ Hid (LgOut w wr b (.slice Ao no co) i0)) (fun _ i _ => n - (intOf i).toNat)
  case atStart => exact ⟨0, none, 0, 0, rfl, rfl, Nat.zero_le _, HO⟩
  case round =>
    clear HO
    obtain ⟨i, Ao, no, co, rfl, rfl, hi, HO⟩ := hrel
    by_cases hlt : i < n
    · obtain ⟨Wo, hWo⟩ : ∃ W, W = wr := ⟨_, rfl⟩
      subst hWo
      have HI : Hid (LgIn Wo Wo (.slice none 0 0) 0) := Lib.hid ⟨⟨[], OwnL.nil, by simp, Nat.le_refl _⟩, Fr.refl _ _, fun g hg => by simp [Value.ownBlock] at hg⟩
      have HXO : Hid (∃ bx ox, A = some ⟨bx, ox, none⟩ ∧ SixAt Wo bx ox n) := Lib.hid (by
        rcases HX.out with h0 | ⟨bx, ox, h1, h2⟩
        · omega
        · exact ⟨bx, ox, h1, h2.fr0 HO.out.fr⟩)
      go_wp2_with fail
      go_loopw [6, 7] (fun vl k wr => ∃ (k0 : Nat) (Al : Option Addr) (nl cl : Nat), k = .int .i64 k0 ∧ vl = .slice Al nl cl ∧ k0 ≤ 3 ∧ Hid (LgIn Wo wr (.slice Al nl cl) k0)) (fun _ k _ => 3 - (intOf k).toNat)
      case atStart => exact ⟨0, none, 0, 0, rfl, rfl, by omega, HI⟩
      case round => as_aux_lemma =>
        clear HI
        obtain ⟨k, Al, nl, cl, rfl, rfl, hk, HI⟩ := hrel
        by_cases hk3 : k < 3
        · obtain ⟨bx, ox, hA, h6⟩ := HXO.out
          subst hA
          obtain ⟨z, hz, hzok⟩ := (h6.fr0 HI.out.fr).cell i hlt (2 * k) (by omega)
          obtain ⟨z', hz', hzok'⟩ := (h6.fr0 HI.out.fr).cell i hlt (2 * k + 1) (by omega)
          have hzb := okI_bounds hzok
          have hzb' := okI_bounds hzok'
          clear hzok hzok' h6
          obtain ⟨out, v, L, hOR, hOK, hOL, hRE⟩ := HO.out.all
          have HOR := Lib.hid hOR
          have HOK := Lib.hid hOK
          have HREF := Lib.hid hRE
          clear hOR hOK hRE
          go_upto_if 37 with fail
          go_cut [8] (fun s8 wc => wr = wc ∧ ∃ x : Int, s8 = .int .i64 x ∧ 0 ≤ x ∧ x ≤ 9223372036854775807)
          case first =>
            by_cases hneg : z < 0
            · go_wp2_with fail
              go_meet
              case rel => exact ⟨rfl, _, rfl, by omega, by omega⟩
            · go_wp2_with fail
              go_meet
              case rel => exact ⟨rfl, z, rfl, by omega, by omega⟩
          case rest => as_aux_lemma =>
            obtain ⟨hwc, x, rfl, hx0, hx1⟩ := hcut
            subst hwc
            clear hz z hzb
            go_upto_if 50 with fail
            go_cut [9] (fun s9 wc => wr = wc ∧ ∃ x : Int, s9 = .int .i64 x ∧ 0 ≤ x ∧ x ≤ 9223372036854775807)
            case first =>
              by_cases hneg : z' < 0
              · go_wp2_with fail
                go_meet
                case rel => exact ⟨rfl, _, rfl, by omega, by omega⟩
              · go_wp2_with fail
                go_meet
                case rel => exact ⟨rfl, z', rfl, by omega, by omega⟩
            case rest => as_aux_lemma =>
              obtain ⟨hwc, y, rfl, hy0, hy1⟩ := hcut
              subst hwc
              clear hz' z' hzb'
              have ht0 : 0 ≤ x % 3 ∧ x % 3 ≤ 2 := by omega
              have hk0 : 1 ≤ 1 + x / 3 % 9 ∧ 1 + x / 3 % 9 ≤ 9 := by omega
              go_wp2_with fail
              have hc0 := Blk.new wr 59 #[.int .i64 (x % 3), .int .i64 (1 + x / 3 % 9), .bool false, .int .i64 0, .int .i64 0, .int .i64 0, .bool false, .int .i64 0, .int .i64 0, .int .i64 0]
              have f4 := (HI.out.fr).alloc (.cells #[.int .i64 (x % 3), .int .i64 (1 + x / 3 % 9), .bool false, .int .i64 0, .int .i64 0, .int .i64 0, .bool false, .int .i64 0, .int .i64 0, .int .i64 0] 59)
              generalize x % 3 = tt at *
              generalize 1 + x / 3 % 9 = kk at *
              refine (rfget_any b v L (Lg.run out) tt kk _ (HREF.out.fr0 f4) (okI_mk (by omega) (by omega)) (okI_mk (by omega) (by omega))).mono ?_
              rintro e w5 ⟨rfl, f5⟩
              obtain ⟨a1, a2, o0, o1, o2, had, hgs⟩ := got_shape (mget (Lg.run out).M (idOf tt kk))
              rw [hgs]
              have hc := hc0.fr f5 (by simp)
              have F5 : Fr [] Wo w5 := f4.trans f5
              have hcn : Wo.heap.size ≤ wr.heap.size := HI.out.fr.size
              have fwr : Fr [] wr w5 := ((Fr.refl _ _).alloc _).trans f5
              have HII := Lib.hid (fun W (f : Fr [] wr W) => (show LgIn Wo W (.slice Al nl cl) k from ⟨HI.out.all.elim fun cs h => ⟨cs, h.1.keep0 f, h.2⟩, HI.out.fr.trans f, HI.out.own⟩))
              generalize hgc : wr.heap.size = gc at *
              have HGC := Lib.hid hgc
              clear hgs f4 f5 hc0 hgc
              have c2 := hc.cell 2
              have z2 := hc.frozen 2
              have c3 := hc.cell 3
              have z3 := hc.frozen 3
              have c4 := hc.cell 4
              have z4 := hc.frozen 4
              have c5 := hc.cell 5
              have z5 := hc.frozen 5
              have c6 := hc.cell 6
              have z6 := hc.frozen 6
              have hlc := hc.lt
              go_upto_region 20 with fail
              go_cut [] (fun wc => ∃ has : Bool, Blk wc gc 59 #[.int .i64 tt, .int .i64 kk, .bool had, .int .i64 o0, .int .i64 o1, .int .i64 o2, .bool has, .int .i64 0, .int .i64 0, .int .i64 0] ∧ Fr [] wr wc)
              case first =>
                have hcs := ((((hc.set_ 2 (.bool had)).set_ 3 (.int .i64 o0)).set_ 4 (.int .i64 o1)).set_ 5 (.int .i64 o2)).alloc (.cells #[.int .i64 a1, .int .i64 a2, .int .i64 o0, .int .i64 o1, .int .i64 o2] 116)
                have hgw : wr.heap.size ≤ gc := Nat.le_of_eq HGC.out
                have fcs := ((((fwr.setCell (p := ⟨gc, 2, none⟩) (.inr hgw) (.bool had)).setCell (p := ⟨gc, 3, none⟩) (.inr hgw) (.int .i64 o0)).setCell (p := ⟨gc, 4, none⟩) (.inr hgw) (.int .i64 o1)).setCell (p := ⟨gc, 5, none⟩) (.inr hgw) (.int .i64 o2)).alloc (.cells #[.int .i64 a1, .int .i64 a2, .int .i64 o0, .int .i64 o1, .int .i64 o2] 116)
                generalize (((((w5.setCell ⟨gc, 2, none⟩ (.bool had)).setCell ⟨gc, 3, none⟩ (.int .i64 o0)).setCell ⟨gc, 4, none⟩ (.int .i64 o1)).setCell ⟨gc, 5, none⟩ (.int .i64 o2)).alloc (.cells #[.int .i64 a1, .int .i64 a2, .int .i64 o0, .int .i64 o1, .int .i64 o2] 116)) = W20 at hcs fcs ⊢
                clear c2 z2 c3 z3 c4 z4 c5 z5 c6 z6 hlc hc F5 fwr
                replace hcs : Blk W20 gc 59 #[.int .i64 tt, .int .i64 kk, .bool had, .int .i64 o0, .int .i64 o1, .int .i64 o2, .bool false, .int .i64 0, .int .i64 0, .int .i64 0] := by simpa using hcs
                have c6 : W20.cell? ⟨gc, 6, none⟩ = some (.bool false) := hcs.cell 6
                have z6 := hcs.frozen 6
                cases had
                · as_aux_lemma =>
                    go_wp2_with fail
                    go_meet
                    case rel => exact ⟨true, by have h1 := hcs.set_ 6 (.bool true); simpa using h1, fcs.setCell (.inr hgw) _⟩
                · by_cases hy4 : 0 < y % 4
                  · as_aux_lemma =>
                      go_wp2_with fail
                      go_meet
                      case rel => exact ⟨true, by have h1 := hcs.set_ 6 (.bool true); simpa using h1, fcs.setCell (.inr hgw) _⟩
                  · as_aux_lemma =>
                      go_wp2_with fail
                      go_meet
                      case rel => exact ⟨false, by have h1 := hcs.set_ 6 (.bool false); simpa using h1, fcs.setCell (.inr hgw) _⟩
              case rest => as_aux_lemma =>
                obtain ⟨has, hcB, Fc⟩ := hcut
                clear c2 z2 c3 z3 c4 z4 c5 z5 c6 z6 hlc hc F5 fwr hcn
                have hgw : wr.heap.size ≤ gc := Nat.le_of_eq HGC.out
                have c6 := hcB.cell 6
                have c7 := hcB.cell 7
                have z7 := hcB.frozen 7
                have c8 := hcB.cell 8
                have z8 := hcB.frozen 8
                have c9 := hcB.cell 9
                have z9 := hcB.frozen 9
                go_upto_if 84 with fail
                go_cut [] (fun wd => ∃ c : Chg, Blk wd gc 59 c.cells.toArray ∧ LgC c ∧ Fr [] wr wd)
                case first =>
                  cases has
                  · as_aux_lemma =>
                      go_wp2_with fail
                      go_meet
                      case rel => exact ⟨⟨tt, kk, had, o0, o1, o2, false, 0, 0, 0⟩, hcB, ⟨ht0.1, ht0.2, hk0.1, hk0.2, fun h => by cases h⟩, Fc⟩
                  · as_aux_lemma =>
                      go_wp2_with fail
                      go_meet
                      case rel => exact ⟨⟨tt, kk, had, o0, o1, o2, true, y / 4 % 10, 1 + y / 40 % 9, y / 400 % 40 - 20⟩, by have h1 := ((hcB.set_ 7 (.int .i64 (y / 4 % 10))).set_ 8 (.int .i64 (1 + y / 40 % 9))).set_ 9 (.int .i64 (y / 400 % 40 - 20)); simpa [Chg.cells] using h1,
                        ⟨ht0.1, ht0.2, hk0.1, hk0.2, fun _ => ⟨by dsimp only; omega, by dsimp only; omega, by dsimp only; omega⟩⟩, ((Fc.setCell (.inr hgw) _).setCell (.inr hgw) _).setCell (.inr hgw) _⟩
                case rest => as_aux_lemma =>
                  clear c6 c7 z7 c8 z8 c9 z9 hcB Fc ht0 hk0 hgw
                  obtain ⟨c, hcB, hLC, Fc⟩ := hcut
                  obtain ⟨wd, hwd⟩ : ∃ W, W = wc := ⟨_, rfl⟩
                  subst hwd
                  have HLC := Lib.hid hLC
                  have HCB := Lib.hid hcB
                  have HFC := Lib.hid Fc
                  obtain ⟨cs, hown, hsm, hcl⟩ := (HII.out wd Fc).all
                  obtain ⟨A', cap', hv⟩ := hown.val
                  cases hv
                  have HOW := Lib.hid hown
                  have HSM := Lib.hid hsm
                  have HFM := Lib.hid (fun (h0 : 0 < cs.length) => hown.form Chg.len h0)
                  have hgl := hcB.lt
                  clear hLC hcB Fc hown hsm
                  obtain ⟨Wi, hWi⟩ : ∃ W, W = wr := ⟨_, rfl⟩
                  subst hWi
                  go_wp2_with fail
                  go_loopw [13, 14] (fun kv jv wr => ∃ (kn : Bool) (j0 : Nat), (kv = .bool kn ∧ jv = .int .i64 j0) ∧ j0 ≤ cs.length ∧ Hid (Fr [] wd wr)) (fun _ jv _ => cs.length - (intOf jv).toNat)
                  case atStart => exact ⟨false, 0, ⟨rfl, rfl⟩, Nat.zero_le _, Lib.hid (Fr.refl _ _)⟩
                  case round => as_aux_lemma =>
                    obtain ⟨kn, j0, ⟨rfl, rfl⟩, hj0, HK⟩ := hrel
                    by_cases hjl : j0 < cs.length
                    · obtain ⟨gR, capR, hA, hnc, hcm, hgR, hcell, hfz⟩ := HFM.out (by omega)
                      cases hA
                      have e0 : wr.cell? ⟨gR, j0 * 10, none⟩ = some (.int .i64 cs[j0].t) := (HK.out.cell (p := ⟨gR, j0 * 10, none⟩) hgR (by simp)).trans (hcell j0 hjl 0 (by decide))
                      have e1 : wr.cell? ⟨gR, j0 * 10 + 1, none⟩ = some (.int .i64 cs[j0].k) := (HK.out.cell (p := ⟨gR, j0 * 10 + 1, none⟩) hgR (by simp)).trans (hcell j0 hjl 1 (by decide))
                      have q0 : wr.cell? ⟨gc, 0, none⟩ = some (.int .i64 c.t) := (HCB.out.fr HK.out (by simp)).cell 0
                      have q1 : wr.cell? ⟨gc, 1, none⟩ = some (.int .i64 c.k) := (HCB.out.fr HK.out (by simp)).cell 1
                      have HKd : Hid (Fr [] wd wr.drew) := Lib.hid HK.out.drew
                      clear hcell hfz HK
                      generalize cs[j0].t = xt at *
                      generalize cs[j0].k = xk at *
                      cases kn
                      · by_cases h1 : xt = c.t
                        · have h1' : (xt == c.t) = true := by simpa using h1
                          clear h1
                          by_cases h2 : xk = c.k
                          · have h2' : (xk == c.k) = true := by simpa using h2
                            clear h2
                            as_aux_lemma =>
                              go_wp2_with fail
                              go_region
                              go_wp2_with fail
                              go_roundw
                              case rel => exact ⟨true, j0 + 1, ⟨rfl, by go_num⟩, by omega, HKd⟩
                              case measure => simp [intOf]; omega
                          · have h2' : (xk == c.k) = false := by simpa using h2
                            clear h2
                            as_aux_lemma =>
                              go_wp2_with fail
                              go_region
                              go_wp2_with fail
                              go_roundw
                              case rel => exact ⟨false, j0 + 1, ⟨rfl, by go_num⟩, by omega, HKd⟩
                              case measure => simp [intOf]; omega
                        · have h1' : (xt == c.t) = false := by simpa using h1
                          clear h1
                          as_aux_lemma =>
                            go_wp2_with fail
                            go_region
                            go_wp2_with fail
                            go_roundw
                            case rel => exact ⟨false, j0 + 1, ⟨rfl, by go_num⟩, by omega, HKd⟩
                            case measure => simp [intOf]; omega
                      · as_aux_lemma =>
                          go_wp2_with fail
                          go_region
                          go_wp2_with fail
                          go_roundw
                          case rel => exact ⟨true, j0 + 1, ⟨rfl, by go_num⟩, by omega, HKd⟩
                          case measure => simp [intOf]; omega
                    · have hjl' : j0 = cs.length := by omega
                      subst hjl'
                      obtain ⟨Wk, hWk⟩ : ∃ W, W = wr := ⟨_, rfl⟩
                      subst hWk
                      have hbk := HCB.out.fr HK.out (by simp)
                      have q2 : Wk.cell? ⟨gc, 2, none⟩ = some (.bool c.had) := hbk.cell 2
                      have q3 : Wk.cell? ⟨gc, 3, none⟩ = some (.int .i64 c.o0) := hbk.cell 3
                      have q4 : Wk.cell? ⟨gc, 4, none⟩ = some (.int .i64 c.o1) := hbk.cell 4
                      have q5 : Wk.cell? ⟨gc, 5, none⟩ = some (.int .i64 c.o2) := hbk.cell 5
                      have q6 : Wk.cell? ⟨gc, 6, none⟩ = some (.bool c.has) := hbk.cell 6
                      have q7 : Wk.cell? ⟨gc, 7, none⟩ = some (.int .i64 c.n0) := hbk.cell 7
                      have q8 : Wk.cell? ⟨gc, 8, none⟩ = some (.int .i64 c.n1) := hbk.cell 8
                      have q9 : Wk.cell? ⟨gc, 9, none⟩ = some (.int .i64 c.n2) := hbk.cell 9
                      clear hbk
                      go_upto_region 28 with fail
                      go_cut [149] (fun s149 wc => (∃ bo : Bool, s149 = .bool bo) ∧ Hid (Fr [] Wk wc))
                      case first =>
                        have hq := eql_v3 c.o0 c.o1 c.o2 c.n0 c.n1 c.n2
                        have hg := eqGuard_v3
                        generalize c.had = chad at *
                        generalize c.has = chas at *
                        generalize c.o0 = o0' at *
                        generalize c.o1 = o1' at *
                        generalize c.o2 = o2' at *
                        generalize c.n0 = n0' at *
                        generalize c.n1 = n1' at *
                        generalize c.n2 = n2' at *
                        generalize decide (o0' = n0' ∧ o1' = n1' ∧ o2' = n2') = eb at hq
                        cases kn
                        · cases chad
                          · by_cases hk0 : (0 : Int) < (k : Int)
                            · as_aux_lemma =>
                                go_wp2_with fail
                                go_meet
                                case rel => exact ⟨⟨_, rfl⟩, Lib.hid (Fr.refl _ _)⟩
                            · as_aux_lemma =>
                                go_wp2_with fail
                                go_meet
                                case rel => exact ⟨⟨_, rfl⟩, Lib.hid (Fr.refl _ _)⟩
                          · cases chas
                            · by_cases hk0 : (0 : Int) < (k : Int)
                              · as_aux_lemma =>
                                  go_wp2_with fail
                                  go_meet
                                  case rel => exact ⟨⟨_, rfl⟩, Lib.hid (Fr.refl _ _)⟩
                              · as_aux_lemma =>
                                  go_wp2_with fail
                                  go_meet
                                  case rel => exact ⟨⟨_, rfl⟩, Lib.hid (Fr.refl _ _)⟩
                            · cases eb
                              · by_cases hk0 : (0 : Int) < (k : Int)
                                · as_aux_lemma =>
                                    go_wp2_with fail
                                    go_meet
                                    case rel => exact ⟨⟨_, rfl⟩, Lib.hid (Fr.refl _ _)⟩
                                · as_aux_lemma =>
                                    go_wp2_with fail
                                    go_meet
                                    case rel => exact ⟨⟨_, rfl⟩, Lib.hid (Fr.refl _ _)⟩
                              · as_aux_lemma =>
                                  go_wp2_with fail
                                  go_meet
                                  case rel => exact ⟨⟨_, rfl⟩, Lib.hid (Fr.refl _ _)⟩
                        · as_aux_lemma =>
                            go_wp2_with fail
                            go_meet
                            case rel => exact ⟨⟨_, rfl⟩, Lib.hid (Fr.refl _ _)⟩
                      case rest => as_aux_lemma =>
                        clear q2 q3 q4 q5 q6 q7 q8 q9
                        obtain ⟨⟨bo, rfl⟩, HQ⟩ := hcut
                        cases bo
                        · go_wp2_with fail
                          obtain ⟨Wq, hWq⟩ : ∃ W, W = wc := ⟨_, rfl⟩
                          subst hWq
                          have FQ := Lib.hid ((HK.out).trans HQ.out)
                          go_loopw [15] (fun jv wr => ∃ j1 : Nat, jv = .int .i64 j1 ∧ j1 ≤ cs.length ∧ Hid (Fr [] wd wr)) (fun jv _ => (intOf jv).toNat)
                          case atStart => exact ⟨cs.length, rfl, Nat.le_refl _, FQ⟩
                          case round => as_aux_lemma =>
                            obtain ⟨j1, rfl, hj1, HJ⟩ := hrel
                            have HJd : Hid (Fr [] wd wr.drew) := Lib.hid HJ.out.drew
                            have q0 : wr.cell? ⟨gc, 0, none⟩ = some (.int .i64 c.t) := (HCB.out.fr HJ.out (by simp)).cell 0
                            have q1 : wr.cell? ⟨gc, 1, none⟩ = some (.int .i64 c.k) := (HCB.out.fr HJ.out (by simp)).cell 1
                            go_upto_region 30 with fail
                            go_cut [186] (fun s186 wc => (∃ bo : Bool, s186 = .bool bo ∧ (bo = true → 0 < j1)) ∧ Hid (Fr [] wd wc))
                            case first =>
                              by_cases hj : 0 < j1
                              · obtain ⟨gR, capR, hA, hnc, hcm, hgR, hcell, hfz⟩ := HFM.out (by omega)
                                cases hA
                                have hjm : j1 - 1 < cs.length := by omega
                                have ej : (j1 : Int) - 1 = ((j1 - 1 : Nat) : Int) := by omega
                                have e0 : wr.cell? ⟨gR, (j1 - 1) * 10, none⟩ = some (.int .i64 cs[j1 - 1].t) := (HJ.out.cell (p := ⟨gR, (j1 - 1) * 10, none⟩) hgR (by simp)).trans (hcell (j1 - 1) hjm 0 (by decide))
                                have e1 : wr.cell? ⟨gR, (j1 - 1) * 10 + 1, none⟩ = some (.int .i64 cs[j1 - 1].k) := (HJ.out.cell (p := ⟨gR, (j1 - 1) * 10 + 1, none⟩) hgR (by simp)).trans (hcell (j1 - 1) hjm 1 (by decide))
                                clear hcell hfz
                                generalize cs[j1 - 1].t = xt at *
                                generalize cs[j1 - 1].k = xk at *
                                by_cases h1 : c.t < xt
                                · as_aux_lemma =>
                                    go_region
                                    go_wp2_with fail
                                    go_meet
                                    case rel => exact ⟨⟨_, rfl, fun _ => hj⟩, HJd⟩
                                · by_cases h2 : xt = c.t
                                  · have h2' : (xt == c.t) = true := by simpa using h2
                                    clear h2
                                    by_cases h3 : c.k < xk
                                    · as_aux_lemma =>
                                        go_region
                                        go_wp2_with fail
                                        go_meet
                                        case rel => exact ⟨⟨_, rfl, fun _ => hj⟩, HJd⟩
                                    · as_aux_lemma =>
                                        go_region
                                        go_wp2_with fail
                                        go_meet
                                        case rel => exact ⟨⟨_, rfl, fun _ => hj⟩, HJd⟩
                                  · have h2' : (xt == c.t) = false := by simpa using h2
                                    clear h2
                                    as_aux_lemma =>
                                      go_region
                                      go_wp2_with fail
                                      go_meet
                                      case rel => exact ⟨⟨_, rfl, fun _ => hj⟩, HJd⟩
                              · have hj' : j1 = 0 := by omega
                                subst hj'
                                as_aux_lemma =>
                                  go_region
                                  go_wp2_with fail
                                  go_meet
                                  case rel => exact ⟨⟨_, rfl, fun h => by cases h⟩, HJd⟩
                            case rest => as_aux_lemma =>
                              clear q0 q1 HJd
                              obtain ⟨⟨bo, rfl, hbo⟩, HJ2⟩ := hcut
                              cases bo
                              · have hcw : Hid (Blk wc gc 59 c.cells.toArray) := Lib.hid (HCB.out.fr HJ2.out (by simp))
                                have HOWc := Lib.hid (HOW.out.keep0 HJ2.out)
                                have hfo : Hid (Fr [] Wo wc) := Lib.hid (HII.out wc (HFC.out.trans HJ2.out)).fr
                                go_wp2_with fail
                                refine lg_insert_any _ (by kernel_rfl) cs c Al cl gc j1 k Wo wc hfo hcw HOWc hj1 hcl hk3 HLC HSM _ _ _ _ _ _ _ _ _ _ _ _ _ _ _ _ _ _ _ _ _ _ _ _ _ _ _ _ _ _ _ _ _ _ _ _ _ _ _ _ _ _ _ _ _ _ _ _ _ _ _ _ _ _ _ _ _ _ _ _ _ _ _ _ _ _ _ _ _ _ _ _ _ _ _ _ _ _ _ _ _ _ _ _ _ _ _ _ _ _ _ _ _ _ _ _ _ _ _ _ _ _ _ _ _ _ _ _ _ _ _ _ _ _ _ _ _ _ _ _ _ _ _ _ _ _ _ _ _ _ _ _ _ _ _ _ _ _ _ _ _ _ _ _ _ _ _ _ _ _ _ _ _ _ _ _ _ _ _ _ _ _ _ _ _ _ _ _ _ _ _ _ _ _ _ _ _ _ _ _ _ _ _ _ _ _ _ _ _ _ _ _ _ _ _ _ _ _ _ _ _ _ _ _ _ _ _ _ _ _ _ _ _ _ _ ?_
                                intro A2 n2 c2 w2x v189 v190 v191 v192 v193 v194 v195 v196 v197 v198 v199 R3
                                go_wp2_with fail
                                go_roundw
                                case rel => exact ⟨k + 1, A2, n2, c2, by go_num, rfl, by omega, R3⟩
                                case measure => simp [intOf]; omega
                              · have hj0 := hbo rfl
                                go_wp2_with fail
                                go_roundw
                                case rel => exact ⟨j1 - 1, by go_num, by omega, HJ2⟩
                                case measure => simp [intOf]; omega
                        · go_wp2_with fail
                          go_roundw
                          case rel => exact ⟨k + 1, Al, cs.length, cl, by go_num, rfl, by omega, Lib.hid (HII.out wc ((HFC.out.trans HK.out).trans HQ.out)).up⟩
                          case measure => simp [intOf]; omega
        · have hk3' : k = 3 := by omega
          subst hk3'
          as_aux_lemma =>
            obtain ⟨out, v, L, hOR, hOK, hOL, hRE⟩ := HO.out.all
            obtain ⟨cs, hown, hsm, hcl⟩ := HI.out.all
            obtain ⟨A', cap', hv⟩ := hown.val
            cases hv
            have HC := Lib.hid (hown.holdsC)
            have HCE := Lib.hid (own_cap2 hown)
            have HSM := Lib.hid hsm
            have HOR := Lib.hid hOR
            have HOK := Lib.hid hOK
            have hre := hRE.fr0 HI.out.fr
            have HRE := Lib.hid hre
            have p0 : wr.cell? ⟨b, 1, none⟩ = some (.int .i64 (Lg.run out).pos) := hre.blk.cell 1
            have hpb := hre.ok
            have hp0 := hpb.p0
            have hp1 := hpb.p1
            have hbl := hre.blk.lt
            have hB0 := Blk.new wr 26 #[.int .i64 ((Lg.run out).pos + 1), .slice Al cs.length cl]
            have HAP := Lib.hid (fun W (f : Fr [] wr W) => rfapply_any b v L (Lg.run out) ⟨(Lg.run out).pos + 1, cs⟩ Al cl W (HRE.out.fr0 f) (HC.out.fr f NoC.nil) (Nat.le_trans hcl (by decide)))
            have hbne : wr.heap.size ≠ b := by omega
            have HSN := Lib.hid (Lg.run_snoc out ⟨(Lg.run out).pos + 1, cs⟩)
            have HFI := Lib.hid (fun (hf : Sm.fits (Lg.run out) ⟨(Lg.run out).pos + 1, cs⟩ = true) => And.intro (Lg.code_zero.2 hf) (HOK.out.snoc hf HSM.out))
            have HNF := Lib.hid (fun (hf : ¬ Sm.fits (Lg.run out) ⟨(Lg.run out).pos + 1, cs⟩ = true) => (show Sm.code (Lg.run out) ⟨(Lg.run out).pos + 1, cs⟩ = 40 ∧ Sm.apply (Lg.run out) ⟨(Lg.run out).pos + 1, cs⟩ = Lg.run out from ⟨by unfold Sm.code; rw [if_neg hf], by unfold Sm.apply; rw [if_neg hf]⟩))
            have HCS := Lib.hid (show cs.length ≤ 8 by omega)
            have HVG := Lib.hid (HO.out.bn)
            have F1 : Fr [] w wr := HO.out.fr.trans HI.out.fr
            have HF1 := Lib.hid F1
            have HORW := Lib.hid (fun W (f : Fr [b] Wo W) => (show OwnR W (.slice Ao no co) out from hOR.fr f (fun g hg => by
              obtain ⟨us, h1, _, _⟩ := hOR
              simpa using h1.ne hRE.blk (by decide) hg) (NoC.cons (noC_blk hRE.blk (by decide)) NoC.nil)))
            have HFI0 := Lib.hid HI.out.fr
            have HBK := Lib.hid (noC_blk hre.blk (by decide))
            clear hpb hown hsm hOR hOK hre hRE F1 hcl
            go_wp2_with fail
            refine (HAP.out _ ((Fr.refl _ _).alloc _)).mono ?_
            rintro e w3 ⟨rfl, v3, L3, hst, f3, hg3⟩
            have hB3 := hB0.fr f3 (by simpa using hbne)
            have F3 : Fr [b] wr w3 := ((Fr.refl [b] wr).alloc _).trans f3
            have HST := Lib.hid hst
            have HF3 := Lib.hid F3
            have d0 := hB3.cell 0
            have d1 := hB3.cell 1
            clear hB0 hst f3 hg3 F3 p0
            by_cases hf : Sm.fits (Lg.run out) ⟨(Lg.run out).pos + 1, cs⟩ = true
            · obtain ⟨hc0, hok'⟩ := HFI.out hf
              rw [hc0]
              have HOK' := Lib.hid hok'
              clear hc0 hok' hf
              obtain ⟨us, hus, husm, hush⟩ := HORW.out _ ((HFI0.out.mono (by simp)).trans HF3.out)
              obtain ⟨u, hu⟩ : ∃ u : WRec, u = ⟨⟨(Lg.run out).pos + 1, cs⟩, Al, cl, HCE.out⟩ := ⟨_, rfl⟩
              have HU := Lib.hid hu
              have hul : Hid (us.length ≤ 100) := Lib.hid (by have := congrArg List.length husm; rw [List.length_map] at this; omega)
              have f3a : Fr [] w3 (w3.alloc (.cells #[.int .i64 ((Lg.run out).pos + 1), .slice Al cs.length cl] 26)) := (Fr.refl _ _).alloc _
              have hus4 := hus.keep0 f3a
              have hrn : Hid (Reads (w3.alloc (.cells #[.int .i64 ((Lg.run out).pos + 1), .slice Al cs.length cl] 26)) (w3.heap.size + 1) 2 (some ⟨w3.heap.size, 0, none⟩) 1 ([u].flatMap WRec.cells)) := Lib.hid (by subst hu; exact reads_new (enc := WRec.cells) w3 26 ⟨⟨(Lg.run out).pos + 1, cs⟩, Al, cl, HCE.out⟩ rfl)
              have HUS := Lib.hid hus
              have HUM := Lib.hid husm
              have HUH := Lib.hid hush
              have d0' : w3.cell? ⟨wr.heap.size, 0, none⟩ = some (.int .i64 ((Lg.run out).pos + 1)) := d0
              have d1' : w3.cell? ⟨wr.heap.size, 1, none⟩ = some (.slice Al cs.length cl) := d1
              have hus0 : Hid (us.length + [u].length ≤ 140) := Lib.hid (by have := hul.out; simp only [List.length_singleton]; omega)
              have hmx : Hid ((140 : Nat) ≤ maxLen) := Lib.hid (by decide)
              obtain ⟨i0, TR⟩ := etRec
              clear hus husm hush hu d0 d1 f3a
              go_wp2_with (at_builtin; refine wpList_appendL rfl _ _ rfl TR WRec.len WRec.one rfl hus4 _ _ _ _ [u] rfl rfl hrn.out (Nat.le_trans hus0.out hmx.out) (Nat.le_trans (Nat.mul_le_mul_right 32 hus0.out) (by decide)) ?_; intro v5 w5 hown5 hg5 hat5; have HO5 := Lib.hid hown5; have HG5 := Lib.hid hg5; have HA5 := Lib.hid hat5; obtain ⟨A5, n5, c5, hv5⟩ : ∃ A n c, v5 = .slice A n c := (match hown5.val with | ⟨_, _, hv⟩ => ⟨_, _, _, hv⟩); subst hv5; clear hown5 hg5 hat5)
              have F35 : Fr (Value.slice Ao no co).ownBlock.toList w3 w5 := ((Fr.refl _ _).alloc _).grown HG5.out (fun g hg => .inl (Option.mem_toList.2 hg))
              have hor5 : OwnR w5 (.slice A5 n5 c5) (out ++ [⟨(Lg.run out).pos + 1, cs⟩]) := ⟨us ++ [u], HO5.out, by rw [List.map_append, HUM.out, HU.out]; rfl, fun q hq => by
                rcases List.mem_append.1 hq with h1 | h1
                · exact ⟨(HUH.out q h1).1.fr F35 (HUS.out.noC (by decide)), (HUH.out q h1).2⟩
                · rw [List.mem_singleton] at h1
                  subst h1
                  rw [HU.out]
                  exact ⟨((HC.out.fr HF3.out (NoC.cons HBK.out NoC.nil)).fr F35 (HUS.out.noC (by decide))), HCS.out⟩⟩
              have hrf5 : RfAt w5 b v3 L3 (Lg.run (out ++ [⟨(Lg.run out).pos + 1, cs⟩])) := by
                rw [HSN.out]
                refine HST.out.fr F35 (fun q hq hm => ?_)
                have hm := Option.mem_toList.1 hm
                rcases List.mem_cons.1 hq with rfl | hq
                · exact HUS.out.ne HST.out.blk (by decide) hm rfl
                · exact HUS.out.ne2 HST.out.row (by decide) hm (Option.mem_toList.1 hq)
              have hfr5 : Fr [] w w5 := (HF1.out.trans' HF3.out (fun x hx => .inr (by simp only [List.mem_cons, List.not_mem_nil, or_false] at hx; subst hx; exact HVG.out))).trans' F35 (fun g hg => .inr (HO.out.own g (Option.mem_toList.1 hg)))
              have how5 : ∀ g, (Value.slice A5 n5 c5).ownBlock = some g → w.heap.size ≤ g := fun g hg => by
                rcases HA5.out with h1 | h1
                · exact HO.out.own g (h1.symm.trans hg)
                · rw [hg] at h1
                  injection h1 with h1
                  have h2 := HF1.out.size
                  have h3 := HF3.out.size
                  rw [World.size_alloc] at h1
                  omega
              have HRR := Lib.hid (show LgOut w w5 b (.slice A5 n5 c5) (i + 1) from ⟨⟨_, v3, L3, hor5, HOK'.out, by rw [List.length_append, List.length_singleton]; omega, hrf5⟩, hfr5, how5, HVG.out⟩)
              clear F35 hor5 hrf5 hfr5 how5
              go_roundw
              case rel => exact ⟨i + 1, A5, n5, c5, by go_num, rfl, by omega, HRR⟩
              case measure => simp [intOf]; omega
            · obtain ⟨hc0, hap'⟩ := HNF.out hf
              rw [hc0]
              have HAP' := Lib.hid hap'
              clear hc0 hap' hf
              go_wp2_with fail
              go_roundw
              case rel => exact ⟨i + 1, Ao, no, co, by go_num, rfl, by omega, Lib.hid ⟨⟨out, v3, L3, HORW.out _ ((HFI0.out.mono (by simp)).trans HF3.out), HOK.out, by omega, by rw [← HAP'.out]; exact HST.out⟩, HF1.out.trans' HF3.out (fun x hx => .inr (by simp only [List.mem_cons, List.not_mem_nil, or_false] at hx; subst hx; exact HVG.out)), HO.out.own, HVG.out⟩⟩
              case measure => simp [intOf]; omega
    · have hin : i = n := by omega
      subst hin
      go_wp2_with fail
      go_ret
      obtain ⟨out, v, L, hOR, hOK, hOL, hRE⟩ := HO.out.all
      exact ⟨_, out, rfl, hOR, hOK, hOL, HO.out.fr, HO.out.own⟩
end Go.Proofs.YtciaallekkdnhaaGreat
