/-
  At, Get and Range agree with the reference implementation: at most 30 records that integers determine, how many of them, a table, a column, and a range. Conditions: none.
-/
import Derived.Test.YtakfaffgfdbfmaaBase
import Derived.BigQuiet
import Derived.Test.YtakfaffgfdbfmaaRfG
import Derived.Test.YtakfaffgfdbfmaaRfD
import Derived.Test.YtakfaffgfdbfmaaSwA
import Derived.Test.YtakfaffgfdbfmaaSwC
import Derived.Test.YtakfaffgfdbfmaaLgE
import Derived.Test.YtakfaffgfdbfmaaSwB
import Derived.Test.YtakfaffgfdbfmaaSwP
import Derived.Test.YtakfaffgfdbfmaaRfI
import Derived.Deep.RegionHeld3
import Derived.Deep.DeepCutAuto
import Derived.Deep.RegionLaw
import Derived.Deep.RegionWith
import Derived.Deep.CutBlock
import Derived.StillTailTactics
namespace Go.Proofs.Ytakfaffgfdbfmaa

/-- A world behind W: what is old there is as it was. -/
structure Later (W : World) where
  w : World
  fr : Fr [] W w
instance (W : World) : Nonempty (Later W) := ⟨⟨W, Fr.refl [] W⟩⟩
theorem Later.cell {W : World} (p : Later W) {b o : Nat} {v : Value} (hb : b < W.heap.size) (h : W.cell? ⟨b, o, none⟩ = some v) : p.w.cell? ⟨b, o, none⟩ = some v := (p.fr.rules.1 b o hb).trans h
theorem Later.calls {P : Program} {f : FuncId} {args : Array Value} {W : World} {v : Value} {p : Later W} (h : Calls P f args p.w fun e w' => e = .returned v ∧ Fr [] p.w w') :
    Calls P f args p.w fun e w'' => e = .returned v ∧ ∃ q : Later W, w'' = q.w :=
  h.mono fun _ w' hh => ⟨hh.1, ⟨w', p.fr.trans hh.2⟩, rfl⟩
theorem wp_region_later {P : Program} {id : Nat} {Q : Exit → Act → World → Prop} {a : Act} {w : World} {l : List Oper} (hm : P.follows .mixedOrders = true) (hB : Region.lexB .any l.toArray = true)
    (h : wpQuiet P l.toArray (fun w' => ∃ p : Later w, w' = p.w) (fun a' => ∀ w', (∃ p : Later w, w' = p.w) → Q .normal a' w') l a) : (Code.region id l.toArray true).wp P Q a w :=
  wp_region_quiet (C := fun w' => ∃ p : Later w, w' = p.w) hm hB ⟨⟨_, (Fr.refl [] w).drew⟩, rfl⟩ (by simpa using h)
end Go.Proofs.Ytakfaffgfdbfmaa
namespace Go.Proofs.Ytakfaffgfdbfmaa
open Go.RowKit

def RngOut (s : Sm.Sta) (t c lo hi : Int) (R : List RowV) : Prop := ((c < 0 ∨ 4 ≤ c) ∧ R = []) ∨ ((0 ≤ c ∧ c < 4) ∧ Picked s c (inRng t c lo hi) R)
theorem RngOut.uniq {s : Sm.Sta} {t c lo hi : Int} {R R' : List RowV} (h : RngOut s t c lo hi R) (h' : RngOut s t c lo hi R') (ho : Sm.Ok s) : R = R' := by
  rcases h with ⟨h1, h2⟩ | ⟨h1, h2⟩ <;> rcases h' with ⟨h3, h4⟩ | ⟨h3, h4⟩
  · rw [h2, h4]
  · omega
  · omega
  · exact h2.uniq h4 ho (fun r => inRng_t r)
theorem srange_all (b m : Nat) (s : Sm.Sta) (t c lo hi : Int) (w : World) (h : StaAt w b m s) :
    Calls Try.prog 24 #[.pointer (some ⟨b, 0, none⟩), .int .i64 t, .int .i64 c, .int .i64 lo, .int .i64 hi] w fun e w' => ∃ A n cap R, e = .returned (.slice A n cap) ∧ n = R.length ∧ RowsAt w' A R ∧ R.length ≤ 2000 ∧ RngOut s t c lo hi R ∧ Fr [] w w' := by
  by_cases hc : 0 ≤ c ∧ c < 4
  · refine (srange_any b m s t c lo hi w h hc.1 hc.2).mono ?_
    rintro e w' ⟨v, R, rfl, hr, hp, hf, _⟩
    obtain ⟨A, cap, rfl⟩ := hr.val
    exact ⟨A, _, cap, R, rfl, rfl, (hr.at1 RowV.cells_len).1, hp.len h.ok, .inr ⟨hc, hp⟩, hf⟩
  · have hc' : c < 0 ∨ 4 ≤ c := by omega
    refine (srange_bad _ t c lo hi w hc').mono ?_
    rintro e w' ⟨rfl, hf⟩
    exact ⟨none, 0, 0, [], rfl, rfl, fun h => absurd h (by simp), by simp, .inl ⟨hc', rfl⟩, hf⟩
theorem rfrange_all (b : Nat) (v : Value) (L : List RowV) (s : Sm.Sta) (t c lo hi : Int) (w : World) (h : RfAt w b v L s) (ho : Sm.Ok s) :
    Calls Try.prog 25 #[.pointer (some ⟨b, 0, none⟩), .int .i64 t, .int .i64 c, .int .i64 lo, .int .i64 hi] w fun e w' => ∃ A n cap R, e = .returned (.slice A n cap) ∧ n = R.length ∧ RowsAt w' A R ∧ R.length ≤ 2000 ∧ RngOut s t c lo hi R ∧ Fr [] w w' := by
  by_cases hc : 0 ≤ c ∧ c < 4
  · refine (rfrange_any b v L s t c lo hi w h hc.1 hc.2).mono ?_
    rintro e w' ⟨v, R, rfl, hr, hp, hf, _⟩
    obtain ⟨A, cap, rfl⟩ := hr.val
    exact ⟨A, _, cap, R, rfl, rfl, (hr.at1 RowV.cells_len).1, hp.len ho, .inr ⟨hc, hp⟩, hf⟩
  · have hc' : c < 0 ∨ 4 ≤ c := by omega
    refine (rfrange_bad _ t c lo hi w hc').mono ?_
    rintro e w' ⟨rfl, rfl⟩
    exact ⟨none, 0, 0, [], rfl, rfl, fun h => absurd h (by simp), by simp, .inl ⟨hc', rfl⟩, Fr.refl _ _⟩
theorem sameRows_n (cs : List RowV) (A B : Option Addr) (n m ca cb : Nat) (w : World) (hn : n = cs.length) (hm : m = cs.length) (ha : RowsAt w A cs) (hb : RowsAt w B cs) (la : cs.length ≤ 4000) :
    Calls Try.prog 23 #[.slice A n ca, .slice B m cb] w fun e w' => e = .returned (.bool true) ∧ Fr [] w w' := by
  subst hn
  subst hm
  refine (sameRows_any cs cs A B ca cb w ha hb la la).mono ?_
  rintro e w' ⟨rfl, h⟩
  rw [decide_eq_true (rfl : cs = cs)]
  exact ⟨rfl, h⟩
theorem got_row (o : Option RowV) : ∃ (y : RowV) (had : Bool), gotVal o = .tuple #[.agg #[.int .i64 y.t, .int .i64 y.k, .int .i64 y.x, .int .i64 y.y, .int .i64 y.z], .bool had] := by
  cases o with
  | none => exact ⟨⟨0, 0, 0, 0, 0⟩, false, rfl⟩
  | some r => exact ⟨r, true, rfl⟩
end Go.Proofs.Ytakfaffgfdbfmaa
namespace Go.Proofs.Ytakfaffgfdbfmaa
open Go.RowKit

set_option maxRecDepth 100000 in
set_option maxHeartbeats 4000000 in
theorem rmatch_walk (A : Option Addr) (n cap : Nat) (p table column low high : Int) (w : World) (hn : n ≤ cap) (hcap : cap ≤ maxLen) (hx : n = 0 ∨ ∃ bx ox, A = some ⟨bx, ox, none⟩ ∧ SixAt w bx ox n) (hbk : okI p) (hb1 : okI table) (hb2 : okI column) (hb3 : okI low) (hb4 : okI high) :
    Calls Try.prog 4 #[.slice A n cap, .int .i64 p, .int .i64 table, .int .i64 column, .int .i64 low, .int .i64 high] w fun e w' => e = .returned (.bool true) ∧ Below w.heap.size w w' := by
  have HX := Lib.hid hx
  have hbb := okI_bounds hbk
  have HB1 := Lib.hid hb1
  have HB2 := Lib.hid hb2
  have HB3 := Lib.hid hb3
  have HB4 := Lib.hid hb4
  have HBP := Lib.hid hbk
  clear hx hbk hb1 hb2 hb3 hb4
  go_enter Try.func4, Try.ntmps4
  go_wp2_with fail
  refine (sane_any _).mono ?_
  rintro e w1 ⟨rfl, f1⟩
  have F1 := Lib.hid f1
  go_wp2_with fail
  refine (log4_any A n cap w1 hn hcap (by
    rcases HX.out with h0 | ⟨bx, ox, h1, h2⟩
    · exact .inl h0
    · exact .inr ⟨bx, ox, h1, h2.fr0 F1.out⟩)).mono ?_
  rintro e w2 ⟨vl, l, rfl, hor, hok, hll, f2, hvo⟩
  obtain ⟨A2, n2, cap2, hv⟩ : ∃ A n c, vl = .slice A n c := by
    obtain ⟨us, hus, _⟩ := hor
    obtain ⟨A2, cap2, hv⟩ := hus.val
    exact ⟨_, _, _, hv⟩
  subst hv
  obtain ⟨hat, hnl⟩ := hor.recs
  subst hnl
  have hc2 : l.length ≤ cap2 := hor.cap
  have HAT := Lib.hid hat
  have HOK := Lib.hid hok
  have F2 := Lib.hid f2
  have HP := Lib.hid (fun W => pick_any p (l.length + 2) W hbb.1 hbb.2 (by omega) (by omega))
  obtain ⟨q, hq, hql⟩ : ∃ q : Int, pickI p (l.length + 2) = q ∧ 0 ≤ q ∧ q < (l.length : Int) + 2 := ⟨_, rfl, pickI_nonneg p (by omega), pickI_lt p (by omega)⟩
  rw [hq] at HP
  have F12 := Lib.hid (F1.out.trans F2.out)
  clear hor hat hok f1 f2 hbb hvo hq HX F1 F2
  go_wp2_with fail
  refine (HP.out _).mono ?_
  rintro e w3 ⟨rfl, rfl⟩
  have HB0 := Lib.hid (Blk.new w2 3 #[.int .i64 p, .int .i64 (q - 1)])
  have FA0 := Lib.hid ((Fr.refl [] w2).alloc (.cells #[.int .i64 p, .int .i64 (q - 1)] 3))
  go_wp2_with fail
  generalize (w2.alloc (.cells #[.int .i64 p, .int .i64 (q - 1)] 3)) = W3 at HB0 FA0 ⊢
  generalize hg3 : w2.heap.size = g3 at HB0 ⊢
  clear hg3
  go_loopw [39] (fun i wr => ∃ i0 : Nat, i = .int .i64 i0 ∧ i0 ≤ 2 ∧ Hid (Fr [] W3 wr)) (fun i _ => 2 - (intOf i).toNat)
  case atStart => exact ⟨0, rfl, Nat.zero_le _, Lib.hid (Fr.refl _ _)⟩
  case round =>
    obtain ⟨i, rfl, hi, HR⟩ := hrel
    by_cases hlt : i < 2
    · obtain ⟨x, hx, hxo⟩ : ∃ x, wr.cell? ⟨g3, i, none⟩ = some (.int .i64 x) ∧ okI x := by
        have hb := HB0.out.fr HR.out (by simp)
        obtain rfl | rfl : i = 0 ∨ i = 1 := by omega
        · exact ⟨p, hb.cell 0, HBP.out⟩
        · exact ⟨q - 1, hb.cell 1, okI_mk (by omega) (by omega)⟩
      have hxb := okI_bounds hxo
      have HATr := Lib.hid ((HAT.out.fr0 FA0.out).fr0 HR.out)
      obtain ⟨Wr, hWr⟩ : ∃ W, W = wr := ⟨_, rfl⟩
      subst hWr
      by_cases hv : 0 ≤ x ∧ x ≤ l.length
      · obtain ⟨k, rfl⟩ : ∃ k : Nat, x = (k : Int) := ⟨x.toNat, by omega⟩
        have hkl : k ≤ l.length := by omega
        clear hv hxo hxb
        go_wp2_with fail
        refine (sat_ok A2 cap2 l k Wr HATr.out (by omega) hkl hc2 (fun i h _ => HOK.out.fits i h)).mono ?_
        rintro e w4 ⟨b, m, rfl, hst, f4, _, _⟩
        have HST := Lib.hid hst
        have F4 := Lib.hid f4
        have HAT4 := Lib.hid (HATr.out.fr0 f4)
        clear hst f4
        go_wp2_with fail
        refine (rfat_ok A2 cap2 l k w4 HAT4.out (by omega) hkl (fun i h _ => HOK.out.fits i h)).mono ?_
        rintro e w5 ⟨b', v, L, rfl, hrf, f5, _, _⟩
        have HRF := Lib.hid hrf
        have HS5 := Lib.hid (HST.out.fr0 f5)
        have F5 := Lib.hid (F4.out.trans f5)
        clear hrf f5
        obtain ⟨S, hS⟩ : ∃ S, Lg.run (l.take k) = S := ⟨_, rfl⟩
        have hso : Sm.Ok S := by rw [← hS]; exact Lg.run_ok _
        have HSO := Lib.hid hso
        rw [hS] at HS5 HRF
        have hk1 := okI_bounds HB1.out
        have hk2 := okI_bounds HB2.out
        have hk3 := okI_bounds HB3.out
        have hk4 := okI_bounds HB4.out
        have HPt := Lib.hid (fun W => pick_any table 3 W hk1.1 hk1.2 (by omega) (by omega))
        have HPc := Lib.hid (fun W => pick_any column 6 W hk2.1 hk2.2 (by omega) (by omega))
        have HPl := Lib.hid (fun W => pick_any low 40 W hk3.1 hk3.2 (by omega) (by omega))
        have HPh := Lib.hid (fun W => pick_any high 40 W hk4.1 hk4.2 (by omega) (by omega))
        obtain ⟨pt, hpt, hpt0⟩ : ∃ z, pickI table 3 = z ∧ 0 ≤ z ∧ z < 3 := ⟨_, rfl, pickI_nonneg table (by omega), pickI_lt table (by omega)⟩
        obtain ⟨pc, hpc, hpc0⟩ : ∃ z, pickI column 6 = z ∧ 0 ≤ z ∧ z < 6 := ⟨_, rfl, pickI_nonneg column (by omega), pickI_lt column (by omega)⟩
        obtain ⟨pl, hpl, hpl0⟩ : ∃ z, pickI low 40 = z ∧ 0 ≤ z ∧ z < 40 := ⟨_, rfl, pickI_nonneg low (by omega), pickI_lt low (by omega)⟩
        obtain ⟨ph, hph, hph0⟩ : ∃ z, pickI high 40 = z ∧ 0 ≤ z ∧ z < 40 := ⟨_, rfl, pickI_nonneg high (by omega), pickI_lt high (by omega)⟩
        rw [hpt] at HPt
        rw [hpc] at HPc
        rw [hpl] at HPl
        rw [hph] at HPh
        have HB6 := Lib.hid (Blk.new w5 46 #[.int .i64 table, .int .i64 column, .int .i64 low, .int .i64 high, .int .i64 pt, .int .i64 (pc - 1), .int .i64 (pl - 20), .int .i64 (ph - 10)])
        have FA6 := Lib.hid ((Fr.refl [] w5).alloc (.cells #[.int .i64 table, .int .i64 column, .int .i64 low, .int .i64 high, .int .i64 pt, .int .i64 (pc - 1), .int .i64 (pl - 20), .int .i64 (ph - 10)] 46))
        clear hk1 hk2 hk3 hk4 hpt hpc hpl hph hS hso hkl hx
        go_wp2_with (go_at_call 18; first | (with_reducible refine (HPt.out _).mono ?_; rintro e w' ⟨rfl, rfl⟩) | (with_reducible refine (HPc.out _).mono ?_; rintro e w' ⟨rfl, rfl⟩) | (with_reducible refine (HPl.out _).mono ?_; rintro e w' ⟨rfl, rfl⟩) | (with_reducible refine (HPh.out _).mono ?_; rintro e w' ⟨rfl, rfl⟩))
        clear HPt HPc HPl HPh
        generalize (w5.alloc (.cells #[.int .i64 table, .int .i64 column, .int .i64 low, .int .i64 high, .int .i64 pt, .int .i64 (pc - 1), .int .i64 (pl - 20), .int .i64 (ph - 10)] 46)) = W6 at HB6 FA6 ⊢
        generalize hg6 : w5.heap.size = g6 at HB6 ⊢
        clear hg6
        have HSJ := Lib.hid (HS5.out.fr0 FA6.out)
        have HRJ := Lib.hid (HRF.out.fr0 FA6.out)
        go_loopw [86] (fun i wj => ∃ i0 : Nat, i = .int .i64 i0 ∧ i0 ≤ 2 ∧ Hid (Fr [] W6 wj)) (fun i _ => 2 - (intOf i).toNat)
        case atStart => exact ⟨0, rfl, Nat.zero_le _, Lib.hid (Fr.refl _ _)⟩
        case round =>
          obtain ⟨j, rfl, hj, HJ⟩ := hrel
          by_cases hjl : j < 2
          · obtain ⟨t, c, lo, hi, k0, k1, k2, k3, okt, oklo⟩ : ∃ t c lo hi, wr.cell? ⟨g6, j * 4, none⟩ = some (.int .i64 t) ∧ wr.cell? ⟨g6, j * 4 + 1, none⟩ = some (.int .i64 c) ∧ wr.cell? ⟨g6, j * 4 + 2, none⟩ = some (.int .i64 lo) ∧ wr.cell? ⟨g6, j * 4 + 3, none⟩ = some (.int .i64 hi) ∧ okI t ∧ okI lo := by
              have hb := HB6.out.fr HJ.out (by simp)
              obtain rfl | rfl : j = 0 ∨ j = 1 := by omega
              · exact ⟨table, column, low, high, hb.cell 0, hb.cell 1, hb.cell 2, hb.cell 3, HB1.out, HB3.out⟩
              · exact ⟨pt, pc - 1, pl - 20, ph - 10, hb.cell 4, hb.cell 5, hb.cell 6, hb.cell 7, okI_mk (by omega) (by omega), okI_mk (by omega) (by omega)⟩
            have HG1 := Lib.hid (fun W (f : Fr [] W6 W) => sget_any b m S t lo W (HSJ.out.fr0 f) okt oklo)
            have HG2 := Lib.hid (fun W (f : Fr [] W6 W) => rfget_any b' v L S t lo W (HRJ.out.fr0 f) okt oklo)
            obtain ⟨y, yh, hgs⟩ := got_row (mget S.M (idOf t lo))
            rw [hgs] at HG1 HG2
            have hq := neq_row y y
            have hg := eqGuard_row
            rw [decide_eq_true (rfl : y = y)] at hq
            clear okt oklo hgs
            obtain ⟨Wj, hWj⟩ : ∃ W, W = wr := ⟨_, rfl⟩
            subst hWj
            have hbq := Blk.new Wj 46 #[.int .i64 t, .int .i64 c, .int .i64 lo, .int .i64 hi]
            have HBQ := Lib.hid hbq
            have FQ := Lib.hid (HJ.out.alloc (.cells #[.int .i64 t, .int .i64 c, .int .i64 lo, .int .i64 hi] 46))
            clear hbq
            go_wp2_with fail
            refine (HG1.out _ FQ.out).mono ?_
            rintro e w7 ⟨rfl, f7⟩
            have F7 := Lib.hid (FQ.out.trans f7)
            have HBQ7 := Lib.hid (HBQ.out.fr f7 (by simp))
            clear f7 k0 k1 k2 k3
            have hB1 := Blk.new w7 50 #[.int .i64 y.t, .int .i64 y.k, .int .i64 y.x, .int .i64 y.y, .int .i64 y.z]
            have HB1r := Lib.hid hB1
            have F8 := Lib.hid (F7.out.alloc (.cells #[.int .i64 y.t, .int .i64 y.k, .int .i64 y.x, .int .i64 y.y, .int .i64 y.z] 50))
            have HBQ8 := Lib.hid (HBQ7.out.alloc (.cells #[.int .i64 y.t, .int .i64 y.k, .int .i64 y.x, .int .i64 y.y, .int .i64 y.z] 50))
            have m0 := HBQ8.out.cell 0
            have m2 := HBQ8.out.cell 2
            clear hB1
            go_wp2_with fail
            clear m0 m2
            refine (HG2.out _ F8.out).mono ?_
            rintro e w9 ⟨rfl, f9⟩
            have F9 := Lib.hid (F8.out.trans f9)
            have HBQ9 := Lib.hid (HBQ8.out.fr f9 (by simp))
            have HB19 := Lib.hid (HB1r.out.fr f9 (by simp))
            clear f9
            have HB2r := Lib.hid (Blk.new w9 50 #[.int .i64 y.t, .int .i64 y.k, .int .i64 y.x, .int .i64 y.y, .int .i64 y.z])
            have F10 := Lib.hid (F9.out.alloc (.cells #[.int .i64 y.t, .int .i64 y.k, .int .i64 y.x, .int .i64 y.y, .int .i64 y.z] 50))
            have HBQ10 := Lib.hid (HBQ9.out.alloc (.cells #[.int .i64 y.t, .int .i64 y.k, .int .i64 y.x, .int .i64 y.y, .int .i64 y.z] 50))
            have HB110 := Lib.hid (HB19.out.alloc (.cells #[.int .i64 y.t, .int .i64 y.k, .int .i64 y.x, .int .i64 y.y, .int .i64 y.z] 50))
            go_upto_region 16 with fail
            generalize (w9.alloc (.cells #[.int .i64 y.t, .int .i64 y.k, .int .i64 y.x, .int .i64 y.y, .int .i64 y.z] 50)) = W10 at HB2r F10 HBQ10 HB110 ⊢
            generalize w9.heap.size = g2 at HB2r ⊢
            generalize w7.heap.size = g1 at HB110 ⊢
            generalize Wj.heap.size = gq at HBQ10 ⊢
            clear HBQ HBQ7 HBQ8 HBQ9 HB1r HB19 FQ F7 F8 F9 HG1 HG2
            go_cut [145] (fun s wc => s = .bool false ∧ Hid (Fr [] W10 wc))
            case first =>
              have hlq := HBQ10.out.lt
              have hl1 := HB110.out.lt
              have hl2 := HB2r.out.lt
              have m0 : W10.cell? ⟨gq, 0, none⟩ = some (.int .i64 t) := HBQ10.out.cell 0
              have m1 : W10.cell? ⟨gq, 1, none⟩ = some (.int .i64 c) := HBQ10.out.cell 1
              have m2 : W10.cell? ⟨gq, 2, none⟩ = some (.int .i64 lo) := HBQ10.out.cell 2
              have m3 : W10.cell? ⟨gq, 3, none⟩ = some (.int .i64 hi) := HBQ10.out.cell 3
              have n0 : W10.cell? ⟨g1, 0, none⟩ = some (.int .i64 y.t) := HB110.out.cell 0
              have n1 : W10.cell? ⟨g1, 1, none⟩ = some (.int .i64 y.k) := HB110.out.cell 1
              have n2 : W10.cell? ⟨g1, 2, none⟩ = some (.int .i64 y.x) := HB110.out.cell 2
              have n3 : W10.cell? ⟨g1, 3, none⟩ = some (.int .i64 y.y) := HB110.out.cell 3
              have n4 : W10.cell? ⟨g1, 4, none⟩ = some (.int .i64 y.z) := HB110.out.cell 4
              have o0 : W10.cell? ⟨g2, 0, none⟩ = some (.int .i64 y.t) := HB2r.out.cell 0
              have o1 : W10.cell? ⟨g2, 1, none⟩ = some (.int .i64 y.k) := HB2r.out.cell 1
              have o2 : W10.cell? ⟨g2, 2, none⟩ = some (.int .i64 y.x) := HB2r.out.cell 2
              have o3 : W10.cell? ⟨g2, 3, none⟩ = some (.int .i64 y.y) := HB2r.out.cell 3
              have o4 : W10.cell? ⟨g2, 4, none⟩ = some (.int .i64 y.z) := HB2r.out.cell 4
              have KPH := Lib.hid (fun w' (f : Fr [] W10 w') => (show w'.cell? ⟨gq, 0, none⟩ = some (.int .i64 t) ∧ w'.cell? ⟨gq, 1, none⟩ = some (.int .i64 c) ∧ w'.cell? ⟨gq, 2, none⟩ = some (.int .i64 lo) ∧ w'.cell? ⟨gq, 3, none⟩ = some (.int .i64 hi) ∧ w'.cell? ⟨g1, 0, none⟩ = some (.int .i64 y.t) ∧ w'.cell? ⟨g1, 1, none⟩ = some (.int .i64 y.k) ∧ w'.cell? ⟨g1, 2, none⟩ = some (.int .i64 y.x) ∧ w'.cell? ⟨g1, 3, none⟩ = some (.int .i64 y.y) ∧ w'.cell? ⟨g1, 4, none⟩ = some (.int .i64 y.z) ∧ w'.cell? ⟨g2, 0, none⟩ = some (.int .i64 y.t) ∧ w'.cell? ⟨g2, 1, none⟩ = some (.int .i64 y.k) ∧ w'.cell? ⟨g2, 2, none⟩ = some (.int .i64 y.x) ∧ w'.cell? ⟨g2, 3, none⟩ = some (.int .i64 y.y) ∧ w'.cell? ⟨g2, 4, none⟩ = some (.int .i64 y.z) from ⟨(f.rules.1 gq _ hlq).trans m0, (f.rules.1 gq _ hlq).trans m1, (f.rules.1 gq _ hlq).trans m2, (f.rules.1 gq _ hlq).trans m3, (f.rules.1 g1 _ hl1).trans n0, (f.rules.1 g1 _ hl1).trans n1, (f.rules.1 g1 _ hl1).trans n2, (f.rules.1 g1 _ hl1).trans n3, (f.rules.1 g1 _ hl1).trans n4, (f.rules.1 g2 _ hl2).trans o0, (f.rules.1 g2 _ hl2).trans o1, (f.rules.1 g2 _ hl2).trans o2, (f.rules.1 g2 _ hl2).trans o3, (f.rules.1 g2 _ hl2).trans o4⟩))
              have HS10 := Lib.hid (fun W (f : Fr [] W10 W) => HSJ.out.fr0 (F10.out.trans f))
              have HR10 := Lib.hid (fun W (f : Fr [] W10 W) => HRJ.out.fr0 (F10.out.trans f))
              have FD := Lib.hid ((Fr.refl [] W10).drew)
              clear hlq hl1 hl2
              first | (go_region_held3 (fun w' => w'.cell? ⟨gq, 0, none⟩ = some (.int .i64 t) ∧ w'.cell? ⟨gq, 1, none⟩ = some (.int .i64 c) ∧ w'.cell? ⟨gq, 2, none⟩ = some (.int .i64 lo) ∧ w'.cell? ⟨gq, 3, none⟩ = some (.int .i64 hi) ∧ w'.cell? ⟨g1, 0, none⟩ = some (.int .i64 y.t) ∧ w'.cell? ⟨g1, 1, none⟩ = some (.int .i64 y.k) ∧ w'.cell? ⟨g1, 2, none⟩ = some (.int .i64 y.x) ∧ w'.cell? ⟨g1, 3, none⟩ = some (.int .i64 y.y) ∧ w'.cell? ⟨g1, 4, none⟩ = some (.int .i64 y.z) ∧ w'.cell? ⟨g2, 0, none⟩ = some (.int .i64 y.t) ∧ w'.cell? ⟨g2, 1, none⟩ = some (.int .i64 y.k) ∧ w'.cell? ⟨g2, 2, none⟩ = some (.int .i64 y.x) ∧ w'.cell? ⟨g2, 3, none⟩ = some (.int .i64 y.y) ∧ w'.cell? ⟨g2, 4, none⟩ = some (.int .i64 y.z))
                (first | go_keep | exact KPH.out _ (FD.out.trans f1) | exact KPH.out _ F2.out | exact KPH.out _ F3.out | exact KPH.out _ F4a.out)
                (first
                  | (go_at_call 17; refine (same_any b m b' v L S _ (HS10.out _ FD.out) (HR10.out _ FD.out)).mono ?_; rintro e w1 ⟨rfl, f1⟩; have F1 := Lib.hid (FD.out.trans f1))
                  | (go_at_call 24; refine (srange_all b m S t c lo hi _ (HS10.out _ F1.out)).mono ?_; rintro e w2 ⟨Ax, nx, cx, Rx, rfl, hnx, hax, hlx, hrx, f2⟩; have F2 := Lib.hid (F1.out.trans f2); have HAX := Lib.hid hax; have HNX := Lib.hid hnx; have HLX := Lib.hid hlx; have HRX := Lib.hid hrx; clear hax hnx hlx hrx f2)
                  | (go_at_call 25; refine (rfrange_all b' v L S t c lo hi _ (HR10.out _ F2.out) HSO.out).mono ?_; rintro e w3 ⟨Ay, ny, cy, Ry, rfl, hny, hay, hly, hry, f3⟩; have F3 := Lib.hid (F2.out.trans f3); have HAY := Lib.hid hay; have HNY := Lib.hid hny; have HEQ := Lib.hid (RngOut.uniq HRX.out hry HSO.out); have HAX3 := Lib.hid (HAX.out.fr0 f3); clear hay hny hly hry f3)
                  | (go_at_call 23; refine (sameRows_n Rx Ax Ay nx ny cx cy _ HNX.out (by rw [HEQ.out]; exact HNY.out) HAX3.out (by rw [HEQ.out]; exact HAY.out) (Nat.le_trans HLX.out (by decide))).mono ?_; rintro e w4 ⟨rfl, f4⟩; have F4a := Lib.hid (F3.out.trans f4); clear f4))) | fail "x"
              go_wp2_with fail
              go_meet
              exact ⟨rfl, F4a⟩
            case rest =>
              obtain ⟨rfl, HF2⟩ := hcut
              have HFN := Lib.hid (F10.out.trans HF2.out)
              go_wp2_with fail
              go_roundw
              case rel => exact ⟨j + 1, by go_num, by omega, HFN⟩
              case measure => simp [intOf]; omega
          · have hj2 : j = 2 := by omega
            subst hj2
            have HFE := Lib.hid ((((HR.out).trans F5.out).trans FA6.out).trans HJ.out)
            go_wp2_with fail
            go_roundw
            case rel => exact ⟨i + 1, by go_num, by omega, HFE⟩
            case measure => simp [intOf]; omega
      · have hv' : x < 0 ∨ (l.length : Int) < x := by omega
        have hln : l.length ≤ maxLen := Nat.le_trans (show l.length ≤ 1000 by omega) (by decide)
        clear hv
        go_wp2_with fail
        refine (sat_bad A2 l.length cap2 x Wr hln hv').mono ?_
        rintro e w4 ⟨rfl, rfl⟩
        go_wp2_with fail
        refine (rfat_bad A2 l.length cap2 x Wr hln hv').mono ?_
        rintro e w4 ⟨rfl, rfl⟩
        go_wp2_with fail
        go_roundw
        case rel => exact ⟨i + 1, by go_num, by omega, HR⟩
        case measure => simp [intOf]; omega
    · have hi2 : i = 2 := by omega
      subst hi2
      have HFZ := Lib.hid ((F12.out.trans FA0.out).trans HR.out)
      go_wp2_with fail
      go_ret
      exact ⟨rfl, HFZ.out.below⟩
end Go.Proofs.Ytakfaffgfdbfmaa
namespace Go.Proofs.Ytakfaffgfdbfmaa
open Go.RowKit Go.WideShapes Go.ChangeShapes

set_option maxRecDepth 100000 in
theorem rmatch_law : LawWalk 4 Try.f4 := by
  intro H enc W base args ds p hval0 hA0 hlt hsz
  have hval : ∀ (j : Nat) t v, Try.f4.params[j]? = some t → args[j]? = some v → Value.okWide Try.prog W .any base t v := hval0
  have hA : DataW.TrodAll enc Try.prog W 0 (fun _ => true) true Try.f4.params.toList args.toList ds p := hA0
  clear hA0 hval0 hsz
  rw [Try.params4] at hA hval
  obtain ⟨v0, vs0, d0, ds0, p0, q0, hargs, rfl, rfl, h0, r0⟩ := trodAll_cons hA
  obtain ⟨v1, vs1, d1, ds1, p1, q1, rfl, rfl, rfl, h1, r1⟩ := trodAll_cons r0
  obtain ⟨v2, vs2, d2, ds2, p2, q2, rfl, rfl, rfl, h2, r2⟩ := trodAll_cons r1
  obtain ⟨v3, vs3, d3, ds3, p3, q3, rfl, rfl, rfl, h3, r3⟩ := trodAll_cons r2
  obtain ⟨v4, vs4, d4, ds4, p4, q4, rfl, rfl, rfl, h4, r4⟩ := trodAll_cons r3
  obtain ⟨v5, vs5, d5, ds5, p5, q5, rfl, rfl, rfl, h5, r5⟩ := trodAll_cons r4
  obtain ⟨rfl, rfl, rfl⟩ := trodAll_nil r5
  obtain rfl : args = #[v0, v1, v2, v3, v4, v5] := by cases args; simp_all
  obtain ⟨A0, n0, cap0, rfl, hn0, hmax0, hx0⟩ := open_sixes (hval 0 _ v0 rfl rfl) h0
  obtain ⟨x1, rfl, rfl, rfl, wx1⟩ := open_int Try.underlying3 (hval 1 _ v1 rfl rfl) h1
  obtain ⟨x2, rfl, rfl, rfl, wx2⟩ := open_int Try.underlying3 (hval 2 _ v2 rfl rfl) h2
  obtain ⟨x3, rfl, rfl, rfl, wx3⟩ := open_int Try.underlying3 (hval 3 _ v3 rfl rfl) h3
  obtain ⟨x4, rfl, rfl, rfl, wx4⟩ := open_int Try.underlying3 (hval 4 _ v4 rfl rfl) h4
  obtain ⟨x5, rfl, rfl, rfl, wx5⟩ := open_int Try.underlying3 (hval 5 _ v5 rfl rfl) h5
  exact rmatch_walk A0 n0 cap0 x1 x2 x3 x4 x5 W hn0 hmax0 hx0 wx1 wx2 wx3 wx4 wx5

set_option maxRecDepth 100000 in
theorem rmatch_lifted (os : Os) (started : os.Started) (H : Type) (enc : TypeId × Value → H) :
    ReturnsInHanded {} Try.checked os 4 .any (Rows.storeRangeMatchesReferenceSpec.pre6 enc Try.prog Try.f4 Rows.storeRangeMatchesReferenceRow.domain false) (Rows.storeRangeMatchesReferenceSpec.post enc Try.prog Try.f4 false true false false) :=
  law_lifted (s := Rows.storeRangeMatchesReferenceSpec) (conds := Rows.storeRangeMatchesReferenceRow.domain) Try.func4 (by kernel_rfl) rfl rfl
    (by
      rw [Try.params4]
      intro t ht
      simp only [List.mem_cons, List.not_mem_nil, or_false] at ht
      rcases ht with rfl | rfl | rfl | rfl | rfl | rfl
      all_goals exact ⟨by kernel_rfl, of_decide_eq_true (by kernel_rfl)⟩)
    (fun H ds h => by
      match ds, h with
      | [d0, d1, d2, d3, d4, d5], _ => exact ⟨rfl, rfl, rfl⟩) rmatch_law os started H enc
    (ChangeSpec.witness6 (enc := enc) (C := Try.checked) false ⟨#[], #[.slice none 0 0, .int .i64 0, .int .i64 0, .int .i64 0, .int .i64 0, .int .i64 0], []⟩ 8 (by kernel_rfl) (by kernel_rfl) (by kernel_rfl) (by kernel_rfl))

theorem rmatch_holds : Rows.StoreRangeMatchesReferenceSaid :=
  OpenClaim.holds_of_wide 4 Try.f4 rfl rfl rfl rfl rfl rfl rfl ⟨rfl, rfl, rfl, rfl, rfl⟩ rfl rfl rfl rfl rfl (by kernel_rfl) Try.func4 (by kernel_rfl)
    (of_decide_eq_true (by kernel_rfl)) (by unfold Func.isWrapper; rw [if_neg (of_decide_eq_false (by kernel_rfl))]; exact ⟨rfl, rfl⟩)
    (fun os started H enc _ => rmatch_lifted os started H enc)
#print axioms rmatch_holds

end Go.Proofs.Ytakfaffgfdbfmaa
