/-
  Two records that concern different rows can be applied in either order, and give the same rows: at most 20 records and two changes that integers determine. Conditions: none.
-/
import Derived.Test.YtakfaffgfdbfmaaBase
import Derived.BigQuiet
import Derived.Test.YtakfaffgfdbfmaaOk
import Derived.OpenShut
import Derived.Laws.IdiomArrays
import Derived.Test.YtakfaffgfdbfmaaSwC
import Derived.Test.YtakfaffgfdbfmaaLgE
import Derived.Test.YtakfaffgfdbfmaaSwB
import Derived.Test.YtakfaffgfdbfmaaSwP
import Derived.Test.YtakfaffgfdbfmaaStX
import Derived.Deep.DeepCutAuto
import Derived.Deep.RegionLaw
import Derived.Deep.RegionWith
import Derived.Deep.CutBlock
import Derived.StillTailTactics
namespace Go.Proofs.Ytakfaffgfdbfmaa

/-- A world behind W: what is old there is as it was. -/
structure Later (W : World) where
  w : World
  fr : Fr [] W w
instance (W : World) : Nonempty (Later W) := ⟨⟨W, Fr.refl [] W⟩⟩
theorem Later.cell {W : World} (p : Later W) {b o : Nat} {v : Value} (hb : b < W.heap.size) (h : W.cell? ⟨b, o, none⟩ = some v) : p.w.cell? ⟨b, o, none⟩ = some v := (p.fr.rules.1 b o hb).trans h
theorem Later.calls {P : Program} {f : FuncId} {args : Array Value} {W : World} {v : Value} {p : Later W} (h : Calls P f args p.w fun e w' => e = .returned v ∧ Fr [] p.w w') :
    Calls P f args p.w fun e w'' => e = .returned v ∧ ∃ q : Later W, w'' = q.w :=
  h.mono fun _ w' hh => ⟨hh.1, ⟨w', p.fr.trans hh.2⟩, rfl⟩
theorem wp_region_later {P : Program} {id : Nat} {Q : Exit → Act → World → Prop} {a : Act} {w : World} {l : List Oper} (hm : P.follows .mixedOrders = true) (hB : Region.lexB .any l.toArray = true)
    (h : wpQuiet P l.toArray (fun w' => ∃ p : Later w, w' = p.w) (fun a' => ∀ w', (∃ p : Later w, w' = p.w) → Q .normal a' w') l a) : (Code.region id l.toArray true).wp P Q a w :=
  wp_region_quiet (C := fun w' => ∃ p : Later w, w' = p.w) hm hB ⟨⟨_, (Fr.refl [] w).drew⟩, rfl⟩ (by simpa using h)
end Go.Proofs.Ytakfaffgfdbfmaa
namespace Go.Proofs.Ytakfaffgfdbfmaa
open Go.RowKit Go.WideShapes Go.ChangeShapes

set_option maxRecDepth 100000 in
theorem threeCells : Try.prog.cellsOf 48 = 3 := by kernel_rfl
set_option maxRecDepth 100000 in
theorem threeInt : Try.prog.cellsOf 3 = 1 := by kernel_rfl
set_option maxRecDepth 100000 in
theorem open_three {H : Type} {enc : TypeId × Value → H} {W : World} {base : Nat} {v : Value} {d : DataW H} {p : List MemPlace} (hv : Value.okWide Try.prog W .any base 48 v)
    (h : DataW.Trod enc Try.prog W 0 (fun _ => true) true 48 v d p) :
    ∃ a b c, v = .agg #[.int .i64 a, .int .i64 b, .int .i64 c] ∧ okI a ∧ okI b ∧ okI c := by
  unfold Value.okWide at hv
  rw [Try.underlying48] at hv
  obtain ⟨cs, rfl, hs, _⟩ := hv
  rw [threeCells] at hs
  obtain ⟨c0, c1, c2, rfl⟩ : ∃ c0 c1 c2, cs = #[c0, c1, c2] := by
    obtain ⟨l⟩ := cs
    match l, hs with
    | [c0, c1, c2], _ => exact ⟨c0, c1, c2, rfl⟩
  obtain ⟨fuel, hf⟩ := h
  obtain ⟨y0, y1, y2, n, _, h0, h1, h2⟩ := trod_array3 Try.underlying48 threeInt hf
  obtain ⟨z0, e0, _, w0⟩ := DataW.trod_int Try.underlying3 h0
  obtain ⟨z1, e1, _, w1⟩ := DataW.trod_int Try.underlying3 h1
  obtain ⟨z2, e2, _, w2⟩ := DataW.trod_int Try.underlying3 h2
  injection e0 with e0
  injection e1 with e1
  injection e2 with e2
  subst e0 e1 e2
  exact ⟨z0, z1, z2, rfl, w0, w1, w2⟩
end Go.Proofs.Ytakfaffgfdbfmaa
namespace Go.Proofs.Ytakfaffgfdbfmaa
open Go.RowKit

theorem wrap_small {x : Int} (h1 : -1000 ≤ x) (h2 : x ≤ 1000) : IntKind.i64.wrap x = x := by
  simp [IntKind.wrap, IntKind.signed, IntKind.bits]
  omega
/-- The change that three integers determine. -/
def mkOf (M : List (IdK × RowV)) (n0 n1 n2 : Int) : Chg := Cmt.mk M (pickI n0 3) (1 + pickI n1 9) (decide (0 < pickI n2 3)) (pickI n2 50)
theorem mkOf_ok {M : List (IdK × RowV)} (hM : Nd M) (hv : ∀ e ∈ M, Cmt.SmallV e.2) (n0 n1 n2 : Int) : Rw.chg (mkOf M n0 n1 n2) = true ∧ Sm.meets M (mkOf M n0 n1 n2) = true := by
  have h0 := pickI_nonneg n0 (n := 3) (by omega)
  have h1 := pickI_lt n0 (n := 3) (by omega)
  have h2 := pickI_nonneg n1 (n := 9) (by omega)
  have h3 := pickI_lt n1 (n := 9) (by omega)
  have h4 := pickI_nonneg n2 (n := 50) (by omega)
  have h5 := pickI_lt n2 (n := 50) (by omega)
  exact ⟨Cmt.mk_chg hM hv ⟨h0, by omega⟩ ⟨by omega, by omega⟩ _ ⟨h4, h5⟩, Cmt.mk_meets _ _ _ _ _⟩
theorem holds_two {w : World} {g cap : Nat} {a b : Chg} (h : OwnL 57 10 Chg.cells w (.slice (some ⟨g, 0, none⟩) 2 cap) [a, b]) : HoldsC w (some ⟨g, 0, none⟩) [a] ∧ HoldsC w (some ⟨g, 10, none⟩) [b] := by
  obtain ⟨hc, ht⟩ := h.holdsC
  obtain ⟨b', off, e, hl, hcell⟩ := hc (by simp)
  cases e
  obtain ⟨arr, fz, hh⟩ := ht (by simp) _ rfl
  refine ⟨⟨fun _ => ⟨g, 0, rfl, hl, fun i hi j hj => ?_⟩, fun _ ad e => ?_⟩, ⟨fun _ => ⟨g, 10, rfl, hl, fun i hi j hj => ?_⟩, fun _ ad e => ?_⟩⟩
  · obtain rfl : i = 0 := by simp at hi; omega
    exact hcell 0 (by simp) j hj
  · cases e
    exact ⟨arr, fz, hh⟩
  · obtain rfl : i = 0 := by simp at hi; omega
    have h1 := hcell 1 (by simp) j hj
    rw [Nat.zero_add, Nat.one_mul] at h1
    rw [Nat.zero_mul, Nat.add_zero]
    exact h1
  · cases e
    exact ⟨arr, fz, hh⟩
/-- Between two rounds of the making of the changes. -/
structure CmRel (W5 wr : World) (v : Value) (cs : List Chg) : Prop where
  row : OwnL 57 10 Chg.cells wr v cs
  fr : Fr [] W5 wr
  own : ∀ g, v.ownBlock = some g → W5.heap.size ≤ g

set_option maxRecDepth 100000 in
set_option maxHeartbeats 8000000 in
theorem comm_walk (A : Option Addr) (n cap : Nat) (a0 a1 a2 b0 b1 b2 : Int) (w : World) (hn : n ≤ cap) (hcap : cap ≤ maxLen) (hx : n = 0 ∨ ∃ bx ox, A = some ⟨bx, ox, none⟩ ∧ SixAt w bx ox n) (hoka : okI a0 ∧ okI a1 ∧ okI a2) (hokb : okI b0 ∧ okI b1 ∧ okI b2) :
    Calls Try.prog 10 #[.slice A n cap, .agg #[.int .i64 a0, .int .i64 a1, .int .i64 a2], .agg #[.int .i64 b0, .int .i64 b1, .int .i64 b2]] w fun e w' => e = .returned (.bool true) ∧ Below w.heap.size w w' := by
  have HX := Lib.hid hx
  have H6 : Hid (okI a0 ∧ okI a1 ∧ okI a2 ∧ okI b0 ∧ okI b1 ∧ okI b2) := Lib.hid ⟨hoka.1, hoka.2.1, hoka.2.2, hokb⟩
  clear hx hoka hokb
  have hb63 : cap < 9223372036854775808 := by simp only [maxLen] at hcap; omega
  go_enter Try.func10, Try.ntmps10
  go_wp2_with fail
  refine (sane_any _).mono ?_
  rintro e w1 ⟨rfl, f1⟩
  have F1 := Lib.hid ((((Fr.refl [] w).alloc (.cells #[.int .i64 a0, .int .i64 a1, .int .i64 a2] 48)).alloc (.cells #[.int .i64 b0, .int .i64 b1, .int .i64 b2] 48)).trans f1)
  have HBa := Lib.hid (((Blk.new w 48 #[.int .i64 a0, .int .i64 a1, .int .i64 a2]).alloc (.cells #[.int .i64 b0, .int .i64 b1, .int .i64 b2] 48)).fr f1 (by simp))
  have HBb : Hid (Blk w1 (w.heap.size + 1) 48 #[.int .i64 b0, .int .i64 b1, .int .i64 b2]) := Lib.hid (by
    have h1 := Blk.new (w.alloc (.cells #[.int .i64 a0, .int .i64 a1, .int .i64 a2] 48)) 48 #[.int .i64 b0, .int .i64 b1, .int .i64 b2]
    rw [World.size_alloc] at h1
    exact h1.fr f1 (by simp))
  clear f1
  · go_wp2_with fail
    obtain ⟨m20, hm20⟩ : ∃ m : Nat, (min (n : Int) 20).toNat = m := ⟨_, rfl⟩
    have hm1 : m20 ≤ 20 ∧ m20 ≤ n := by omega
    rw [hm20]
    refine (log_any A m20 cap w1 (by omega) (by
      rcases HX.out with h0 | ⟨bx, ox, h1, h2⟩
      · exact .inl (by omega)
      · exact .inr ⟨bx, ox, h1, (h2.le hm1.2).fr0 F1.out⟩)).mono ?_
    clear hm20
    rintro e w2 ⟨vl, l, rfl, hor, hok, hll, f2, hvo⟩
    obtain ⟨A2, n2, cap2, hv⟩ : ∃ A n c, vl = .slice A n c := by
      obtain ⟨us, hus, _⟩ := hor
      obtain ⟨A2, cap2, hv⟩ := hus.val
      exact ⟨_, _, _, hv⟩
    subst hv
    obtain ⟨hat, hnl⟩ := hor.recs
    subst hnl
    have hc2 : l.length ≤ cap2 := hor.cap
    have HAT := Lib.hid hat
    have HOK := Lib.hid hok
    have F2 := Lib.hid f2
    clear hor hat hok f2 hvo
    go_wp2_with fail
    refine (sat_ok A2 cap2 l l.length w2 HAT.out (by omega) (Nat.le_refl _) hc2 (fun i h _ => HOK.out.fits i h)).mono ?_
    rintro e w3 ⟨b, m, rfl, hst, f3, hb, hm⟩
    rw [Lg.run_all] at hst
    have HST := Lib.hid hst
    have F3 := Lib.hid f3
    have HAT3 := Lib.hid (HAT.out.fr0 f3)
    have hl1 := hst.lt
    clear hst f3
    go_wp2_with fail
    refine (sat_ok A2 cap2 l l.length w3 HAT3.out (by omega) (Nat.le_refl _) hc2 (fun i h _ => HOK.out.fits i h)).mono ?_
    rintro e w4 ⟨b', m', rfl, hst', f4, hb', hm'⟩
    rw [Lg.run_all] at hst'
    have HST' := Lib.hid hst'
    have F4 := Lib.hid f4
    have HS4 := Lib.hid (HST.out.fr0 f4)
    have hl2 := hst'.lt
    clear hst' f4
    have F14 := Lib.hid ((F2.out.trans F3.out).trans F4.out)
    have hba := HBa.out.fr F14.out (by simp)
    have hbb := HBb.out.fr F14.out (by simp)
    have ca0 := hba.cell 0
    have ca1 := hba.cell 1
    have ca2 := hba.cell 2
    have cb0 := hbb.cell 0
    have cb1 := hbb.cell 1
    have cb2 := hbb.cell 2
    have hla := hba.lt
    have hlb := hbb.lt
    clear hba hbb
    have HB6 := Lib.hid (Blk.new w4 48 #[.int .i64 a0, .int .i64 a1, .int .i64 a2, .int .i64 b0, .int .i64 b1, .int .i64 b2])
    have F45 := Lib.hid ((Fr.refl [] w4).alloc (.cells #[.int .i64 a0, .int .i64 a1, .int .i64 a2, .int .i64 b0, .int .i64 b1, .int .i64 b2] 48))
    go_wp2_with fail
    clear ca0 ca1 ca2 cb0 cb1 cb2 hla hlb
    generalize (w4.alloc (.cells #[.int .i64 a0, .int .i64 a1, .int .i64 a2, .int .i64 b0, .int .i64 b1, .int .i64 b2] 48)) = W5 at HB6 F45 ⊢
    generalize hg6 : w4.heap.size = g6 at HB6 ⊢
    have HG6 := Lib.hid hg6
    clear hg6
    obtain ⟨M, hM⟩ : ∃ M, (Lg.run l).M = M := ⟨_, rfl⟩
    have HM := Lib.hid hM
    clear hM
    obtain ⟨cA, hcA⟩ : ∃ c, c = mkOf M a0 a1 a2 := ⟨_, rfl⟩
    obtain ⟨cB, hcB⟩ : ∃ c, c = mkOf M b0 b1 b2 := ⟨_, rfl⟩
    have HCA := Lib.hid hcA
    have HCB := Lib.hid hcB
    clear hcA hcB
    go_loopw [13, 55] (fun vb i wr => ∃ (i0 : Nat) (Av : Option Addr) (nv cv : Nat), (vb = .slice Av nv cv ∧ i = .int .i64 i0) ∧ i0 ≤ 2 ∧ Hid (CmRel W5 wr (.slice Av nv cv) (([cA, cB] : List Chg).take i0))) (fun _ i _ => 2 - (intOf i).toNat)
    case atStart => exact ⟨0, none, 0, 0, ⟨rfl, rfl⟩, by omega, Lib.hid ⟨OwnL.nil, Fr.refl _ _, fun g hg => by simp [Value.ownBlock] at hg⟩⟩
    case round =>
      obtain ⟨i, Av, nv, cv, ⟨rfl, rfl⟩, hi, HR⟩ := hrel
      by_cases hi2 : i < 2
      · obtain ⟨n0, n1, n2, hn0, hn1, hn2, hok0, hok1, hok2, hmk⟩ : ∃ n0 n1 n2, wr.cell? ⟨g6, i * 3, none⟩ = some (.int .i64 n0) ∧ wr.cell? ⟨g6, i * 3 + 1, none⟩ = some (.int .i64 n1) ∧ wr.cell? ⟨g6, i * 3 + 2, none⟩ = some (.int .i64 n2) ∧ okI n0 ∧ okI n1 ∧ okI n2 ∧
            ([cA, cB] : List Chg).take (i + 1) = ([cA, cB] : List Chg).take i ++ [mkOf M n0 n1 n2] := by
          have hb := HB6.out.fr HR.out.fr (by simp)
          obtain ⟨o0, o1, o2, o3, o4, o5⟩ := H6.out
          obtain rfl | rfl : i = 0 ∨ i = 1 := by omega
          · exact ⟨a0, a1, a2, hb.cell 0, hb.cell 1, hb.cell 2, o0, o1, o2, by rw [← HCA.out]; rfl⟩
          · exact ⟨b0, b1, b2, hb.cell 3, hb.cell 4, hb.cell 5, o3, o4, o5, by rw [← HCB.out]; rfl⟩
        have HMK := Lib.hid hmk
        have hk0 := okI_bounds hok0
        have hk1 := okI_bounds hok1
        have hk2 := okI_bounds hok2
        clear hmk
        have hi6 : i * 3 + 2 < 6 := by omega
        have HP0 := Lib.hid (fun W => pick_any n0 3 W hk0.1 hk0.2 (by omega) (by omega))
        have HP1 := Lib.hid (fun W => pick_any n1 9 W hk1.1 hk1.2 (by omega) (by omega))
        have HP2 := Lib.hid (fun W => pick_any n2 3 W hk2.1 hk2.2 (by omega) (by omega))
        have HP3 := Lib.hid (fun W => pick_any n2 50 W hk2.1 hk2.2 (by omega) (by omega))
        obtain ⟨tt, htt, ht0⟩ : ∃ tt, pickI n0 3 = tt ∧ 0 ≤ tt ∧ tt ≤ 2 := ⟨_, rfl, pickI_nonneg n0 (by omega), by have := pickI_lt n0 (n := 3) (by omega); omega⟩
        obtain ⟨k9, hk9, hk90⟩ : ∃ kk, pickI n1 9 = kk ∧ 0 ≤ kk ∧ kk ≤ 8 := ⟨_, rfl, pickI_nonneg n1 (by omega), by have := pickI_lt n1 (n := 9) (by omega); omega⟩
        obtain ⟨p3, hp3, hp30⟩ : ∃ kk, pickI n2 3 = kk ∧ 0 ≤ kk ∧ kk ≤ 2 := ⟨_, rfl, pickI_nonneg n2 (by omega), by have := pickI_lt n2 (n := 3) (by omega); omega⟩
        obtain ⟨p50, hp50, hp500⟩ : ∃ kk, pickI n2 50 = kk ∧ 0 ≤ kk ∧ kk < 50 := ⟨_, rfl, pickI_nonneg n2 (by omega), by have := pickI_lt n2 (n := 50) (by omega); omega⟩
        unfold mkOf at HMK
        rw [htt] at HP0 HMK
        rw [hk9] at HP1 HMK
        rw [hp3] at HP2 HMK
        rw [hp50] at HP3 HMK
        clear htt hk9 hp3 hp50 hk0 hk1 hk2 hok0 hok1 hok2
        have hbn := Lib.hid (Blk.new wr 48 #[.int .i64 n0, .int .i64 n1, .int .i64 n2])
        obtain ⟨Wr, hWr⟩ : ∃ W, W = wr := ⟨_, rfl⟩
        subst hWr
        go_upto_region 11 with fail
        go_cut [16] (fun s16 wc => ∃ gc : Nat, s16 = .pointer (some ⟨gc, 0, none⟩) ∧ Hid (Blk wc gc 57 #[.int .i64 tt, .int .i64 (IntKind.i64.wrap (1 + k9)), .bool false, .int .i64 0, .int .i64 0, .int .i64 0, .bool false, .int .i64 0, .int .i64 0, .int .i64 0]) ∧ Hid (Fr [] (Wr.alloc (.cells #[.int .i64 n0, .int .i64 n1, .int .i64 n2] 48)) wc) ∧ Wr.heap.size < gc)
        case first =>
          have hB := Lib.hid (Blk.new (Wr.alloc (.cells #[.int .i64 n0, .int .i64 n1, .int .i64 n2] 48)) 57 #[.int .i64 tt, .int .i64 (IntKind.i64.wrap (1 + k9)), .bool false, .int .i64 0, .int .i64 0, .int .i64 0, .bool false, .int .i64 0, .int .i64 0, .int .i64 0])
          go_region_with (go_at_call 18; first | ((with_reducible refine (HP0.out _).mono ?_); rintro e w6 ⟨rfl, rfl⟩) | ((with_reducible refine (HP1.out _).mono ?_); rintro e w6 ⟨rfl, rfl⟩))
          all_goals (go_wp2_with fail; go_meet; exact ⟨_, rfl, Lib.hid (by have h1 := hB.out; rw [World.size_alloc] at h1; exact h1), Lib.hid (((Fr.refl _ _).alloc _).drew), Nat.lt_succ_self _⟩)
        case rest =>
          obtain ⟨gc, rfl, HBC, HFC, hgc⟩ := hcut
          rw [wrap_small (by omega) (by omega)] at HBC
          have HF5 := Lib.hid (((Fr.refl [] Wr).alloc (.cells #[.int .i64 n0, .int .i64 n1, .int .i64 n2] 48)).trans HFC.out)
          have HBN := Lib.hid (hbn.out.fr HFC.out (by simp))
          have HSC := Lib.hid (((HS4.out.fr0 F45.out).fr0 HR.out.fr).fr0 HF5.out)
          have HGT := Lib.hid (sget_any b m (Lg.run l) tt (1 + k9) wc HSC.out (okI_mk (by omega) (by omega)) (okI_mk (by omega) (by omega)))
          rw [HM.out] at HGT
          have q0 := HBC.out.cell 0
          have q1 := HBC.out.cell 1
          go_wp2_with fail
          refine HGT.out.mono ?_
          rintro e w6 ⟨rfl, f6⟩
          have HB6c := Lib.hid (HBC.out.fr f6 (by simp))
          have HBN6 := Lib.hid (HBN.out.fr f6 (by simp))
          have HF56 := Lib.hid (HF5.out.trans f6)
          clear f6 q0 q1
          have q2 := HB6c.out.cell 2
          have z2 := HB6c.out.frozen 2
          have q3 := HB6c.out.cell 3
          have z3 := HB6c.out.frozen 3
          have q4 := HB6c.out.cell 4
          have z4 := HB6c.out.frozen 4
          have q5 := HB6c.out.cell 5
          have z5 := HB6c.out.frozen 5
          have q6 := HB6c.out.cell 6
          have z6 := HB6c.out.frozen 6
          have hgl := HB6c.out.lt
          have k2 := HBN6.out.cell 2
          have hnl := HBN6.out.lt
          have hgne1 : Hid (Wr.heap.size ≠ gc) := Lib.hid (by omega)
          have hgcW : Hid (Wr.heap.size ≤ gc) := Lib.hid (by omega)
          cases hg : mget M (idOf tt (1 + k9)) with
          | none =>
            have HGG := Lib.hid hg
            clear hg
            unfold gotVal
            have hB7 := ((((HB6c.out.set_ 2 (.bool false)).set_ 3 (.int .i64 0)).set_ 4 (.int .i64 0)).set_ 5 (.int .i64 0)).set_ 6 (.bool true)
            have hN7 := ((((HBN6.out.far hgne1.out (p := ⟨gc, 2, none⟩) (.bool false)).far hgne1.out (p := ⟨gc, 3, none⟩) (.int .i64 0)).far hgne1.out (p := ⟨gc, 4, none⟩) (.int .i64 0)).far hgne1.out (p := ⟨gc, 5, none⟩) (.int .i64 0)).far hgne1.out (p := ⟨gc, 6, none⟩) (.bool true)
            have hF7 := ((((HF56.out.setCell (p := ⟨gc, 2, none⟩) (.inr hgcW.out) (.bool false)).setCell (p := ⟨gc, 3, none⟩) (.inr hgcW.out) (.int .i64 0)).setCell (p := ⟨gc, 4, none⟩) (.inr hgcW.out) (.int .i64 0)).setCell (p := ⟨gc, 5, none⟩) (.inr hgcW.out) (.int .i64 0)).setCell (p := ⟨gc, 6, none⟩) (.inr hgcW.out) (.bool true)
            go_upto_region 17 with fail
            clear q2 q3 q4 q5 q6 z2 z3 z4 z5 z6 k2 hgl hnl
            have hsz : ((((((w6.setCell ⟨gc, 2, none⟩ (.bool false)).setCell ⟨gc, 3, none⟩ (.int .i64 0)).setCell ⟨gc, 4, none⟩ (.int .i64 0)).setCell ⟨gc, 5, none⟩ (.int .i64 0)).setCell ⟨gc, 6, none⟩ (.bool true))).heap.size = w6.heap.size := by simp
            generalize (((((w6.setCell ⟨gc, 2, none⟩ (.bool false)).setCell ⟨gc, 3, none⟩ (.int .i64 0)).setCell ⟨gc, 4, none⟩ (.int .i64 0)).setCell ⟨gc, 5, none⟩ (.int .i64 0)).setCell ⟨gc, 6, none⟩ (.bool true)) = W7 at hB7 hN7 hF7 hsz ⊢
            have HB7 : Hid (Blk W7 gc 57 #[.int .i64 tt, .int .i64 (1 + k9), .bool false, .int .i64 0, .int .i64 0, .int .i64 0, .bool true, .int .i64 0, .int .i64 0, .int .i64 0]) := Lib.hid (by simpa using hB7)
            have HN7 := Lib.hid hN7
            have HF7 := Lib.hid hF7
            clear hB7 hN7 hF7
            have q7 : (W7.alloc (.cells #[.int .i64 0, .int .i64 0, .int .i64 0, .int .i64 0, .int .i64 0] 50)).cell? ⟨gc, 7, none⟩ = some (.int .i64 0) := (HB7.out.alloc _).cell 7
            have q8 : (W7.alloc (.cells #[.int .i64 0, .int .i64 0, .int .i64 0, .int .i64 0, .int .i64 0] 50)).cell? ⟨gc, 8, none⟩ = some (.int .i64 0) := (HB7.out.alloc _).cell 8
            have q9 : (W7.alloc (.cells #[.int .i64 0, .int .i64 0, .int .i64 0, .int .i64 0, .int .i64 0] 50)).cell? ⟨gc, 9, none⟩ = some (.int .i64 0) := (HB7.out.alloc _).cell 9
            have z7 := (HB7.out.alloc (.cells #[.int .i64 0, .int .i64 0, .int .i64 0, .int .i64 0, .int .i64 0] 50)).frozen 7
            have z8 := (HB7.out.alloc (.cells #[.int .i64 0, .int .i64 0, .int .i64 0, .int .i64 0, .int .i64 0] 50)).frozen 8
            have z9 := (HB7.out.alloc (.cells #[.int .i64 0, .int .i64 0, .int .i64 0, .int .i64 0, .int .i64 0] 50)).frozen 9
            have k2 : (W7.alloc (.cells #[.int .i64 0, .int .i64 0, .int .i64 0, .int .i64 0, .int .i64 0] 50)).cell? ⟨Wr.heap.size, 2, none⟩ = some (.int .i64 n2) := (HN7.out.alloc _).cell 2
            have o2 : (W7.alloc (.cells #[.int .i64 0, .int .i64 0, .int .i64 0, .int .i64 0, .int .i64 0] 50)).cell? ⟨W7.heap.size, 2, none⟩ = some (.int .i64 0) := (Blk.new W7 50 #[.int .i64 0, .int .i64 0, .int .i64 0, .int .i64 0, .int .i64 0]).cell 2
            have HB8 := Lib.hid (HB7.out.alloc (.cells #[.int .i64 0, .int .i64 0, .int .i64 0, .int .i64 0, .int .i64 0] 50))
            have HF8 := Lib.hid (HF7.out.alloc (.cells #[.int .i64 0, .int .i64 0, .int .i64 0, .int .i64 0, .int .i64 0] 50))
            rw [hsz] at o2
            clear hsz
            generalize (W7.alloc (.cells #[.int .i64 0, .int .i64 0, .int .i64 0, .int .i64 0, .int .i64 0] 50)) = W8 at *
            go_cut [] (fun wx => Hid (Blk wx gc 57 #[.int .i64 tt, .int .i64 (1 + k9), .bool false, .int .i64 0, .int .i64 0, .int .i64 0, .bool true, .int .i64 1, .int .i64 p50, .int .i64 1]) ∧ Hid (Fr [] Wr wx))
            case first =>
              go_region_with (go_at_call 18; refine (HP3.out _).mono ?_; rintro e w9 ⟨rfl, rfl⟩)
              all_goals (go_wp2_with fail; go_meet; exact ⟨Lib.hid (by rw [wrap_small (x := 1) (by decide) (by decide)]; have h1 := ((HB8.out.set_ 7 (.int .i64 1)).set_ 8 (.int .i64 p50)).set_ 9 (.int .i64 1); exact h1), Lib.hid ((((HF8.out.setCell (p := ⟨gc, 7, none⟩) (.inr hgcW.out) _).setCell (p := ⟨gc, 8, none⟩) (.inr hgcW.out) _).setCell (p := ⟨gc, 9, none⟩) (.inr hgcW.out) _).drew)⟩)
            case rest =>
              obtain ⟨HB9, HF9⟩ := hcut
              have hmk : Hid (Cmt.mk M tt (1 + k9) (decide (0 < p3)) p50 = (⟨tt, 1 + k9, false, 0, 0, 0, true, 1, p50, 1⟩ : Chg)) := Lib.hid (by unfold Cmt.mk; rw [HGG.out])
              obtain ⟨c, hc⟩ : ∃ c : Chg, c = ⟨tt, 1 + k9, false, 0, 0, 0, true, 1, p50, 1⟩ := ⟨_, rfl⟩
              have q0 := HB9.out.cell 0
              have q1 := HB9.out.cell 1
              have q2 := HB9.out.cell 2
              have q3 := HB9.out.cell 3
              have q4 := HB9.out.cell 4
              have q5 := HB9.out.cell 5
              have q6 := HB9.out.cell 6
              have q7 := HB9.out.cell 7
              have q8 := HB9.out.cell 8
              have q9 := HB9.out.cell 9
              have hgl := HB9.out.lt
              have hov4 := (HR.out.row.keep0 HF9.out).keep0 ((Fr.refl [] wc).alloc (.cells #[.int .i64 tt, .int .i64 (1 + k9), .bool false, .int .i64 0, .int .i64 0, .int .i64 0, .bool true, .int .i64 1, .int .i64 p50, .int .i64 1] 57))
              have hrn : Hid (Reads (wc.alloc (.cells #[.int .i64 tt, .int .i64 (1 + k9), .bool false, .int .i64 0, .int .i64 0, .int .i64 0, .bool true, .int .i64 1, .int .i64 p50, .int .i64 1] 57)) (wc.heap.size + 1) 10 (some ⟨wc.heap.size, 0, none⟩) 1 ([c].flatMap Chg.cells)) := Lib.hid (by rw [hc]; exact reads_new (enc := Chg.cells) wc 57 (⟨tt, 1 + k9, false, 0, 0, 0, true, 1, p50, 1⟩ : Chg) rfl)
              have hll0 : Hid ((([cA, cB] : List Chg).take i).length + [c].length ≤ 140) := Lib.hid (by simp only [List.length_take, List.length_cons, List.length_nil]; omega)
              have hmx : Hid ((140 : Nat) ≤ maxLen) := Lib.hid (by decide)
              have HC := Lib.hid hc
              clear hc
              obtain ⟨i0, TR⟩ := etChg
              go_wp2_with (at_builtin; refine wpList_appendL rfl _ _ rfl TR Chg.len Chg.one rfl hov4 _ _ _ _ [c] rfl rfl hrn.out (Nat.le_trans hll0.out hmx.out) (Nat.le_trans (Nat.mul_le_mul_right 80 hll0.out) (by decide)) ?_; intro v5 w5 hown5 hg5 hat5; have HO5 := Lib.hid hown5; have HG5 := Lib.hid hg5; have HA5 := Lib.hid hat5; obtain ⟨A5, n5, c5, hv5⟩ : ∃ A n c, v5 = .slice A n c := (match hown5.val with | ⟨_, _, hv⟩ => ⟨_, _, _, hv⟩); subst hv5; clear hown5 hg5 hat5)
              go_roundw
              case rel =>
                refine ⟨i + 1, A5, n5, c5, ⟨rfl, by go_num⟩, by omega, Lib.hid ⟨by rw [HMK.out, hmk.out, ← HC.out]; exact HO5.out, ?_, fun g hg => ?_⟩⟩
                · exact HR.out.fr.trans' (((HF9.out.alloc (.cells #[.int .i64 tt, .int .i64 (1 + k9), .bool false, .int .i64 0, .int .i64 0, .int .i64 0, .bool true, .int .i64 1, .int .i64 p50, .int .i64 1] 57)).mono (S' := (Value.slice Av nv cv).ownBlock.toList) (fun x hx => by simp at hx)).grown HG5.out (fun g hg => .inl (Option.mem_toList.2 hg))) (fun g hg => .inr (HR.out.own g (Option.mem_toList.1 hg)))
                · rcases HA5.out with h1 | h1
                  · exact HR.out.own g (h1.symm.trans hg)
                  · rw [hg] at h1
                    injection h1 with h1
                    have h2 := HR.out.fr.size
                    have h3 := HF9.out.size
                    rw [World.size_alloc] at h1
                    omega
              case measure => simp [intOf]; omega
          | some r =>
            have HGG := Lib.hid hg
            clear hg
            have hgne : gc ≠ Wr.heap.size := by omega
            by_cases hp : 0 < p3
            · skip
              have hrx : 0 ≤ r.x ∧ r.x ≤ 9 := by
                have h1 := Cmt.small HOK.out l.length (Nat.le_refl _)
                rw [Lg.run_all, HM.out] at h1
                have h2 := (Lg.run_ok l).nd
                rw [HM.out] at h2
                exact (h1 _ ((mget_iff h2).1 HGG.out)).1
              have hB7 := ((((HB6c.out.set_ 2 (.bool true)).set_ 3 (.int .i64 r.x)).set_ 4 (.int .i64 r.y)).set_ 5 (.int .i64 r.z)).set_ 6 (.bool true)
              have hN7 := ((((HBN6.out.far hgne1.out (p := ⟨gc, 2, none⟩) (.bool true)).far hgne1.out (p := ⟨gc, 3, none⟩) (.int .i64 r.x)).far hgne1.out (p := ⟨gc, 4, none⟩) (.int .i64 r.y)).far hgne1.out (p := ⟨gc, 5, none⟩) (.int .i64 r.z)).far hgne1.out (p := ⟨gc, 6, none⟩) (.bool true)
              have hF7 := ((((HF56.out.setCell (p := ⟨gc, 2, none⟩) (.inr hgcW.out) (.bool true)).setCell (p := ⟨gc, 3, none⟩) (.inr hgcW.out) (.int .i64 r.x)).setCell (p := ⟨gc, 4, none⟩) (.inr hgcW.out) (.int .i64 r.y)).setCell (p := ⟨gc, 5, none⟩) (.inr hgcW.out) (.int .i64 r.z)).setCell (p := ⟨gc, 6, none⟩) (.inr hgcW.out) (.bool true)
              unfold gotVal
              go_upto_region 17 with (go_at_call 18; refine (HP2.out _).mono ?_; rintro e w7 ⟨rfl, rfl⟩)
              clear q2 q3 q4 q5 q6 z2 z3 z4 z5 z6 k2 hgl hnl
              have hsz : ((((((w6.setCell ⟨gc, 2, none⟩ (.bool true)).setCell ⟨gc, 3, none⟩ (.int .i64 r.x)).setCell ⟨gc, 4, none⟩ (.int .i64 r.y)).setCell ⟨gc, 5, none⟩ (.int .i64 r.z)).setCell ⟨gc, 6, none⟩ (.bool true))).heap.size = w6.heap.size := by simp
              generalize (((((w6.setCell ⟨gc, 2, none⟩ (.bool true)).setCell ⟨gc, 3, none⟩ (.int .i64 r.x)).setCell ⟨gc, 4, none⟩ (.int .i64 r.y)).setCell ⟨gc, 5, none⟩ (.int .i64 r.z)).setCell ⟨gc, 6, none⟩ (.bool true)) = W7 at hB7 hN7 hF7 hsz ⊢
              have HB7 : Hid (Blk W7 gc 57 #[.int .i64 tt, .int .i64 (1 + k9), .bool true, .int .i64 r.x, .int .i64 r.y, .int .i64 r.z, .bool true, .int .i64 0, .int .i64 0, .int .i64 0]) := Lib.hid (by simpa using hB7)
              have HN7 := Lib.hid hN7
              have HF7 := Lib.hid hF7
              clear hB7 hN7 hF7
              have q7 : (W7.alloc (.cells #[.int .i64 r.t, .int .i64 r.k, .int .i64 r.x, .int .i64 r.y, .int .i64 r.z] 50)).cell? ⟨gc, 7, none⟩ = some (.int .i64 0) := (HB7.out.alloc _).cell 7
              have q8 : (W7.alloc (.cells #[.int .i64 r.t, .int .i64 r.k, .int .i64 r.x, .int .i64 r.y, .int .i64 r.z] 50)).cell? ⟨gc, 8, none⟩ = some (.int .i64 0) := (HB7.out.alloc _).cell 8
              have q9 : (W7.alloc (.cells #[.int .i64 r.t, .int .i64 r.k, .int .i64 r.x, .int .i64 r.y, .int .i64 r.z] 50)).cell? ⟨gc, 9, none⟩ = some (.int .i64 0) := (HB7.out.alloc _).cell 9
              have z7 := (HB7.out.alloc (.cells #[.int .i64 r.t, .int .i64 r.k, .int .i64 r.x, .int .i64 r.y, .int .i64 r.z] 50)).frozen 7
              have z8 := (HB7.out.alloc (.cells #[.int .i64 r.t, .int .i64 r.k, .int .i64 r.x, .int .i64 r.y, .int .i64 r.z] 50)).frozen 8
              have z9 := (HB7.out.alloc (.cells #[.int .i64 r.t, .int .i64 r.k, .int .i64 r.x, .int .i64 r.y, .int .i64 r.z] 50)).frozen 9
              have k2 : (W7.alloc (.cells #[.int .i64 r.t, .int .i64 r.k, .int .i64 r.x, .int .i64 r.y, .int .i64 r.z] 50)).cell? ⟨Wr.heap.size, 2, none⟩ = some (.int .i64 n2) := (HN7.out.alloc _).cell 2
              have o2 : (W7.alloc (.cells #[.int .i64 r.t, .int .i64 r.k, .int .i64 r.x, .int .i64 r.y, .int .i64 r.z] 50)).cell? ⟨W7.heap.size, 2, none⟩ = some (.int .i64 r.x) := (Blk.new W7 50 #[.int .i64 r.t, .int .i64 r.k, .int .i64 r.x, .int .i64 r.y, .int .i64 r.z]).cell 2
              have HB8 := Lib.hid (HB7.out.alloc (.cells #[.int .i64 r.t, .int .i64 r.k, .int .i64 r.x, .int .i64 r.y, .int .i64 r.z] 50))
              have HF8 := Lib.hid (HF7.out.alloc (.cells #[.int .i64 r.t, .int .i64 r.k, .int .i64 r.x, .int .i64 r.y, .int .i64 r.z] 50))
              rw [hsz] at o2
              clear hsz
              generalize (W7.alloc (.cells #[.int .i64 r.t, .int .i64 r.k, .int .i64 r.x, .int .i64 r.y, .int .i64 r.z] 50)) = W8 at *
              go_cut [] (fun wx => Hid (Blk wx gc 57 #[.int .i64 tt, .int .i64 (1 + k9), .bool true, .int .i64 r.x, .int .i64 r.y, .int .i64 r.z, .bool true, .int .i64 (r.x + 1), .int .i64 p50, .int .i64 1]) ∧ Hid (Fr [] Wr wx))
              case first =>
                go_region_with (go_at_call 18; refine (HP3.out _).mono ?_; rintro e w9 ⟨rfl, rfl⟩)
                all_goals (go_wp2_with fail; go_meet; exact ⟨Lib.hid (by rw [wrap_small (x := r.x + 1) (by omega) (by omega)]; have h1 := ((HB8.out.set_ 7 (.int .i64 (r.x + 1))).set_ 8 (.int .i64 p50)).set_ 9 (.int .i64 1); exact h1), Lib.hid ((((HF8.out.setCell (p := ⟨gc, 7, none⟩) (.inr hgcW.out) _).setCell (p := ⟨gc, 8, none⟩) (.inr hgcW.out) _).setCell (p := ⟨gc, 9, none⟩) (.inr hgcW.out) _).drew)⟩)
              case rest =>
                obtain ⟨HB9, HF9⟩ := hcut
                have hmk : Hid (Cmt.mk M tt (1 + k9) (decide (0 < p3)) p50 = (⟨tt, 1 + k9, true, r.x, r.y, r.z, true, r.x + 1, p50, 1⟩ : Chg)) := Lib.hid (by unfold Cmt.mk; rw [HGG.out]; simp [hp])
                obtain ⟨c, hc⟩ : ∃ c : Chg, c = ⟨tt, 1 + k9, true, r.x, r.y, r.z, true, r.x + 1, p50, 1⟩ := ⟨_, rfl⟩
                have q0 := HB9.out.cell 0
                have q1 := HB9.out.cell 1
                have q2 := HB9.out.cell 2
                have q3 := HB9.out.cell 3
                have q4 := HB9.out.cell 4
                have q5 := HB9.out.cell 5
                have q6 := HB9.out.cell 6
                have q7 := HB9.out.cell 7
                have q8 := HB9.out.cell 8
                have q9 := HB9.out.cell 9
                have hgl := HB9.out.lt
                have hov4 := (HR.out.row.keep0 HF9.out).keep0 ((Fr.refl [] wc).alloc (.cells #[.int .i64 tt, .int .i64 (1 + k9), .bool true, .int .i64 r.x, .int .i64 r.y, .int .i64 r.z, .bool true, .int .i64 (r.x + 1), .int .i64 p50, .int .i64 1] 57))
                have hrn : Hid (Reads (wc.alloc (.cells #[.int .i64 tt, .int .i64 (1 + k9), .bool true, .int .i64 r.x, .int .i64 r.y, .int .i64 r.z, .bool true, .int .i64 (r.x + 1), .int .i64 p50, .int .i64 1] 57)) (wc.heap.size + 1) 10 (some ⟨wc.heap.size, 0, none⟩) 1 ([c].flatMap Chg.cells)) := Lib.hid (by rw [hc]; exact reads_new (enc := Chg.cells) wc 57 (⟨tt, 1 + k9, true, r.x, r.y, r.z, true, r.x + 1, p50, 1⟩ : Chg) rfl)
                have hll0 : Hid ((([cA, cB] : List Chg).take i).length + [c].length ≤ 140) := Lib.hid (by simp only [List.length_take, List.length_cons, List.length_nil]; omega)
                have hmx : Hid ((140 : Nat) ≤ maxLen) := Lib.hid (by decide)
                have HC := Lib.hid hc
                clear hc
                obtain ⟨i0, TR⟩ := etChg
                go_wp2_with (at_builtin; refine wpList_appendL rfl _ _ rfl TR Chg.len Chg.one rfl hov4 _ _ _ _ [c] rfl rfl hrn.out (Nat.le_trans hll0.out hmx.out) (Nat.le_trans (Nat.mul_le_mul_right 80 hll0.out) (by decide)) ?_; intro v5 w5 hown5 hg5 hat5; have HO5 := Lib.hid hown5; have HG5 := Lib.hid hg5; have HA5 := Lib.hid hat5; obtain ⟨A5, n5, c5, hv5⟩ : ∃ A n c, v5 = .slice A n c := (match hown5.val with | ⟨_, _, hv⟩ => ⟨_, _, _, hv⟩); subst hv5; clear hown5 hg5 hat5)
                go_roundw
                case rel =>
                  refine ⟨i + 1, A5, n5, c5, ⟨rfl, by go_num⟩, by omega, Lib.hid ⟨by rw [HMK.out, hmk.out, ← HC.out]; exact HO5.out, ?_, fun g hg => ?_⟩⟩
                  · exact HR.out.fr.trans' (((HF9.out.alloc (.cells #[.int .i64 tt, .int .i64 (1 + k9), .bool true, .int .i64 r.x, .int .i64 r.y, .int .i64 r.z, .bool true, .int .i64 (r.x + 1), .int .i64 p50, .int .i64 1] 57)).mono (S' := (Value.slice Av nv cv).ownBlock.toList) (fun x hx => by simp at hx)).grown HG5.out (fun g hg => .inl (Option.mem_toList.2 hg))) (fun g hg => .inr (HR.out.own g (Option.mem_toList.1 hg)))
                  · rcases HA5.out with h1 | h1
                    · exact HR.out.own g (h1.symm.trans hg)
                    · rw [hg] at h1
                      injection h1 with h1
                      have h2 := HR.out.fr.size
                      have h3 := HF9.out.size
                      rw [World.size_alloc] at h1
                      omega
                case measure => simp [intOf]; omega
            · unfold gotVal
              go_upto_region 18 with (go_at_call 18; refine (HP2.out _).mono ?_; rintro e w7 ⟨rfl, rfl⟩)
              have hB7 := (((((HB6c.out.set_ 2 (.bool true)).set_ 3 (.int .i64 r.x)).set_ 4 (.int .i64 r.y)).set_ 5 (.int .i64 r.z)).set_ 6 (.bool (decide (0 < p3)))).alloc (.cells #[.int .i64 r.t, .int .i64 r.k, .int .i64 r.x, .int .i64 r.y, .int .i64 r.z] 50)
              have hF7 := (((((HF56.out.setCell (p := ⟨gc, 2, none⟩) (.inr hgcW.out) (.bool true)).setCell (p := ⟨gc, 3, none⟩) (.inr hgcW.out) (.int .i64 r.x)).setCell (p := ⟨gc, 4, none⟩) (.inr hgcW.out) (.int .i64 r.y)).setCell (p := ⟨gc, 5, none⟩) (.inr hgcW.out) (.int .i64 r.z)).setCell (p := ⟨gc, 6, none⟩) (.inr hgcW.out) (.bool (decide (0 < p3)))).alloc (.cells #[.int .i64 r.t, .int .i64 r.k, .int .i64 r.x, .int .i64 r.y, .int .i64 r.z] 50)
              clear q2 q3 q4 q5 q6 z2 z3 z4 z5 z6 k2 hgl hnl
              generalize ((((((w6.setCell ⟨gc, 2, none⟩ (.bool true)).setCell ⟨gc, 3, none⟩ (.int .i64 r.x)).setCell ⟨gc, 4, none⟩ (.int .i64 r.y)).setCell ⟨gc, 5, none⟩ (.int .i64 r.z)).setCell ⟨gc, 6, none⟩ (.bool (decide (0 < p3)))).alloc (.cells #[.int .i64 r.t, .int .i64 r.k, .int .i64 r.x, .int .i64 r.y, .int .i64 r.z] 50)) = wc at hB7 hF7 ⊢
              have HB9 : Hid (Blk wc gc 57 #[.int .i64 tt, .int .i64 (1 + k9), .bool true, .int .i64 r.x, .int .i64 r.y, .int .i64 r.z, .bool false, .int .i64 0, .int .i64 0, .int .i64 0]) := Lib.hid (by
                rw [decide_eq_false (by omega : ¬ 0 < p3)] at hB7
                simpa using hB7)
              have HF9 := Lib.hid hF7
              clear hB7 hF7
              have hmk : Hid (Cmt.mk M tt (1 + k9) (decide (0 < p3)) p50 = (⟨tt, 1 + k9, true, r.x, r.y, r.z, false, 0, 0, 0⟩ : Chg)) := Lib.hid (by unfold Cmt.mk; rw [HGG.out]; simp [show ¬ 0 < p3 by omega])
              obtain ⟨c, hc⟩ : ∃ c : Chg, c = ⟨tt, 1 + k9, true, r.x, r.y, r.z, false, 0, 0, 0⟩ := ⟨_, rfl⟩
              have q0 := HB9.out.cell 0
              have q1 := HB9.out.cell 1
              have q2 := HB9.out.cell 2
              have q3 := HB9.out.cell 3
              have q4 := HB9.out.cell 4
              have q5 := HB9.out.cell 5
              have q6 := HB9.out.cell 6
              have q7 := HB9.out.cell 7
              have q8 := HB9.out.cell 8
              have q9 := HB9.out.cell 9
              have hgl := HB9.out.lt
              have hov4 := (HR.out.row.keep0 HF9.out).keep0 ((Fr.refl [] wc).alloc (.cells #[.int .i64 tt, .int .i64 (1 + k9), .bool true, .int .i64 r.x, .int .i64 r.y, .int .i64 r.z, .bool false, .int .i64 0, .int .i64 0, .int .i64 0] 57))
              have hrn : Hid (Reads (wc.alloc (.cells #[.int .i64 tt, .int .i64 (1 + k9), .bool true, .int .i64 r.x, .int .i64 r.y, .int .i64 r.z, .bool false, .int .i64 0, .int .i64 0, .int .i64 0] 57)) (wc.heap.size + 1) 10 (some ⟨wc.heap.size, 0, none⟩) 1 ([c].flatMap Chg.cells)) := Lib.hid (by rw [hc]; exact reads_new (enc := Chg.cells) wc 57 (⟨tt, 1 + k9, true, r.x, r.y, r.z, false, 0, 0, 0⟩ : Chg) rfl)
              have hll0 : Hid ((([cA, cB] : List Chg).take i).length + [c].length ≤ 140) := Lib.hid (by simp only [List.length_take, List.length_cons, List.length_nil]; omega)
              have hmx : Hid ((140 : Nat) ≤ maxLen) := Lib.hid (by decide)
              have HC := Lib.hid hc
              clear hc
              obtain ⟨i0, TR⟩ := etChg
              go_wp2_with (at_builtin; refine wpList_appendL rfl _ _ rfl TR Chg.len Chg.one rfl hov4 _ _ _ _ [c] rfl rfl hrn.out (Nat.le_trans hll0.out hmx.out) (Nat.le_trans (Nat.mul_le_mul_right 80 hll0.out) (by decide)) ?_; intro v5 w5 hown5 hg5 hat5; have HO5 := Lib.hid hown5; have HG5 := Lib.hid hg5; have HA5 := Lib.hid hat5; obtain ⟨A5, n5, c5, hv5⟩ : ∃ A n c, v5 = .slice A n c := (match hown5.val with | ⟨_, _, hv⟩ => ⟨_, _, _, hv⟩); subst hv5; clear hown5 hg5 hat5)
              go_roundw
              case rel =>
                refine ⟨i + 1, A5, n5, c5, ⟨rfl, by go_num⟩, by omega, Lib.hid ⟨by rw [HMK.out, hmk.out, ← HC.out]; exact HO5.out, ?_, fun g hg => ?_⟩⟩
                · exact HR.out.fr.trans' (((HF9.out.alloc (.cells #[.int .i64 tt, .int .i64 (1 + k9), .bool true, .int .i64 r.x, .int .i64 r.y, .int .i64 r.z, .bool false, .int .i64 0, .int .i64 0, .int .i64 0] 57)).mono (S' := (Value.slice Av nv cv).ownBlock.toList) (fun x hx => by simp at hx)).grown HG5.out (fun g hg => .inl (Option.mem_toList.2 hg))) (fun g hg => .inr (HR.out.own g (Option.mem_toList.1 hg)))
                · rcases HA5.out with h1 | h1
                  · exact HR.out.own g (h1.symm.trans hg)
                  · rw [hg] at h1
                    injection h1 with h1
                    have h2 := HR.out.fr.size
                    have h3 := HF9.out.size
                    rw [World.size_alloc] at h1
                    omega
              case measure => simp [intOf]; omega
      · obtain rfl : i = 2 := by omega
        have hrow := HR.out.row
        obtain ⟨g, cap3, hv, hc3, hm3, hgl3, hcell, _⟩ := hrow.form Chg.len (by simp)
        obtain ⟨rfl, rfl, rfl⟩ : Av = some ⟨g, 0, none⟩ ∧ nv = 2 ∧ cv = cap3 := by
          injection hv with h1 h2 h3
          exact ⟨h1, h2, h3⟩
        have HROW : Hid (OwnL 57 10 Chg.cells wr (.slice (some ⟨g, 0, none⟩) 2 cv) [cA, cB]) := Lib.hid hrow
        have hga : Hid (W5.heap.size ≤ g) := Lib.hid (HR.out.own g rfl)
        have u0 : wr.cell? ⟨g, 0, none⟩ = some (.int .i64 cA.t) := hcell 0 (by simp) 0 (by decide)
        have u1 : wr.cell? ⟨g, 1, none⟩ = some (.int .i64 cA.k) := hcell 0 (by simp) 1 (by decide)
        have u10 : wr.cell? ⟨g, 10, none⟩ = some (.int .i64 cB.t) := hcell 1 (by simp) 0 (by decide)
        have u11 : wr.cell? ⟨g, 11, none⟩ = some (.int .i64 cB.k) := hcell 1 (by simp) 1 (by decide)
        clear hv hrow hcell
        have hc3' : 2 ≤ cv := hc3
        have hMnd : Nd M := by have h := (Lg.run_ok l).nd; rw [HM.out] at h; exact h
        have hMs : ∀ e ∈ M, Cmt.SmallV e.2 := by have h := Cmt.small HOK.out l.length (Nat.le_refl _); rw [Lg.run_all, HM.out] at h; exact h
        have HFA : Hid (Rw.chg cA = true ∧ Sm.meets M cA = true) := Lib.hid (by rw [HCA.out]; exact mkOf_ok hMnd hMs a0 a1 a2)
        have HFB : Hid (Rw.chg cB = true ∧ Sm.meets M cB = true) := Lib.hid (by rw [HCB.out]; exact mkOf_ok hMnd hMs b0 b1 b2)
        have HPS : Hid ((Lg.run l).pos = l.length) := Lib.hid (by have h := HOK.out.pos l.length (Nat.le_refl _); rw [Lg.run_all] at h; exact h)
        have HL27 : Hid ((Lg.run l).M.length ≤ 27) := Lib.hid (Cmt.len27 HOK.out)
        have HSO : Hid (Sm.Ok (Lg.run l)) := Lib.hid (Lg.run_ok l)
        have HS0 := Lib.hid ((HS4.out.fr0 F45.out).fr0 HR.out.fr)
        have HT0 := Lib.hid ((HST'.out.fr0 F45.out).fr0 HR.out.fr)
        have HFF := Lib.hid (((F1.out.trans F14.out).trans F45.out).trans HR.out.fr)
        have HBM : Hid ((b ≠ b' ∧ b ≠ m' ∧ m ≠ b' ∧ m ≠ m') ∧ (g ≠ b ∧ g ≠ m ∧ g ≠ b' ∧ g ≠ m') ∧ (w.heap.size ≤ b ∧ w.heap.size ≤ m ∧ w.heap.size ≤ b' ∧ w.heap.size ≤ m')) := Lib.hid (by
          have h1 := F1.out.size
          have h2 := F2.out.size
          have h3 := F3.out.size
          have h4 := F4.out.size
          have h5 := F45.out.size
          have h6 := hga.out
          omega)
        clear hMnd hMs HR hb hm hb' hm' hl1 hl2 hgl3 hc3
        obtain ⟨S, hS⟩ : ∃ S, Lg.run l = S := ⟨_, rfl⟩
        rw [hS] at HS0 HT0 HPS HL27 HSO HM
        clear HS4 HST HST' hS HB6 F45 HG6
        have hgl4 : g < wr.heap.size := (HROW.out.lt rfl)
        have U0 : ∀ p : Later wr, p.w.cell? ⟨g, 0, none⟩ = some (.int .i64 cA.t) := fun p => p.cell hgl4 u0
        have U1 : ∀ p : Later wr, p.w.cell? ⟨g, 1, none⟩ = some (.int .i64 cA.k) := fun p => p.cell hgl4 u1
        have U10 : ∀ p : Later wr, p.w.cell? ⟨g, 10, none⟩ = some (.int .i64 cB.t) := fun p => p.cell hgl4 u10
        have U11 : ∀ p : Later wr, p.w.cell? ⟨g, 11, none⟩ = some (.int .i64 cB.k) := fun p => p.cell hgl4 u11
        clear u0 u1 u10 u11 hgl4
        go_upto_region 20 with fail
        go_cut [125] (fun s wc => s = .bool (decide (cA.t = cB.t ∧ cA.k = cB.k)) ∧ Hid (Fr [] wr wc))
        case first =>
          by_cases h1 : cA.t = cB.t
          · rw [← h1] at U10
            by_cases h2 : cA.k = cB.k
            · rw [← h2] at U11
              refine wp_region_later (by kernel_rfl) (by kernel_rfl) ?_
              repeat (go_big_quiet_step (fail))
              refine wpQuiet_nil ?_
              rintro w' ⟨⟨wq, fq⟩, rfl⟩
              go_wp2_with fail
              go_meet
              exact ⟨by simp [h1, h2], Lib.hid fq⟩
            · have e2 : (cA.k == cB.k) = false := by simpa using h2
              have e3 : decide (cA.k = cB.k) = false := decide_eq_false h2
              refine wp_region_later (by kernel_rfl) (by kernel_rfl) ?_
              repeat (go_big_quiet_step (fail))
              refine wpQuiet_nil ?_
              rintro w' ⟨⟨wq, fq⟩, rfl⟩
              go_wp2_with fail
              go_meet
              exact ⟨by simp [h1, h2], Lib.hid fq⟩
          · have e2 : (cA.t == cB.t) = false := by simpa using h1
            have e3 : decide (cA.t = cB.t) = false := decide_eq_false h1
            refine wp_region_later (by kernel_rfl) (by kernel_rfl) ?_
            repeat (go_big_quiet_step (fail))
            refine wpQuiet_nil ?_
            rintro w' ⟨⟨wq, fq⟩, rfl⟩
            go_wp2_with fail
            go_meet
            exact ⟨by simp [h1], Lib.hid fq⟩
        case rest =>
          obtain ⟨rfl, HF2⟩ := hcut
          clear U0 U1 U10 U11
          have HSA := Lib.hid (HS0.out.fr0 HF2.out)
          have HTA := Lib.hid (HT0.out.fr0 HF2.out)
          have HROW2 := Lib.hid (HROW.out.keep0 HF2.out)
          have HFG := Lib.hid (HFF.out.trans HF2.out)
          by_cases htk : cA.t = cB.t ∧ cA.k = cB.k
          · rw [decide_eq_true htk]
            clear htk
            go_wp2_with fail
            go_ret
            exact ⟨rfl, HFG.out.below⟩
          · have HNE : Hid (idOf cA.t cA.k ≠ idOf cB.t cB.k) := Lib.hid (fun h => htk (by
              have h1 := congrArg Subtype.val h
              rw [Rw.chg_id HFA.out.1, Rw.chg_id HFB.out.1] at h1
              injection h1 with h1 h2
              exact ⟨h1, h2⟩))
            rw [decide_eq_false htk]
            clear htk
            have HC1 := Lib.hid (Cmt.commute HSO.out HFA.out.1 HFB.out.1 (by rw [HM.out]; exact HFA.out.2) (by rw [HM.out]; exact HFB.out.2) HNE.out (by rw [HPS.out]; omega) (by have := HL27.out; omega))
            have HC2 := Lib.hid (Cmt.commute HSO.out HFB.out.1 HFA.out.1 (by rw [HM.out]; exact HFB.out.2) (by rw [HM.out]; exact HFA.out.2) (Ne.symm HNE.out) (by rw [HPS.out]; omega) (by have := HL27.out; omega))
            have HPE := Lib.hid (Cmt.put1_comm HSO.out.nd HNE.out)
            have hcv1 : ¬ cv = 1 := by omega
            have hp1 : Hid ((l.length : Int) + 1 = S.pos + 1) := Lib.hid (by rw [HPS.out])
            have hp2 : Hid ((l.length : Int) + 2 = S.pos + 2) := Lib.hid (by rw [HPS.out])
            have K0 := Lib.hid (Lg.code_zero.2 HC1.out.1)
            have K1 := Lib.hid (Lg.code_zero.2 HC1.out.2.1)
            have K2 := Lib.hid (Lg.code_zero.2 HC2.out.1)
            have K3 := Lib.hid (Lg.code_zero.2 HC2.out.2.1)
            have HA1 := Lib.hid (sapply_n b m S ⟨S.pos + 1, [cA]⟩ (some ⟨g, 0, none⟩) 1 cv (l.length + 1) wc HSA.out (holds_two HROW2.out).1 (by simp) rfl hp1.out)
            go_wp2_with fail
            refine HA1.out.mono ?_
            rintro e w6 ⟨rfl, hs6, f6⟩
            rw [K0.out]
            have HS6 := Lib.hid hs6
            have HT6 := Lib.hid (HTA.out.fr f6 (by have := HBM.out; simp; omega) (by have := HBM.out; simp; omega))
            have HR6 := Lib.hid (HROW2.out.fr f6 (fun x hx => by have := HBM.out; simp [Value.ownBlock] at hx; simp; omega))
            have HF6 := Lib.hid (HFG.out.trans' f6 (fun x hx => .inr (by have := HBM.out; simp at hx; omega)))
            clear hs6 f6 HA1
            have HA2 := Lib.hid (sapply_n b m (Sm.apply S ⟨S.pos + 1, [cA]⟩) ⟨S.pos + 2, [cB]⟩ (some ⟨g, 10, none⟩) 1 (cv - 1) (l.length + 2) w6 HS6.out (holds_two HR6.out).2 (by simp) rfl hp2.out)
            go_wp2_with fail
            refine HA2.out.mono ?_
            rintro e w7 ⟨rfl, hs7, f7⟩
            rw [K1.out]
            rw [HC1.out.2.2] at hs7
            have HS7 := Lib.hid hs7
            have HT7 := Lib.hid (HT6.out.fr f7 (by have := HBM.out; simp; omega) (by have := HBM.out; simp; omega))
            have HR7 := Lib.hid (HR6.out.fr f7 (fun x hx => by have := HBM.out; simp [Value.ownBlock] at hx; simp; omega))
            have HF7 := Lib.hid (HF6.out.trans' f7 (fun x hx => .inr (by have := HBM.out; simp at hx; omega)))
            clear hs7 f7 HA2
            have HA3 := Lib.hid (sapply_n b' m' S ⟨S.pos + 1, [cB]⟩ (some ⟨g, 10, none⟩) 1 (cv - 1) (l.length + 1) w7 HT7.out (holds_two HR7.out).2 (by simp) rfl hp1.out)
            go_wp2_with fail
            refine HA3.out.mono ?_
            rintro e w8 ⟨rfl, hs8, f8⟩
            rw [K2.out]
            have HT8 := Lib.hid hs8
            have HS8 := Lib.hid (HS7.out.fr f8 (by have := HBM.out; simp; omega) (by have := HBM.out; simp; omega))
            have HR8 := Lib.hid (HR7.out.fr f8 (fun x hx => by have := HBM.out; simp [Value.ownBlock] at hx; simp; omega))
            have HF8 := Lib.hid (HF7.out.trans' f8 (fun x hx => .inr (by have := HBM.out; simp at hx; omega)))
            clear hs8 f8 HA3
            have HA4 := Lib.hid (sapply_n b' m' (Sm.apply S ⟨S.pos + 1, [cB]⟩) ⟨S.pos + 2, [cA]⟩ (some ⟨g, 0, none⟩) 1 cv (l.length + 2) w8 HT8.out (holds_two HR8.out).1 (by simp) rfl hp2.out)
            go_wp2_with fail
            refine HA4.out.mono ?_
            rintro e w9 ⟨rfl, hs9, f9⟩
            rw [K3.out]
            rw [HC2.out.2.2] at hs9
            have HT9 := Lib.hid hs9
            have HS9 := Lib.hid (HS8.out.fr f9 (by have := HBM.out; simp; omega) (by have := HBM.out; simp; omega))
            have HF9 := Lib.hid (HF8.out.trans' f9 (fun x hx => .inr (by have := HBM.out; simp at hx; omega)))
            clear hs9 f9 HA4
            have HE := Lib.hid (equal_any b m b' m' _ _ w9 HS9.out HT9.out HPE.out)
            go_wp2_with fail
            refine HE.out.mono ?_
            rintro e wz ⟨rfl, fz⟩
            have HFZ := Lib.hid (HF9.out.trans fz)
            have HP1 := Lib.hid (sposition_any b m _ wz (HS9.out.fr0 fz))
            have HP2 := Lib.hid (sposition_any b' m' _ wz (HT9.out.fr0 fz))
            clear fz
            go_wp2_with (go_at_call 27; first | (with_reducible refine HP1.out.mono ?_; rintro e w' ⟨rfl, rfl⟩) | (with_reducible refine HP2.out.mono ?_; rintro e w' ⟨rfl, rfl⟩))
            go_ret
            exact ⟨rfl, HFZ.out.below⟩
end Go.Proofs.Ytakfaffgfdbfmaa
namespace Go.Proofs.Ytakfaffgfdbfmaa
open Go.RowKit Go.WideShapes Go.ChangeShapes

set_option maxRecDepth 100000 in
theorem commute_law : LawWalk 10 Try.f10 := by
  intro H enc W base args ds p hval0 hA0 hlt hsz
  have hval : ∀ (j : Nat) t v, Try.f10.params[j]? = some t → args[j]? = some v → Value.okWide Try.prog W .any base t v := hval0
  have hA : DataW.TrodAll enc Try.prog W 0 (fun _ => true) true Try.f10.params.toList args.toList ds p := hA0
  clear hA0 hval0 hsz
  rw [Try.params10] at hA hval
  obtain ⟨v0, vs0, d0, ds0, p0, q0, hargs, rfl, rfl, h0, r0⟩ := trodAll_cons hA
  obtain ⟨v1, vs1, d1, ds1, p1, q1, rfl, rfl, rfl, h1, r1⟩ := trodAll_cons r0
  obtain ⟨v2, vs2, d2, ds2, p2, q2, rfl, rfl, rfl, h2, r2⟩ := trodAll_cons r1
  obtain ⟨rfl, rfl, rfl⟩ := trodAll_nil r2
  obtain rfl : args = #[v0, v1, v2] := by cases args; simp_all
  obtain ⟨A0, n0, cap0, rfl, hn0, hmax0, hx0⟩ := open_sixes (hval 0 _ v0 rfl rfl) h0
  obtain ⟨x1, y1, z1, rfl, wx1⟩ := open_three (hval 1 _ v1 rfl rfl) h1
  obtain ⟨x2, y2, z2, rfl, wx2⟩ := open_three (hval 2 _ v2 rfl rfl) h2
  exact comm_walk A0 n0 cap0 x1 y1 z1 x2 y2 z2 W hn0 hmax0 hx0 wx1 wx2

set_option maxRecDepth 100000 in
theorem commute_lifted (os : Os) (started : os.Started) (H : Type) (enc : TypeId × Value → H) :
    ReturnsInHanded {} Try.checked os 10 .any (Rows.storeCommutesSpec.pre6 enc Try.prog Try.f10 Rows.storeCommutesRow.domain false) (Rows.storeCommutesSpec.post enc Try.prog Try.f10 false true false false) :=
  law_lifted (s := Rows.storeCommutesSpec) (conds := Rows.storeCommutesRow.domain) Try.func10 (by kernel_rfl) rfl rfl
    (by
      rw [Try.params10]
      intro t ht
      simp only [List.mem_cons, List.not_mem_nil, or_false] at ht
      rcases ht with rfl | rfl | rfl
      all_goals exact ⟨by kernel_rfl, of_decide_eq_true (by kernel_rfl)⟩)
    (fun H ds h => by
      match ds, h with
      | [d0, d1, d2], _ => exact ⟨rfl, rfl, rfl⟩) commute_law os started H enc
    (ChangeSpec.witness6 (enc := enc) (C := Try.checked) false ⟨#[], #[.slice none 0 0, .agg #[.int .i64 0, .int .i64 0, .int .i64 0], .agg #[.int .i64 0, .int .i64 0, .int .i64 0]], []⟩ 8 (by kernel_rfl) (by kernel_rfl) (by kernel_rfl) (by kernel_rfl))

theorem commute_holds : Rows.StoreCommutesSaid :=
  OpenClaim.holds_of_wide 10 Try.f10 rfl rfl rfl rfl rfl rfl rfl ⟨rfl, rfl, rfl, rfl, rfl⟩ rfl rfl rfl rfl rfl (by kernel_rfl) Try.func10 (by kernel_rfl)
    (of_decide_eq_true (by kernel_rfl)) (by unfold Func.isWrapper; rw [if_neg (of_decide_eq_false (by kernel_rfl))]; exact ⟨rfl, rfl⟩)
    (fun os started H enc _ => commute_lifted os started H enc)
#print axioms commute_holds

end Go.Proofs.Ytakfaffgfdbfmaa
