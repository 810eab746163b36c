/-
  PredicateOrder: the walk of the law.
-/
import Derived.Test.YtjiikpmkedkbkaaFw
import Derived.Test.YtjiikpmkedkbkaaFn
import Derived.Test.YtjiikpmkedkbkaaFo
import Derived.Test.YtjiikpmkedkbkaaFv
import Derived.Test.YtjiikpmkedkbkaaFs
import Derived.Test.YtjiikpmkedkbkaaFd
import Derived.Test.YtjiikpmkedkbkaaFp
import Derived.Deep.DeepCutAuto
import Derived.Deep.RegionLaw
import Derived.Deep.RegionWith
import Derived.Deep.CutBlock
import Derived.StillTailTactics
namespace Go.Proofs.Ytjiikpmkedkbkaa
open Go.RowKit

theorem AtL.take {X : Type} {enc : X → List Value} {size : Nat} {w : World} {A : Option Addr} {L : List X} (h : AtL enc size w A L) (k : Nat) : AtL enc size w A (L.take k) := by
  intro hl
  obtain ⟨b, off, e, hlt, hc⟩ := h (by rw [List.length_take] at hl; omega)
  refine ⟨b, off, e, hlt, fun i hi j hj => ?_⟩
  have hi' : i < L.length := by rw [List.length_take] at hi; omega
  rw [List.getElem_take]
  exact hc i hi' j hj
/-- Between two records. -/
structure OrAt (wr : World) (gq gn : Nat) (l : List Rec) (A2 : Option Addr) (n2 c2 : Nat) (q : Qry) (A : Option Addr) (k ca : Nat) (m : Int) (f : Bool) (R : List RowV) : Prop where
  q : QAt wr gq q
  n : R7At wr gn (.slice A k ca) m f
  rows : AtL RowV.cells 5 wr A R
  row : OwnR wr (.slice A2 n2 c2) l
theorem OrAt.fr0 {wr w' : World} {gq gn : Nat} {l : List Rec} {A2 : Option Addr} {n2 c2 : Nat} {q : Qry} {A : Option Addr} {k ca : Nat} {m : Int} {f : Bool} {R : List RowV} (h : OrAt wr gq gn l A2 n2 c2 q A k ca m f R) (hf : Fr [] wr w') : OrAt w' gq gn l A2 n2 c2 q A k ca m f R :=
  ⟨h.q.fr hf (by simp), h.n.fr hf (by simp), h.rows.fr0 hf, h.row.keep0 hf⟩
theorem OrAt.open_ {wr : World} {gq gn : Nat} {l : List Rec} {A2 : Option Addr} {n2 c2 : Nat} {q : Qry} {A : Option Addr} {k ca : Nat} {m : Int} {f : Bool} {R : List RowV} (h : OrAt wr gq gn l A2 n2 c2 q A k ca m f R) {i : Nat} (hi : i < l.length) :
    ∃ bb off Ak ck, A2 = some ⟨bb, off, none⟩ ∧ bb < wr.heap.size ∧ wr.cell? ⟨bb, off + i * 2, none⟩ = some (.int .i64 l[i].p) ∧ wr.cell? ⟨bb, off + i * 2 + 1, none⟩ = some (.slice Ak l[i].cs.length ck) ∧ HoldsC wr Ak l[i].cs ∧ l[i].cs.length ≤ 8 := by
  have hr := h.row.recs
  exact hr.1.open_ hi

set_option maxRecDepth 100000 in
set_option maxHeartbeats 8000000 in
theorem order_walk (A : Option Addr) (n cap : Nat) (x0 x1 x2 x3 x4 : Int) (AR : Option Addr) (nr cr : Nat) (LR : List RowV) (z : Int) (fl : Bool) (w : World) (hn : n ≤ cap) (hcap : cap ≤ maxLen) (hx : n = 0 ∨ ∃ bx ox, A = some ⟨bx, ox, none⟩ ∧ SixAt w bx ox n) (o0 : okI x0) (o1 : okI x1) (o2 : okI x2) (o3 : okI x3) (o4 : okI x4) (hnr : nr ≤ cr) (hcr : cr ≤ maxLen) (hrl : LR.length = nr) (hr : RowsAt w AR LR) :
    Calls Try.prog 5 #[.slice A n cap, .agg #[.int .i64 x0, .int .i64 x1, .int .i64 x2, .int .i64 x3, .int .i64 x4], .agg #[.slice AR nr cr, .int .i64 z, .bool fl]] w fun e w' => e = .returned (.bool true) ∧ Below w.heap.size w w' := by
  have hb63 : cap < 9223372036854775808 := by simp only [maxLen] at hcap; omega
  have F0 : Hid (Fr [] w ((w.alloc (.cells #[.int .i64 x0, .int .i64 x1, .int .i64 x2, .int .i64 x3, .int .i64 x4] 22)).alloc (.cells #[.slice AR nr cr, .int .i64 z, .bool fl] 27))) := Lib.hid (((Fr.refl [] w).alloc _).alloc _)
  have B5 : Hid (Five ((w.alloc (.cells #[.int .i64 x0, .int .i64 x1, .int .i64 x2, .int .i64 x3, .int .i64 x4] 22)).alloc (.cells #[.slice AR nr cr, .int .i64 z, .bool fl] 27)) w.heap.size x0 x1 x2 x3 x4) := Lib.hid (Blk.alloc (Blk.new w _ _) _)
  have hbr := Blk.new (w.alloc (.cells #[.int .i64 x0, .int .i64 x1, .int .i64 x2, .int .i64 x3, .int .i64 x4] 22)) 27 #[.slice AR nr cr, .int .i64 z, .bool fl]
  rw [World.size_alloc] at hbr
  have BR := Lib.hid hbr
  have HR := Lib.hid (hr.fr0 F0.out)
  have HRL : Hid (LR.length = nr) := Lib.hid hrl
  have HNR : Hid (nr ≤ cr ∧ nr ≤ 9223372036854775807) := Lib.hid ⟨hnr, by unfold maxLen at hcr; omega⟩
  clear hbr hr hrl hnr hcr
  have HX := Lib.hid hx
  have HO := Lib.hid (And.intro o0 (And.intro o1 (And.intro o2 (And.intro o3 o4))))
  clear hx o0 o1 o2 o3 o4
  go_enter Try.func5, Try.ntmps5
  go_upto_region 2 with (go_at_call 7; refine (sane7 _).mono ?_; rintro e wa ⟨rfl, fa⟩; have FA := Lib.hid fa; clear fa)
  have fa := FA.out
  clear FA
  replace B5 := Lib.hid (B5.out.fr fa (by simp))
  replace F0 := Lib.hid (F0.out.trans fa)
  replace BR := Lib.hid (BR.out.fr fa (by simp))
  replace HR := Lib.hid (HR.out.fr0 fa)
  clear fa
  have HLG := Lib.hid (fun (mN : Nat) (h1 : mN ≤ 12) (h2 : mN ≤ n) => log_any A mN cap wa (by omega) (by
    rcases HX.out with h0 | ⟨bx, ox, h1', h2'⟩
    · exact .inl (by omega)
    · exact .inr ⟨bx, ox, h1', (h2'.le h2).fr0 F0.out⟩))
  go_cut [8] (fun v wn => ∃ (A2 : Option Addr) (n2 c2 : Nat) (l : List Rec), v = .slice A2 n2 c2 ∧ n2 ≤ 12 ∧ Hid (OwnR wn (.slice A2 n2 c2) l) ∧ Hid (Lg.Ok l) ∧ Hid (n2 = l.length) ∧ Hid (Fr [] wa wn))
  case first =>
    go_wp2_with fail
    all_goals
      first
        | (with_reducible refine (HLG.out 12 (by omega) (by omega)).mono ?_)
        | (with_reducible refine (HLG.out n (by omega) (by omega)).mono ?_)
      rintro e w2 ⟨vl, l, rfl, hor, hok, hll, f2, hvo⟩
      obtain ⟨A2, n2, c2, hv⟩ : ∃ A n c, vl = .slice A n c := by
        obtain ⟨us, hus, _⟩ := hor
        obtain ⟨A2, cap2, hv⟩ := hus.val
        exact ⟨_, _, _, hv⟩
      subst hv
      have hn2 := hor.recs.2
      have HOR := Lib.hid hor
      have HOK := Lib.hid hok
      have HN2 := Lib.hid hn2
      have F2 := Lib.hid f2
      have hn12 : n2 ≤ 12 := by omega
      clear hor hok hn2 f2 hvo hll
      go_wp2_with fail
      go_meet
      exact ⟨A2, n2, c2, l, rfl, hn12, HOR, HOK, HN2, F2⟩
  case rest =>
  clear HLG
  obtain ⟨A2, n2, c2, l, rfl, hnM, HROW, HOK, HN2, F2⟩ := hcut
  have f2 := F2.out
  clear F2
  replace B5 := Lib.hid (B5.out.fr f2 (by simp))
  replace F0 := Lib.hid (F0.out.trans f2)
  replace BR := Lib.hid (BR.out.fr f2 (by simp))
  replace HR := Lib.hid (HR.out.fr0 f2)
  clear f2 HX hn
  obtain ⟨g0, g1, g2, g3, g4⟩ := B5.out.cells
  go_wp2_with fail
  refine (query_any x0 x1 x2 x3 x4 _ HO.out.1 HO.out.2.1 HO.out.2.2.1 HO.out.2.2.2.1 HO.out.2.2.2.2).mono ?_
  rintro e wq ⟨q, rfl, hq, fq⟩
  have HQ := Lib.hid hq
  have fq1 := fq.alloc (.cells #[.int .i64 q.kind, .int .i64 q.table, .int .i64 q.column, .int .i64 q.low, .int .i64 q.high, .int .i64 q.by_, .int .i64 q.other] 24)
  have HBQ := Lib.hid (QAt.new wq q)
  replace F0 := Lib.hid (F0.out.trans fq1)
  replace BR := Lib.hid (BR.out.fr fq1 (by simp))
  replace HR := Lib.hid (HR.out.fr0 fq1)
  replace HROW := Lib.hid (HROW.out.keep0 fq1)
  clear g0 g1 g2 g3 g4 B5 HO hq fq fq1 hcap
  obtain ⟨kr, HK⟩ : ∃ k : Nat, Hid (k = min nr 20) := ⟨_, Lib.hid rfl⟩
  obtain ⟨m, HM⟩ : ∃ m : Int, Hid (m = min (max z (-1000000000000000000)) 1000000000000000000) := ⟨_, Lib.hid rfl⟩
  have hbr := BR.out
  have HNE := Lib.hid (fun W => near_any AR nr cr z fl W HNR.out.1 HNR.out.2)
  rw [← HK.out, ← HM.out] at HNE
  go_upto_region 5 with (first
    | (refine wpList_load_row rfl _ _ rfl (w.heap.size + 1) rfl 27 _ (0, 0) _ hbr Try.underlying27 rfl (by kernel_rfl) ?_)
    | (go_at_call 8; refine (HNE.out _).mono ?_; rintro e wn ⟨rfl, fn⟩; have FN := Lib.hid fn; clear fn))
  clear hbr HNE BR
  have fn1 := FN.out.alloc (.cells #[.slice AR kr cr, .int .i64 m, .bool fl] 27)
  have AT : Hid (OrAt (wn.alloc (.cells #[.slice AR kr cr, .int .i64 m, .bool fl] 27)) wq.heap.size wn.heap.size l A2 n2 c2 q AR kr cr m fl (LR.take 20)) := Lib.hid ⟨HBQ.out.fr fn1 (by simp), R7At.new wn _ _ _, (HR.out.fr0 fn1).take 20, HROW.out.keep0 fn1⟩
  have HKL : Hid (kr = (LR.take 20).length ∧ kr ≤ 20) := Lib.hid (by have := HK.out; have := HRL.out; rw [List.length_take]; omega)
  have HMB : Hid (-1000000000000000000 ≤ m ∧ m ≤ 1000000000000000000) := Lib.hid (by have := HM.out; omega)
  replace F0 := Lib.hid (F0.out.trans fn1)
  clear fn1 FN HBQ HR HK HRL HM HNR HROW
  generalize LR.take 20 = R at *
  generalize hw3 : wn.alloc (.cells #[.slice AR kr cr, .int .i64 m, .bool fl] 27) = w3 at *
  clear hw3
  generalize wn.heap.size = gn at *
  generalize wq.heap.size = gq at *
  have hok : okI q.kind := okI_mk (by have := HQ.out.k; omega) (by have := HQ.out.k; omega)
  have HOKI := Lib.hid hok
  have HTO := Lib.hid (fun c W => touches_any q c hok W)
  clear hok HQ
  go_wp2_with fail
  go_loopw [11] (fun i wr => ∃ k : Nat, i = .int .i64 k ∧ k ≤ n2 ∧ Hid (OrAt wr gq gn l A2 n2 c2 q AR kr cr m fl R) ∧ Hid (Fr [] w wr)) (fun i _ => n2 - (intOf i).toNat)
  case atStart => exact ⟨0, rfl, Nat.zero_le _, AT, F0⟩
  case round =>
    clear AT F0
    obtain ⟨k, rfl, hk, AT, F0⟩ := hrel
    by_cases hlt : k < n2
    · have hkl : k < l.length := by rw [← HN2.out]; exact hlt
      obtain ⟨r, HR⟩ : ∃ r, Hid (l[k] = r) := ⟨_, Lib.hid rfl⟩
      obtain ⟨bb, off, Ak, ck, hA, hbb, hc0, hc1, hhc, hl8⟩ := AT.out.open_ hkl
      subst hA
      rw [HR.out] at hc0 hc1 hhc hl8
      obtain ⟨nk, hnk⟩ : ∃ n, n = r.cs.length := ⟨_, rfl⟩
      rw [← hnk] at hc1 hl8
      have HNK := Lib.hid hnk
      obtain ⟨pk, hpk⟩ : ∃ n, n = r.p := ⟨_, rfl⟩
      rw [← hpk] at hc0
      have HPK := Lib.hid hpk
      have HHC := Lib.hid hhc
      clear hnk hpk hhc
      go_upto_region 10 with (fail)
      have GB : Hid (Blk (wr.alloc (.cells #[.int .i64 pk, .slice none 0 0] 38)) wr.heap.size 38 #[.int .i64 pk, .slice none 0 0]) := Lib.hid (Blk.new _ _ _)
      have f5 : Fr [] wr (wr.alloc (.cells #[.int .i64 pk, .slice none 0 0] 38)) := (Fr.refl _ _).alloc _
      have FB0 := Lib.hid f5
      have HLT := Lib.hid hbb
      have HC0 := Lib.hid hc0
      have HC1 := Lib.hid hc1
      clear f5 hbb hc0 hc1
      generalize hw5 : wr.alloc (.cells #[.int .i64 pk, .slice none 0 0] 38) = w5 at *
      clear hw5
      have HGB : Hid (wr.heap.size ≤ wr.heap.size) := Lib.hid (Nat.le_refl _)
      generalize hgb : wr.heap.size = gb at GB HGB ⊢
      have c1 : w5.cell? ⟨bb, off + k * 2 + 1, none⟩ = some (.slice Ak nk ck) := (FB0.out.rules.1 bb _ HLT.out).trans HC1.out
      go_wp2_with fail
      obtain ⟨wo, hwo⟩ : ∃ x, x = wr := ⟨_, rfl⟩
      subst hwo
      obtain ⟨i0, TR⟩ := etChg
      go_loopw [13, 14] (fun t j wr => ∃ (m : Nat) (tb : Bool) (Av : Option Addr) (nv cv : Nat), t = .bool tb ∧ j = .int .i64 ((m : Int) - 1) ∧ m ≤ nk ∧ Hid (tb = (r.cs.drop m).any (Pm.touches q)) ∧ Hid (Blk wr gb 38 #[.int .i64 pk, .slice Av nv cv]) ∧ Hid (OwnL 30 10 Chg.cells wr (.slice Av nv cv) (r.cs.drop m).reverse) ∧ Hid (∀ g, (Value.slice Av nv cv).ownBlock = some g → wo.heap.size ≤ g) ∧ Hid (Fr [] wo wr)) (fun _ j _ => (intOf j + 1).toNat)
      case atStart => exact ⟨nk, false, none, 0, 0, rfl, rfl, Nat.le_refl _, Lib.hid (by rw [List.drop_of_length_le (by rw [← HNK.out]; exact Nat.le_refl _)]; rfl), GB, Lib.hid (by rw [List.drop_of_length_le (by rw [← HNK.out]; exact Nat.le_refl _)]; exact OwnL.nil), Lib.hid (fun g hg => by simp [Value.ownBlock] at hg), FB0⟩
      case round =>
        clear GB c1
        obtain ⟨m, tb, Av, nv, cv, rfl, rfl, hm, HTB, GB, HV, HVN, FB⟩ := hrel
        have c1 : wr.cell? ⟨bb, off + k * 2 + 1, none⟩ = some (.slice Ak nk ck) := (FB.out.rules.1 bb _ HLT.out).trans HC1.out
        rcases Nat.eq_zero_or_pos m with hm0 | hm0
        · subst hm0
          have em : ((0 : Nat) : Int) - 1 = -1 := rfl
          rw [em]
          clear em
          have e9 : decide ((0 : Int) ≤ -1) = false := rfl
          rw [List.drop_zero] at HTB HV
          obtain ⟨T, HT⟩ : ∃ x, Hid (r.cs.any (Pm.touches q) = x) := ⟨_, Lib.hid rfl⟩
          rw [HT.out] at HTB
          obtain rfl := HTB.out
          clear HTB
          have HBK := Lib.hid (HV.out.at1 Chg.len)
          go_upto_region 17 with (fail)
          clear e9
          obtain ⟨Rn, HRN⟩ : ∃ x : Res, Hid (x = ⟨R, m, fl⟩) := ⟨_, Lib.hid rfl⟩
          have PG := Lib.hid (AT.out.fr0 FB.out)
          have RVn : Hid (RvAt wr gn AR kr cr Rn) := Lib.hid (by
            rw [HRN.out]
            exact ⟨PG.out.n, PG.out.rows, HKL.out.1⟩)
          have HBn : Hid (Rn.rows.length ≤ 20 ∧ -1000000000000000000 ≤ Rn.value ∧ Rn.value ≤ 1000000000000000000) := Lib.hid (by
            rw [HRN.out]
            exact ⟨by show R.length ≤ 20; have := HKL.out; omega, HMB.out⟩)
          have e0 : R7At wr gn (.slice AR kr cr) Rn.value Rn.found := RVn.out.blk
          replace F0 := Lib.hid (F0.out.trans FB.out)
          clear e0 AT c1 HHC HC0 HC1
          obtain ⟨bb', off', Ak', ck', hA', hbb2, hc0, hc1, hhc, _⟩ := PG.out.open_ hkl
          rw [HR.out] at hc0 hc1 hhc
          rw [← HNK.out] at hc1
          rw [← HPK.out] at hc0
          have eA : bb' = bb ∧ off' = off := by
            injection hA' with hA'
            injection hA' with h1 h2
            exact ⟨h1.symm, h2.symm⟩
          obtain ⟨rfl, rfl⟩ := eA
          clear hA'
          have HSW : Hid (∀ w', Fr [] wr w' → Blk w' gq 24 #[.int .i64 q.kind, .int .i64 q.table, .int .i64 q.column, .int .i64 q.low, .int .i64 q.high, .int .i64 q.by_, .int .i64 q.other] ∧ Blk w' gn 27 #[.slice AR kr cr, .int .i64 Rn.value, .bool Rn.found] ∧ w'.cell? ⟨bb', off' + k * 2, none⟩ = some (.int .i64 pk) ∧ w'.cell? ⟨bb', off' + k * 2 + 1, none⟩ = some (.slice Ak' nk ck')) := Lib.hid (fun w' hf => ⟨(PG.out.fr0 hf).q, (RVn.out.fr0 hf).blk, (hf.rules.1 bb' _ hbb2).trans hc0, (hf.rules.1 bb' _ hbb2).trans hc1⟩)
          have HAR : Hid (∀ w1, Fr [] wr w1 → Calls Try.prog 18 #[q.val, .agg #[.slice AR kr cr, .int .i64 Rn.value, .bool Rn.found], .agg #[.int .i64 pk, .slice Ak' nk ck']] w1 fun e w' => ∃ (r' : Res) (A' : Option Addr) (n' c' : Nat) (t k : Bool), e = .returned (.tuple #[.agg #[.slice A' n' c', .int .i64 r'.value, .bool r'.found], .bool t, .bool k]) ∧ ApAt w1 w' (Pm.apply q Rn r.cs) A' n' r' t k (kr + 2 * nk) ∧ Fr [] wr w') := Lib.hid (fun w1 hf => (apply_rv HOKI.out (RVn.out.fr0 hf) (Nat.le_trans HBn.out.1 (by decide)) (by have := HBn.out.2; omega) (ck := ck') (p := pk) (hhc.fr hf NoC.nil).1 hl8 HNK.out).mono (fun e w' ⟨r', A', n', c', t, k, h1, h2⟩ => ⟨r', A', n', c', t, k, h1, h2, hf.trans h2.fr⟩))
          have s0 := HSW.out _ (Fr.refl [] _)
          clear hc0 hc1 hhc
          go_cut [16, 17, 18] (fun vp vt vk wn => ∃ (gg : Nat) (Rg : Res) (Ag : Option Addr) (ng cg : Nat) (tg kg : Bool), vp = .pointer (some ⟨gg, 0, none⟩) ∧ vt = .bool tg ∧ vk = .bool kg ∧ Hid (AOut (Pm.apply q Rn r.cs) Rg tg kg) ∧ Hid (RvAt wn gg Ag ng cg Rg) ∧ Hid (Fr [] wr wn) ∧ Hid (wr.heap.size ≤ gg))
          case first =>
            refine wp_region_head (fun W => Blk W gq 24 #[.int .i64 q.kind, .int .i64 q.table, .int .i64 q.column, .int .i64 q.low, .int .i64 q.high, .int .i64 q.by_, .int .i64 q.other] ∧ Blk W gn 27 #[.slice AR kr cr, .int .i64 Rn.value, .bool Rn.found] ∧ W.cell? ⟨bb', off' + k * 2, none⟩ = some (.int .i64 pk) ∧ W.cell? ⟨bb', off' + k * 2 + 1, none⟩ = some (.slice Ak' nk ck')) 14 (by kernel_rfl) (by kernel_rfl) (HSW.out _ (Fr.refl [] wr).drew) (fun hHeld => ?_)
            refine wpHead_take (i := 0) (oi := ⟨some 83, _, _, _, _, _⟩) (v := .agg (#[.int .i64 q.kind, .int .i64 q.table, .int .i64 q.column, .int .i64 q.low, .int .i64 q.high, .int .i64 q.by_, .int .i64 q.other])) rfl (by kernel_rfl) (fun _ _ _ h => h) (yieldsIf_load_blk (by rfl) _ _ rfl gq rfl 24 (#[.int .i64 q.kind, .int .i64 q.table, .int .i64 q.column, .int .i64 q.low, .int .i64 q.high, .int .i64 q.by_, .int .i64 q.other]) _ (fun _ h => h.1) Try.underlying24 rfl (by kernel_rfl)) hHeld ?_
            try simp only [Act.put, List.setIfInBounds_toArray, List.set_cons_zero, List.set_cons_succ]
            refine wpHead_take (i := 1) (oi := ⟨some 84, _, _, _, _, _⟩) (v := .agg (#[.slice AR kr cr, .int .i64 Rn.value, .bool Rn.found])) rfl (by kernel_rfl) (fun _ _ _ h => h) (yieldsIf_load_blk (by rfl) _ _ rfl gn rfl 27 (#[.slice AR kr cr, .int .i64 Rn.value, .bool Rn.found]) _ (fun _ h => h.2.1) Try.underlying27 rfl (by kernel_rfl)) hHeld ?_
            try simp only [Act.put, List.setIfInBounds_toArray, List.set_cons_zero, List.set_cons_succ]
            refine wpHead_take (i := 2) (oi := ⟨some 85, _, _, _, _, _⟩) (v := ?_) rfl (by kernel_rfl) (fun _ _ _ h => h) (Or.inl ⟨by rfl, ?_⟩) hHeld ?_
            rotate_left
            · (intro w hSw; (try dsimp only at hSw); go_simp; try with_reducible rfl)
            try simp only [Act.put, List.setIfInBounds_toArray, List.set_cons_zero, List.set_cons_succ]
            refine wpHead_take (i := 3) (oi := ⟨some 86, _, _, _, _, _⟩) (v := ?_) rfl (by kernel_rfl) (fun _ _ _ h => h) (Or.inl ⟨by rfl, ?_⟩) hHeld ?_
            rotate_left
            · (intro w hSw; (try dsimp only at hSw); go_simp; try with_reducible rfl)
            try simp only [Act.put, List.setIfInBounds_toArray, List.set_cons_zero, List.set_cons_succ]
            refine wpHead_take (i := 4) (oi := ⟨some 87, _, _, _, _, _⟩) (v := ?_) rfl (by kernel_rfl) (fun _ _ _ h => h) (Or.inl ⟨by rfl, ?_⟩) hHeld ?_
            rotate_left
            · (intro w hSw; (try dsimp only at hSw); go_simp; try with_reducible rfl)
            try simp only [Act.put, List.setIfInBounds_toArray, List.set_cons_zero, List.set_cons_succ]
            refine wpHead_take (i := 5) (oi := ⟨some 88, _, _, _, _, _⟩) (v := ?_) rfl (by kernel_rfl) (fun _ _ _ h => h) (Or.inl ⟨by rfl, ?_⟩) hHeld ?_
            rotate_left
            · (intro w hSw; (try dsimp only at hSw); go_simp; try with_reducible rfl)
            try simp only [Act.put, List.setIfInBounds_toArray, List.set_cons_zero, List.set_cons_succ]
            refine wpHead_two (i := 6) (j := 11) (oi := ⟨some 89, _, _, _, _, _⟩) (oj := ⟨some 16, _, _, _, _, _⟩) rfl rfl (by kernel_rfl) (by decide) (by decide) ?_ ?_
            · refine fun K hK => ?_
              go_simp
              refine (HAR.out _ (Fr.refl [] wr).drew).mono ?_
              rintro e wz ⟨Rg, Ag, ng, cg, tg, kg, rfl, hap, hfz⟩
              have AP := Lib.hid hap
              have FZ := Lib.hid hfz
              refine hK.out _ _ ?_ (fun hHeld => ?_)
              · exact HSW.out _ FZ.out
              clear hK K
              try simp only [Act.put, List.setIfInBounds_toArray, List.set_cons_zero, List.set_cons_succ]
              clear hap hfz
              refine wpHead_take (i := 7) (oi := ⟨some 82, _, _, _, _, _⟩) (v := ?_) rfl (by kernel_rfl) (fun _ _ _ h => h) (Or.inl ⟨by rfl, ?_⟩) hHeld ?_
              rotate_left
              · (intro w hSw; (try dsimp only at hSw); go_simp; try with_reducible rfl)
              try simp only [Act.put, List.setIfInBounds_toArray, List.set_cons_zero, List.set_cons_succ]
              refine wpHead_take (i := 8) (oi := ⟨some 90, _, _, _, _, _⟩) (v := ?_) rfl (by kernel_rfl) (fun _ _ _ h => h) (Or.inl ⟨by rfl, ?_⟩) hHeld ?_
              rotate_left
              · (intro w hSw; (try dsimp only at hSw); go_simp; try with_reducible rfl)
              try simp only [Act.put, List.setIfInBounds_toArray, List.set_cons_zero, List.set_cons_succ]
              refine wpHead_take (i := 9) (oi := ⟨some 91, _, _, _, _, _⟩) (v := ?_) rfl (by kernel_rfl) (fun _ _ _ h => h) (Or.inl ⟨by rfl, ?_⟩) hHeld ?_
              rotate_left
              · (intro w hSw; (try dsimp only at hSw); go_simp; try with_reducible rfl)
              try simp only [Act.put, List.setIfInBounds_toArray, List.set_cons_zero, List.set_cons_succ]
              refine wpHead_take (i := 10) (oi := ⟨some 92, _, _, _, _, _⟩) (v := ?_) rfl (by kernel_rfl) (fun _ _ _ h => h) (Or.inl ⟨by rfl, ?_⟩) hHeld ?_
              rotate_left
              · (intro w hSw; (try dsimp only at hSw); go_simp; try with_reducible rfl)
              try simp only [Act.put, List.setIfInBounds_toArray, List.set_cons_zero, List.set_cons_succ]
              refine wpHead_one (i := 11) (o := ⟨some 16, _, _, _, _, _⟩) rfl (by kernel_rfl) (by decide) (fun K hK => ?_)
              go_simp
              skip
              refine hK.out _ _ ?_ (fun hHeld => ?_)
              · exact HSW.out _ (FZ.out.alloc _)
              clear hK K
              try simp only [Act.put, List.setIfInBounds_toArray, List.set_cons_zero, List.set_cons_succ]
              refine wpHead_one (i := 12) (o := ⟨none, _, _, _, _, _⟩) rfl (by kernel_rfl) (by decide) (fun K hK => ?_)
              go_simp
              skip
              refine hK.out _ _ ?_ (fun hHeld => ?_)
              · exact HSW.out _ (FZ.out.alloc _)
              clear hK K
              try simp only [Act.put, List.setIfInBounds_toArray, List.set_cons_zero, List.set_cons_succ]
              refine wpHead_take (i := 13) (oi := ⟨some 17, _, _, _, _, _⟩) (v := ?_) rfl (by kernel_rfl) (fun _ _ _ h => h) (Or.inl ⟨by rfl, ?_⟩) hHeld ?_
              rotate_left
              · (intro w hSw; (try dsimp only at hSw); go_simp; try with_reducible rfl)
              try simp only [Act.put, List.setIfInBounds_toArray, List.set_cons_zero, List.set_cons_succ]
              refine wpHead_done (by kernel_rfl) ?_
              simp only [List.drop_succ_cons, List.drop_zero]
              go_wp2_with fail
              go_meet
              exact ⟨wz.heap.size, Rg, Ag, ng, cg, tg, kg, rfl, rfl, rfl, Lib.hid AP.out.out, Lib.hid (RvAt.ofA AP.out), Lib.hid (FZ.out.alloc _), Lib.hid FZ.out.size⟩

            · refine fun K hK => ?_
              go_simp
              skip
              refine hK.out _ _ ?_ (fun hHeld => ?_)
              · exact HSW.out _ ((Fr.refl [] wr).drew.alloc _)
              clear hK K
              try simp only [Act.put, List.setIfInBounds_toArray, List.set_cons_zero, List.set_cons_succ]
              refine wpHead_one (i := 6) (o := ⟨some 89, _, _, _, _, _⟩) rfl (by kernel_rfl) (by decide) (fun K hK => ?_)
              go_simp
              refine (HAR.out _ ((Fr.refl [] wr).drew.alloc _)).mono ?_
              rintro e wz ⟨Rg, Ag, ng, cg, tg, kg, rfl, hap, hfz⟩
              have AP := Lib.hid hap
              have FZ := Lib.hid hfz
              have hbz := Blk.fr (w := _) (g := wr.heap.size) (t := 27) (cs := #[.slice none 0 0, .int .i64 0, .bool false]) (Blk.new wr.drew _ _) hap.fr (by simp)
              have z0 := hbz.frozen 0
              have z1 := hbz.frozen 1
              have z2 := hbz.frozen 2
              have u0 := hbz.cell 0
              have u1 := hbz.cell 1
              have u2 := hbz.cell 2
              have HBZ := Lib.hid hbz
              clear hbz hap hfz
              refine hK.out _ _ ?_ (fun hHeld => ?_)
              · exact HSW.out _ FZ.out
              clear hK K
              try simp only [Act.put, List.setIfInBounds_toArray, List.set_cons_zero, List.set_cons_succ]
              refine wpHead_take (i := 7) (oi := ⟨some 82, _, _, _, _, _⟩) (v := ?_) rfl (by kernel_rfl) (fun _ _ _ h => h) (Or.inl ⟨by rfl, ?_⟩) hHeld ?_
              rotate_left
              · (intro w hSw; (try dsimp only at hSw); go_simp; try with_reducible rfl)
              try simp only [Act.put, List.setIfInBounds_toArray, List.set_cons_zero, List.set_cons_succ]
              refine wpHead_take (i := 8) (oi := ⟨some 90, _, _, _, _, _⟩) (v := ?_) rfl (by kernel_rfl) (fun _ _ _ h => h) (Or.inl ⟨by rfl, ?_⟩) hHeld ?_
              rotate_left
              · (intro w hSw; (try dsimp only at hSw); go_simp; try with_reducible rfl)
              try simp only [Act.put, List.setIfInBounds_toArray, List.set_cons_zero, List.set_cons_succ]
              refine wpHead_take (i := 9) (oi := ⟨some 91, _, _, _, _, _⟩) (v := ?_) rfl (by kernel_rfl) (fun _ _ _ h => h) (Or.inl ⟨by rfl, ?_⟩) hHeld ?_
              rotate_left
              · (intro w hSw; (try dsimp only at hSw); go_simp; try with_reducible rfl)
              try simp only [Act.put, List.setIfInBounds_toArray, List.set_cons_zero, List.set_cons_succ]
              refine wpHead_take (i := 10) (oi := ⟨some 92, _, _, _, _, _⟩) (v := ?_) rfl (by kernel_rfl) (fun _ _ _ h => h) (Or.inl ⟨by rfl, ?_⟩) hHeld ?_
              rotate_left
              · (intro w hSw; (try dsimp only at hSw); go_simp; try with_reducible rfl)
              try simp only [Act.put, List.setIfInBounds_toArray, List.set_cons_zero, List.set_cons_succ]
              refine wpHead_one (i := 12) (o := ⟨none, _, _, _, _, _⟩) rfl (by kernel_rfl) (by decide) (fun K hK => ?_)
              go_simp
              skip
              refine hK.out _ _ ?_ (fun hHeld => ?_)
              · exact HSW.out _ (((FZ.out.setCell (.inr (Nat.le_refl _)) _).setCell (.inr (Nat.le_refl _)) _).setCell (.inr (Nat.le_refl _)) _)
              clear hK K
              try simp only [Act.put, List.setIfInBounds_toArray, List.set_cons_zero, List.set_cons_succ]
              refine wpHead_take (i := 13) (oi := ⟨some 17, _, _, _, _, _⟩) (v := ?_) rfl (by kernel_rfl) (fun _ _ _ h => h) (Or.inl ⟨by rfl, ?_⟩) hHeld ?_
              rotate_left
              · (intro w hSw; (try dsimp only at hSw); go_simp; try with_reducible rfl)
              try simp only [Act.put, List.setIfInBounds_toArray, List.set_cons_zero, List.set_cons_succ]
              refine wpHead_done (by kernel_rfl) ?_
              simp only [List.drop_succ_cons, List.drop_zero]
              go_wp2_with fail
              go_meet
              exact ⟨wr.heap.size, Rg, Ag, ng, cg, tg, kg, rfl, rfl, rfl, Lib.hid AP.out.out, Lib.hid (RvAt.ofB AP.out HBZ.out).1, Lib.hid (((FZ.out.setCell (.inr (Nat.le_refl _)) _).setCell (.inr (Nat.le_refl _)) _).setCell (.inr (Nat.le_refl _)) _), Lib.hid (Nat.le_refl _)⟩

          case rest =>
          clear HSW HAR s0
          obtain ⟨ga, Ra, Aa, na, ca, ta, ka, rfl, rfl, rfl, HAO, RVa, Fa, HGa⟩ := hcut
          have hta := HAO.out.touched
          rw [HT.out] at hta
          obtain ⟨hta, htk⟩ := hta
          subst hta
          have HTK := Lib.hid htk
          clear htk HAO
          have bq := (PG.out.fr0 Fa.out).q
          have bn := (RVn.out.fr0 Fa.out).blk
          have br := GB.out.fr Fa.out (by simp)
          have HAR := Lib.hid (apply_rv (p := pk) (ck := cv) HOKI.out (RVn.out.fr0 Fa.out) (Nat.le_trans HBn.out.1 (by decide)) HBn.out.2 (HBK.out.1.fr0 Fa.out) (by rw [HBK.out.2, List.length_reverse, ← HNK.out]; exact hl8) HBK.out.2)
          have e0 : Rn.value = m := by rw [HRN.out]
          have e1 : Rn.found = fl := by rw [HRN.out]
          rw [e0, e1] at bn
          rw [e0, e1] at HAR
          clear e0 e1
          go_upto_region 19 with (first
            | (refine wpList_load_row rfl _ _ rfl gq rfl 24 _ (0, 0) _ bq Try.underlying24 rfl (by kernel_rfl) ?_)
            | (refine wpList_load_row rfl _ _ rfl gn rfl 27 _ (0, 0) _ bn Try.underlying27 rfl (by kernel_rfl) ?_)
            | (refine wpList_load_row rfl _ _ rfl gb rfl 38 _ (0, 0) _ br Try.underlying38 rfl (by kernel_rfl) ?_)
            | (go_at_call 18; refine HAR.out.mono ?_; rintro e wz ⟨Rb, Ab, nb, cb, tB, kb, rfl, hap⟩; have AP := Lib.hid hap; clear hap))
          have htb := AP.out.out.touched
          rw [List.any_reverse, HT.out] at htb
          obtain ⟨rfl, -⟩ := htb
          have FZ := Lib.hid ((Fa.out.trans AP.out.fr).alloc (.cells #[.slice Ab nb cb, .int .i64 Rb.value, .bool Rb.found] 27))
          replace F0 := Lib.hid (F0.out.trans FZ.out)
          replace PG := Lib.hid (PG.out.fr0 FZ.out)
          clear AP HAR bq bn br Fa
          clear GB HV HVN HBK FB RVn RVa HGa HT FZ
          generalize wz.alloc (.cells #[.slice Ab nb cb, .int .i64 Rb.value, .bool Rb.found] 27) = w9 at *
          cases tB
          · obtain rfl := HTK.out rfl
            go_wp2_with fail
            go_roundw
            case rel => exact ⟨k + 1, by go_num, by omega, PG, F0⟩
            case measure => simp [intOf]; omega
          · go_wp2_with fail
            go_roundw
            case rel => exact ⟨k + 1, by go_num, by omega, PG, F0⟩
            case measure => simp [intOf]; omega
        · obtain ⟨i, rfl⟩ : ∃ i, m = i + 1 := ⟨m - 1, by omega⟩
          have em : ((i + 1 : Nat) : Int) - 1 = (i : Int) := by omega
          rw [em]
          clear em hm0
          have hil : i < r.cs.length := by rw [← HNK.out]; omega
          obtain ⟨b3, off3, hA3, hb3, hc3⟩ := HHC.out.1 (by omega)
          subst hA3
          have hcc := Lib.hid (fun j (hj : j < 10) => hc3 i hil j hj)
          have HB3 := Lib.hid hb3
          have HAN := Lib.hid (Pm.any_drop (Pm.touches q) hil)
          rw [← HTB.out] at HAN
          have HRV : Hid ((r.cs.drop i).reverse = (r.cs.drop (i + 1)).reverse ++ [r.cs[i]]) := Lib.hid (by rw [List.drop_eq_getElem_cons hil, List.reverse_cons])
          have HLN : Hid (((r.cs.drop (i + 1)).reverse).length ≤ 8) := Lib.hid (by rw [List.length_reverse, List.length_drop, ← HNK.out]; omega)
          clear hc3 hb3
          obtain ⟨c, HC⟩ : ∃ c, Hid (r.cs[i] = c) := ⟨_, Lib.hid rfl⟩
          rw [HC.out] at hcc HAN HRV
          have hnk2 : i < nk := by omega
          go_wp2_with fail
          clear c1
          have HSW : Hid (∀ W, Fr [] wo W → Blk W gb 38 #[.int .i64 pk, .slice Av nv cv] → W.cell? ⟨gb, 1, none⟩ = some (.slice Av nv cv) ∧ W.cell? ⟨bb, off + k * 2 + 1, none⟩ = some (.slice (some ⟨b3, off3, none⟩) nk ck) ∧ W.cell? ⟨b3, off3 + i * 10, none⟩ = some (.int .i64 c.t) ∧ W.cell? ⟨b3, off3 + i * 10 + 1, none⟩ = some (.int .i64 c.k) ∧ W.cell? ⟨b3, off3 + i * 10 + 2, none⟩ = some (.bool c.had) ∧ W.cell? ⟨b3, off3 + i * 10 + 3, none⟩ = some (.int .i64 c.o0) ∧ W.cell? ⟨b3, off3 + i * 10 + 4, none⟩ = some (.int .i64 c.o1) ∧ W.cell? ⟨b3, off3 + i * 10 + 5, none⟩ = some (.int .i64 c.o2) ∧ W.cell? ⟨b3, off3 + i * 10 + 6, none⟩ = some (.bool c.has) ∧ W.cell? ⟨b3, off3 + i * 10 + 7, none⟩ = some (.int .i64 c.n0) ∧ W.cell? ⟨b3, off3 + i * 10 + 8, none⟩ = some (.int .i64 c.n1) ∧ W.cell? ⟨b3, off3 + i * 10 + 9, none⟩ = some (.int .i64 c.n2)) := Lib.hid (fun W hf hb => ⟨hb.cell 1, (hf.rules.1 bb _ HLT.out).trans HC1.out, (hf.rules.1 b3 _ HB3.out).trans (hcc.out 0 (by decide)), (hf.rules.1 b3 _ HB3.out).trans (hcc.out 1 (by decide)), (hf.rules.1 b3 _ HB3.out).trans (hcc.out 2 (by decide)), (hf.rules.1 b3 _ HB3.out).trans (hcc.out 3 (by decide)), (hf.rules.1 b3 _ HB3.out).trans (hcc.out 4 (by decide)), (hf.rules.1 b3 _ HB3.out).trans (hcc.out 5 (by decide)), (hf.rules.1 b3 _ HB3.out).trans (hcc.out 6 (by decide)), (hf.rules.1 b3 _ HB3.out).trans (hcc.out 7 (by decide)), (hf.rules.1 b3 _ HB3.out).trans (hcc.out 8 (by decide)), (hf.rules.1 b3 _ HB3.out).trans (hcc.out 9 (by decide))⟩)
          have HOA : Hid (OwnL 30 10 Chg.cells (wr.drew.alloc (.cells #[.int .i64 c.t, .int .i64 c.k, .bool c.had, .int .i64 c.o0, .int .i64 c.o1, .int .i64 c.o2, .bool c.has, .int .i64 c.n0, .int .i64 c.n1, .int .i64 c.n2] 30)) (.slice Av nv cv) (r.cs.drop (i + 1)).reverse) := Lib.hid (HV.out.fr ((Fr.refl [] wr).drew.alloc _) (by simp))
          have HRD : Hid (Reads (wr.drew.alloc (.cells #[.int .i64 c.t, .int .i64 c.k, .bool c.had, .int .i64 c.o0, .int .i64 c.o1, .int .i64 c.o2, .bool c.has, .int .i64 c.n0, .int .i64 c.n1, .int .i64 c.n2] 30)) (wr.drew.heap.size + 1) 10 (some ⟨wr.drew.heap.size, 0, none⟩) 1 ([c].flatMap Chg.cells)) := Lib.hid (reads_new (enc := Chg.cells) wr.drew 30 c rfl)
          have GBA : Hid (Blk (wr.drew.alloc (.cells #[.int .i64 c.t, .int .i64 c.k, .bool c.had, .int .i64 c.o0, .int .i64 c.o1, .int .i64 c.o2, .bool c.has, .int .i64 c.n0, .int .i64 c.n1, .int .i64 c.n2] 30)) gb 38 #[.int .i64 pk, .slice Av nv cv]) := Lib.hid (GB.out.fr ((Fr.refl [] wr).drew.alloc _) (by simp))
          have FBA : Hid (Fr [] wo (wr.drew.alloc (.cells #[.int .i64 c.t, .int .i64 c.k, .bool c.had, .int .i64 c.o0, .int .i64 c.o1, .int .i64 c.o2, .bool c.has, .int .i64 c.n0, .int .i64 c.n1, .int .i64 c.n2] 30))) := Lib.hid (FB.out.drew.alloc _)
          refine wp_region_head (fun W => W.cell? ⟨gb, 1, none⟩ = some (.slice Av nv cv) ∧ W.cell? ⟨bb, off + k * 2 + 1, none⟩ = some (.slice (some ⟨b3, off3, none⟩) nk ck) ∧ W.cell? ⟨b3, off3 + i * 10, none⟩ = some (.int .i64 c.t) ∧ W.cell? ⟨b3, off3 + i * 10 + 1, none⟩ = some (.int .i64 c.k) ∧ W.cell? ⟨b3, off3 + i * 10 + 2, none⟩ = some (.bool c.had) ∧ W.cell? ⟨b3, off3 + i * 10 + 3, none⟩ = some (.int .i64 c.o0) ∧ W.cell? ⟨b3, off3 + i * 10 + 4, none⟩ = some (.int .i64 c.o1) ∧ W.cell? ⟨b3, off3 + i * 10 + 5, none⟩ = some (.int .i64 c.o2) ∧ W.cell? ⟨b3, off3 + i * 10 + 6, none⟩ = some (.bool c.has) ∧ W.cell? ⟨b3, off3 + i * 10 + 7, none⟩ = some (.int .i64 c.n0) ∧ W.cell? ⟨b3, off3 + i * 10 + 8, none⟩ = some (.int .i64 c.n1) ∧ W.cell? ⟨b3, off3 + i * 10 + 9, none⟩ = some (.int .i64 c.n2)) 12 (by kernel_rfl) (by kernel_rfl) (HSW.out _ FB.out.drew GB.out.drew) (fun hHeld => ?_)
          refine wpHead_take (i := 0) (oi := ⟨some 55, _, _, _, _, _⟩) (v := ?_) rfl (by kernel_rfl) (fun _ _ _ h => h) (Or.inl ⟨by rfl, ?_⟩) hHeld ?_
          rotate_left
          · (intro w hSw; (try dsimp only at hSw); go_simp; try with_reducible rfl)
          try simp only [Act.put, List.setIfInBounds_toArray, List.set_cons_zero, List.set_cons_succ]
          refine wpHead_take (i := 1) (oi := ⟨some 56, _, _, _, _, _⟩) (v := ?_) rfl (by kernel_rfl) (fun _ _ _ h => h) (Or.inl ⟨by rfl, ?_⟩) hHeld ?_
          rotate_left
          · (intro w hSw; (try dsimp only at hSw); go_simp; try with_reducible rfl)
          try simp only [Act.put, List.setIfInBounds_toArray, List.set_cons_zero, List.set_cons_succ]
          refine wpHead_take (i := 2) (oi := ⟨some 57, _, _, _, _, _⟩) (v := ?_) rfl (by kernel_rfl) (fun _ _ _ h => h) (Or.inl ⟨by rfl, ?_⟩) hHeld ?_
          rotate_left
          · (intro w hSw; (try dsimp only at hSw); go_simp; try with_reducible rfl)
          try simp only [Act.put, List.setIfInBounds_toArray, List.set_cons_zero, List.set_cons_succ]
          refine wpHead_take (i := 3) (oi := ⟨some 58, _, _, _, _, _⟩) (v := ?_) rfl (by kernel_rfl) (fun _ _ _ h => h) (Or.inl ⟨by rfl, ?_⟩) hHeld ?_
          rotate_left
          · (intro w hSw; (try dsimp only at hSw); go_simp; try with_reducible rfl)
          try simp only [Act.put, List.setIfInBounds_toArray, List.set_cons_zero, List.set_cons_succ]
          refine wpHead_take (i := 4) (oi := ⟨some 59, _, _, _, _, _⟩) (v := ?_) rfl (by kernel_rfl) (fun _ _ _ h => h) (Or.inl ⟨by rfl, ?_⟩) hHeld ?_
          rotate_left
          · (intro w hSw; (try dsimp only at hSw); go_simp; try with_reducible rfl)
          try simp only [Act.put, List.setIfInBounds_toArray, List.set_cons_zero, List.set_cons_succ]
          refine wpHead_take (i := 5) (oi := ⟨some 60, _, _, _, _, _⟩) (v := ?_) rfl (by kernel_rfl) (fun _ _ _ h => h) (Or.inl ⟨by rfl, ?_⟩) hHeld ?_
          rotate_left
          · (intro w hSw; (try dsimp only at hSw); go_simp; try with_reducible rfl)
          try simp only [Act.put, List.setIfInBounds_toArray, List.set_cons_zero, List.set_cons_succ]
          refine wpHead_take (i := 6) (oi := ⟨some 61, _, _, _, _, _⟩) (v := ?_) rfl (by kernel_rfl) (fun _ _ _ h => h) (Or.inl ⟨by rfl, ?_⟩) hHeld ?_
          rotate_left
          · (intro w hSw; (try dsimp only at hSw); go_simp; try with_reducible rfl)
          try simp only [Act.put, List.setIfInBounds_toArray, List.set_cons_zero, List.set_cons_succ]
          refine wpHead_take (i := 7) (oi := ⟨some 62, _, _, _, _, _⟩) (v := ?_) rfl (by kernel_rfl) (fun _ _ _ h => h) (Or.inl ⟨by rfl, ?_⟩) hHeld ?_
          rotate_left
          · (intro w hSw; (try dsimp only at hSw); go_simp; try with_reducible rfl)
          try simp only [Act.put, List.setIfInBounds_toArray, List.set_cons_zero, List.set_cons_succ]
          refine wpHead_take (i := 8) (oi := ⟨some 63, _, _, _, _, _⟩) (v := ?_) rfl (by kernel_rfl) (fun _ _ _ h => h) (Or.inl ⟨by rfl, ?_⟩) hHeld ?_
          rotate_left
          · (intro w hSw; (try dsimp only at hSw); go_simp; try with_reducible rfl)
          try simp only [Act.put, List.setIfInBounds_toArray, List.set_cons_zero, List.set_cons_succ]
          refine wpHead_take (i := 9) (oi := ⟨some 64, _, _, _, _, _⟩) (v := ?_) rfl (by kernel_rfl) (fun _ _ _ h => h) (Or.inl ⟨by rfl, ?_⟩) hHeld ?_
          rotate_left
          · (intro w hSw; (try dsimp only at hSw); go_simp; try with_reducible rfl)
          try simp only [Act.put, List.setIfInBounds_toArray, List.set_cons_zero, List.set_cons_succ]
          refine wpHead_one (i := 10) (o := ⟨some 65, _, _, _, _, _⟩) rfl (by kernel_rfl) (by decide) (fun K hK => ?_)
          go_simp
          skip
          refine hK.out _ _ ?_ (fun hHeld => ?_)
          · exact HSW.out _ FBA.out GBA.out
          clear hK K
          try simp only [Act.put, List.setIfInBounds_toArray, List.set_cons_zero, List.set_cons_succ]
          refine wpHead_one (i := 11) (o := ⟨some 66, _, _, _, _, _⟩) rfl (by kernel_rfl) (by decide) (fun K hK => ?_)
          refine step_appendL rfl _ _ rfl TR Chg.len Chg.one rfl HOA.out _ _ _ _ [c] rfl rfl HRD.out (Nat.le_trans (Nat.add_le_add_right HLN.out 1) (by decide)) (Nat.le_trans (Nat.mul_le_mul_right 80 (Nat.add_le_add_right HLN.out 1)) (by decide)) ?_
          intro v5 w5 hrow5 hg5 hat5
          have HR5 := Lib.hid hrow5
          have G5 : Hid (Blk w5 gb 38 #[.int .i64 pk, .slice Av nv cv]) := Lib.hid (GBA.out.grown hg5 (fun e => OwnL.ne HOA.out GBA.out (by decide) e.symm rfl))
          have F5 : Hid (Fr [] wo w5) := Lib.hid (FBA.out.grown hg5 (fun g hg => .inr (HVN.out g hg)))
          have HN5 : Hid (∀ g, v5.ownBlock = some g → wo.heap.size ≤ g) := Lib.hid (fun g hg => by
            rcases hat5 with h1 | h1
            · exact HVN.out g (h1 ▸ hg)
            · rw [h1] at hg
              injection hg with hg
              exact Nat.le_trans FBA.out.size (Nat.le_of_eq hg))
          obtain ⟨A5, n5, c5, hv5⟩ : ∃ A n c, v5 = .slice A n c := (match hrow5.val with | ⟨_, _, hv⟩ => ⟨_, _, _, hv⟩)
          subst hv5
          clear hrow5 hg5 hat5
          refine hK.out _ _ ?_ (fun hHeld => ?_)
          · exact HSW.out _ F5.out G5.out
          clear hK K
          try simp only [Act.put, List.setIfInBounds_toArray, List.set_cons_zero, List.set_cons_succ]
          refine wpHead_done (by kernel_rfl) ?_
          simp only [List.drop_succ_cons, List.drop_zero]
          have z1 := G5.out.frozen 1
          have u1 : w5.cell? ⟨gb, 1, none⟩ = some (.slice Av nv cv) := G5.out.cell 1
          have hfs : Fr [gb] w5 (w5.setCell ⟨gb, 1, none⟩ (.slice A5 n5 c5)) := (Fr.refl _ _).setCell (.inl (by simp)) _
          have G6 : Hid (Blk (w5.setCell ⟨gb, 1, none⟩ (.slice A5 n5 c5)) gb 38 #[.int .i64 pk, .slice A5 n5 c5]) := Lib.hid (G5.out.set_ 1 _)
          have HR6 : Hid (OwnL 30 10 Chg.cells (w5.setCell ⟨gb, 1, none⟩ (.slice A5 n5 c5)) (.slice A5 n5 c5) ((r.cs.drop (i + 1)).reverse ++ [c])) := Lib.hid (HR5.out.fr hfs (fun g hg => by have := OwnL.ne HR5.out G5.out (by decide) hg; simpa using this))
          have F6 : Hid (Fr [] wo (w5.setCell ⟨gb, 1, none⟩ (.slice A5 n5 c5))) := Lib.hid (F5.out.trans' hfs (fun x hx => .inr (by rw [List.mem_singleton] at hx; have := HGB.out; omega)))
          go_upto_region 15 with (fail)
          clear z1 u1 hfs G5 HR5 F5 HOA HRD GBA FBA HSW hHeld GB HV FB HVN
          generalize w5.setCell ⟨gb, 1, none⟩ (.slice A5 n5 c5) = w6 at *
          have HTC := Lib.hid (fun W => HTO.out c W)
          obtain ⟨tc, HTCB⟩ : ∃ b, Hid (Pm.touches q c = b) := ⟨_, Lib.hid rfl⟩
          rw [HTCB.out] at HTC HAN
          have PQ := (AT.out.fr0 F6.out).q
          have hl6 := F6.out.size
          have q0 : ∀ p : Later w6, p.w.cell? ⟨gq, 0, none⟩ = some (.int .i64 q.kind) := fun p => p.cell PQ.lt PQ.c0
          have q1 : ∀ p : Later w6, p.w.cell? ⟨gq, 1, none⟩ = some (.int .i64 q.table) := fun p => p.cell PQ.lt PQ.c1
          have q2 : ∀ p : Later w6, p.w.cell? ⟨gq, 2, none⟩ = some (.int .i64 q.column) := fun p => p.cell PQ.lt PQ.c2
          have q3 : ∀ p : Later w6, p.w.cell? ⟨gq, 3, none⟩ = some (.int .i64 q.low) := fun p => p.cell PQ.lt PQ.c3
          have q4 : ∀ p : Later w6, p.w.cell? ⟨gq, 4, none⟩ = some (.int .i64 q.high) := fun p => p.cell PQ.lt PQ.c4
          have q5 : ∀ p : Later w6, p.w.cell? ⟨gq, 5, none⟩ = some (.int .i64 q.by_) := fun p => p.cell PQ.lt PQ.c5
          have q6 : ∀ p : Later w6, p.w.cell? ⟨gq, 6, none⟩ = some (.int .i64 q.other) := fun p => p.cell PQ.lt PQ.c6
          have hs1 : ∀ p : Later w6, p.w.cell? ⟨bb, off + k * 2 + 1, none⟩ = some (.slice (some ⟨b3, off3, none⟩) nk ck) := fun p => p.cell (Nat.lt_of_lt_of_le HLT.out hl6) ((F6.out.rules.1 bb _ HLT.out).trans HC1.out)
          have y0 : ∀ p : Later w6, p.w.cell? ⟨b3, off3 + i * 10, none⟩ = some (.int .i64 c.t) := fun p => p.cell (Nat.lt_of_lt_of_le HB3.out hl6) ((F6.out.rules.1 b3 _ HB3.out).trans (hcc.out 0 (by decide)))
          have y1 : ∀ p : Later w6, p.w.cell? ⟨b3, off3 + i * 10 + 1, none⟩ = some (.int .i64 c.k) := fun p => p.cell (Nat.lt_of_lt_of_le HB3.out hl6) ((F6.out.rules.1 b3 _ HB3.out).trans (hcc.out 1 (by decide)))
          have y2 : ∀ p : Later w6, p.w.cell? ⟨b3, off3 + i * 10 + 2, none⟩ = some (.bool c.had) := fun p => p.cell (Nat.lt_of_lt_of_le HB3.out hl6) ((F6.out.rules.1 b3 _ HB3.out).trans (hcc.out 2 (by decide)))
          have y3 : ∀ p : Later w6, p.w.cell? ⟨b3, off3 + i * 10 + 3, none⟩ = some (.int .i64 c.o0) := fun p => p.cell (Nat.lt_of_lt_of_le HB3.out hl6) ((F6.out.rules.1 b3 _ HB3.out).trans (hcc.out 3 (by decide)))
          have y4 : ∀ p : Later w6, p.w.cell? ⟨b3, off3 + i * 10 + 4, none⟩ = some (.int .i64 c.o1) := fun p => p.cell (Nat.lt_of_lt_of_le HB3.out hl6) ((F6.out.rules.1 b3 _ HB3.out).trans (hcc.out 4 (by decide)))
          have y5 : ∀ p : Later w6, p.w.cell? ⟨b3, off3 + i * 10 + 5, none⟩ = some (.int .i64 c.o2) := fun p => p.cell (Nat.lt_of_lt_of_le HB3.out hl6) ((F6.out.rules.1 b3 _ HB3.out).trans (hcc.out 5 (by decide)))
          have y6 : ∀ p : Later w6, p.w.cell? ⟨b3, off3 + i * 10 + 6, none⟩ = some (.bool c.has) := fun p => p.cell (Nat.lt_of_lt_of_le HB3.out hl6) ((F6.out.rules.1 b3 _ HB3.out).trans (hcc.out 6 (by decide)))
          have y7 : ∀ p : Later w6, p.w.cell? ⟨b3, off3 + i * 10 + 7, none⟩ = some (.int .i64 c.n0) := fun p => p.cell (Nat.lt_of_lt_of_le HB3.out hl6) ((F6.out.rules.1 b3 _ HB3.out).trans (hcc.out 7 (by decide)))
          have y8 : ∀ p : Later w6, p.w.cell? ⟨b3, off3 + i * 10 + 8, none⟩ = some (.int .i64 c.n1) := fun p => p.cell (Nat.lt_of_lt_of_le HB3.out hl6) ((F6.out.rules.1 b3 _ HB3.out).trans (hcc.out 8 (by decide)))
          have y9 : ∀ p : Later w6, p.w.cell? ⟨b3, off3 + i * 10 + 9, none⟩ = some (.int .i64 c.n2) := fun p => p.cell (Nat.lt_of_lt_of_le HB3.out hl6) ((F6.out.rules.1 b3 _ HB3.out).trans (hcc.out 9 (by decide)))
          clear PQ hl6
          refine wp_region_later (by kernel_rfl) (by kernel_rfl) ?_
          repeat (go_big_quiet_step (exact Later.calls (HTC.out _)))
          refine wpQuiet_nil ?_
          rintro w' ⟨⟨wz, fq⟩, rfl⟩
          have G7 := Lib.hid (G6.out.fr fq (by simp))
          have HR7 := Lib.hid (HR6.out.fr fq (by simp))
          have F7 := Lib.hid (F6.out.trans fq)
          clear fq HTC hs1 G6 HR6 F6 q0 q1 q2 q3 q4 q5 q6 y0 y1 y2 y3 y4 y5 y6 y7 y8 y9
          cases tb
          · go_wp2_with fail
            go_roundw
            case rel => exact ⟨i, tc, A5, n5, c5, rfl, by go_num, by omega, Lib.hid (by rw [HAN.out]; rfl), G7, Lib.hid (by rw [HRV.out]; exact HR7.out), HN5, F7⟩
            case measure => simp [intOf]
          · go_wp2_with fail
            go_roundw
            case rel => exact ⟨i, true, A5, n5, c5, rfl, by go_num, by omega, Lib.hid (by rw [HAN.out]; rfl), G7, Lib.hid (by rw [HRV.out]; exact HR7.out), HN5, F7⟩
            case measure => simp [intOf]
    · go_wp2_with fail
      go_ret
      exact ⟨rfl, F0.out.below⟩
end Go.Proofs.Ytjiikpmkedkbkaa
