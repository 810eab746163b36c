/-
  PredicateMatchesReference: the walk of the law.
-/
import Derived.Test.YtjiikpmkedkbkaaRsH
import Derived.Test.YtjiikpmkedkbkaaGbg
import Derived.Test.YtjiikpmkedkbkaaGbf
import Derived.Test.YtjiikpmkedkbkaaGav
import Derived.Test.YtjiikpmkedkbkaaGar
import Derived.Test.YtjiikpmkedkbkaaGas
import Derived.Test.YtjiikpmkedkbkaaGac
import Derived.Test.YtjiikpmkedkbkaaGaw
import Derived.Deep.DeepCutAuto
import Derived.Deep.RegionLaw
import Derived.Deep.RegionWith
import Derived.Deep.CutBlock
import Derived.StillTailTactics
namespace Go.Proofs.Ytjiikpmkedkbkaa
open Go.RowKit

theorem AtL.take {X : Type} {enc : X → List Value} {size : Nat} {w : World} {A : Option Addr} {L : List X} (h : AtL enc size w A L) (k : Nat) : AtL enc size w A (L.take k) := by
  intro hl
  obtain ⟨b, off, e, hlt, hc⟩ := h (by rw [List.length_take] at hl; omega)
  refine ⟨b, off, e, hlt, fun i hi j hj => ?_⟩
  have hi' : i < L.length := by rw [List.length_take] at hi; omega
  rw [List.getElem_take]
  exact hc i hi' j hj
theorem AOut.uniq {J : Option (Res × Bool)} {r r' : Res} {t t' k k' : Bool} (h : AOut J r t k) (h' : AOut J r' t' k') : r' = r ∧ t' = t ∧ k' = k := by
  rcases h with ⟨h1, h2⟩ | ⟨h1, h2, h3, h4⟩ <;> rcases h' with ⟨g1, g2⟩ | ⟨g1, g2, g3, g4⟩
  · rw [h2] at g2
    injection g2 with g2
    injection g2 with e1 e2
    exact ⟨e1.symm, e2.symm, by rw [g1, h1]⟩
  · rw [h2] at g2
    cases g2
  · rw [h2] at g2
    cases g2
  · exact ⟨by rw [g4, h4], by rw [g3, h3], by rw [g1, h1]⟩
theorem same_rvp {w : World} {g g' : Nat} {A A' : Option Addr} {n n' c c' : Nat} {r : Res} (h : RvAt w g A n c r) (h' : RvAt w g' A' n' c' r) (hl : n ≤ 4000) (hl' : n' ≤ 4000) :
    Calls Try.prog 15 #[.agg #[.slice A n c, .int .i64 r.value, .bool r.found], .agg #[.slice A' n' c', .int .i64 r.value, .bool r.found]] w fun e w' => e = .returned (.bool true) ∧ Fr [] w w' := by
  have h1 := same7_any A n c r.value r.found r.rows A' n' c' r.value r.found r.rows w h.rows h.len h'.rows h'.len hl hl'
  rwa [decide_eq_true rfl] at h1
def qcells (q : Qry) : List Value := [.int .i64 q.kind, .int .i64 q.table, .int .i64 q.column, .int .i64 q.low, .int .i64 q.high, .int .i64 q.by_, .int .i64 q.other]
theorem qcells_len (q : Qry) : (qcells q).length = 7 := rfl
theorem flat_le8 (l : List Rec) (h : ∀ r ∈ l, r.cs.length ≤ 8) : (l.flatMap (·.cs)).length ≤ 8 * l.length := by
  induction l with
  | nil => simp
  | cons r l ih =>
    rw [List.flatMap_cons, List.length_append, List.length_cons]
    have h1 := h r (by simp)
    have h2 := ih (fun x hx => h x (by simp [hx]))
    omega
/-- What the law keeps. -/
structure MrAt (wr : World) (g5 gq gn : Nat) (x0 x1 x2 x3 x4 : Int) (raw : Qry) (A : Option Addr) (k ca : Nat) (N : Res) (A2 : Option Addr) (n2 c2 : Nat) (l : List Rec) : Prop where
  five : Five wr g5 x0 x1 x2 x3 x4
  raw : QAt wr gq raw
  n : RvAt wr gn A k ca N
  row : OwnR wr (.slice A2 n2 c2) l
theorem MrAt.fr0 {wr w' : World} {g5 gq gn : Nat} {x0 x1 x2 x3 x4 : Int} {raw : Qry} {A : Option Addr} {k ca : Nat} {N : Res} {A2 : Option Addr} {n2 c2 : Nat} {l : List Rec} (h : MrAt wr g5 gq gn x0 x1 x2 x3 x4 raw A k ca N A2 n2 c2 l) (hf : Fr [] wr w') : MrAt w' g5 gq gn x0 x1 x2 x3 x4 raw A k ca N A2 n2 c2 l :=
  ⟨h.five.fr hf (by simp), h.raw.fr hf (by simp), h.n.fr0 hf, h.row.keep0 hf⟩

set_option maxRecDepth 100000 in
set_option maxHeartbeats 8000000 in
theorem mref_walk (x0 x1 x2 x3 x4 : Int) (raw : Qry) (A : Option Addr) (n cap : Nat) (L : List RowV) (z : Int) (fl : Bool) (c : Chg) (As : Option Addr) (ns caps : Nat) (w : World) (o0 : okI x0) (o1 : okI x1) (o2 : okI x2) (o3 : okI x3) (o4 : okI x4) (hqf : QryFit raw) (hn : n ≤ cap) (hcap : cap ≤ maxLen) (hl : L.length = n) (hr : RowsAt w A L) (_hc : ChgFit c) (hns : ns ≤ caps) (hcaps : caps ≤ maxLen) (hx : ns = 0 ∨ ∃ bx ox, As = some ⟨bx, ox, none⟩ ∧ SixAt w bx ox ns) :
    Calls Try.prog 3 #[.agg #[.int .i64 x0, .int .i64 x1, .int .i64 x2, .int .i64 x3, .int .i64 x4], raw.val, .agg #[.slice A n cap, .int .i64 z, .bool fl], c.val, .slice As ns caps] w fun e w' => e = .returned (.bool true) ∧ Below w.heap.size w w' := by
  have hb63 : caps < 9223372036854775808 := by simp only [maxLen] at hcaps; omega
  have F0 : Hid (Fr [] w ((((w.alloc (.cells #[.int .i64 x0, .int .i64 x1, .int .i64 x2, .int .i64 x3, .int .i64 x4] 22)).alloc (.cells #[.int .i64 raw.kind, .int .i64 raw.table, .int .i64 raw.column, .int .i64 raw.low, .int .i64 raw.high, .int .i64 raw.by_, .int .i64 raw.other] 24)).alloc (.cells #[.slice A n cap, .int .i64 z, .bool fl] 27)).alloc (.cells #[.int .i64 c.t, .int .i64 c.k, .bool c.had, .int .i64 c.o0, .int .i64 c.o1, .int .i64 c.o2, .bool c.has, .int .i64 c.n0, .int .i64 c.n1, .int .i64 c.n2] 30))) := Lib.hid (((((Fr.refl [] w).alloc _).alloc _).alloc _).alloc _)
  have B5 : Hid (Five ((((w.alloc (.cells #[.int .i64 x0, .int .i64 x1, .int .i64 x2, .int .i64 x3, .int .i64 x4] 22)).alloc (.cells #[.int .i64 raw.kind, .int .i64 raw.table, .int .i64 raw.column, .int .i64 raw.low, .int .i64 raw.high, .int .i64 raw.by_, .int .i64 raw.other] 24)).alloc (.cells #[.slice A n cap, .int .i64 z, .bool fl] 27)).alloc (.cells #[.int .i64 c.t, .int .i64 c.k, .bool c.had, .int .i64 c.o0, .int .i64 c.o1, .int .i64 c.o2, .bool c.has, .int .i64 c.n0, .int .i64 c.n1, .int .i64 c.n2] 30)) w.heap.size x0 x1 x2 x3 x4) := Lib.hid (Blk.alloc (Blk.alloc (Blk.alloc (Blk.new w _ _) _) _) _)
  have hbq := Blk.new (w.alloc (.cells #[.int .i64 x0, .int .i64 x1, .int .i64 x2, .int .i64 x3, .int .i64 x4] 22)) 24 #[.int .i64 raw.kind, .int .i64 raw.table, .int .i64 raw.column, .int .i64 raw.low, .int .i64 raw.high, .int .i64 raw.by_, .int .i64 raw.other]
  rw [World.size_alloc] at hbq
  have BQ : Hid (QAt ((((w.alloc (.cells #[.int .i64 x0, .int .i64 x1, .int .i64 x2, .int .i64 x3, .int .i64 x4] 22)).alloc (.cells #[.int .i64 raw.kind, .int .i64 raw.table, .int .i64 raw.column, .int .i64 raw.low, .int .i64 raw.high, .int .i64 raw.by_, .int .i64 raw.other] 24)).alloc (.cells #[.slice A n cap, .int .i64 z, .bool fl] 27)).alloc (.cells #[.int .i64 c.t, .int .i64 c.k, .bool c.had, .int .i64 c.o0, .int .i64 c.o1, .int .i64 c.o2, .bool c.has, .int .i64 c.n0, .int .i64 c.n1, .int .i64 c.n2] 30)) (w.heap.size + 1) raw) := Lib.hid (Blk.alloc (Blk.alloc hbq _) _)
  have hbr := Blk.new ((w.alloc (.cells #[.int .i64 x0, .int .i64 x1, .int .i64 x2, .int .i64 x3, .int .i64 x4] 22)).alloc (.cells #[.int .i64 raw.kind, .int .i64 raw.table, .int .i64 raw.column, .int .i64 raw.low, .int .i64 raw.high, .int .i64 raw.by_, .int .i64 raw.other] 24)) 27 #[.slice A n cap, .int .i64 z, .bool fl]
  rw [World.size_alloc, World.size_alloc] at hbr
  have BR : Hid (Blk ((((w.alloc (.cells #[.int .i64 x0, .int .i64 x1, .int .i64 x2, .int .i64 x3, .int .i64 x4] 22)).alloc (.cells #[.int .i64 raw.kind, .int .i64 raw.table, .int .i64 raw.column, .int .i64 raw.low, .int .i64 raw.high, .int .i64 raw.by_, .int .i64 raw.other] 24)).alloc (.cells #[.slice A n cap, .int .i64 z, .bool fl] 27)).alloc (.cells #[.int .i64 c.t, .int .i64 c.k, .bool c.had, .int .i64 c.o0, .int .i64 c.o1, .int .i64 c.o2, .bool c.has, .int .i64 c.n0, .int .i64 c.n1, .int .i64 c.n2] 30)) (w.heap.size + 1 + 1) 27 #[.slice A n cap, .int .i64 z, .bool fl]) := Lib.hid (Blk.alloc hbr _)
  have hbc := Blk.new (((w.alloc (.cells #[.int .i64 x0, .int .i64 x1, .int .i64 x2, .int .i64 x3, .int .i64 x4] 22)).alloc (.cells #[.int .i64 raw.kind, .int .i64 raw.table, .int .i64 raw.column, .int .i64 raw.low, .int .i64 raw.high, .int .i64 raw.by_, .int .i64 raw.other] 24)).alloc (.cells #[.slice A n cap, .int .i64 z, .bool fl] 27)) 30 #[.int .i64 c.t, .int .i64 c.k, .bool c.had, .int .i64 c.o0, .int .i64 c.o1, .int .i64 c.o2, .bool c.has, .int .i64 c.n0, .int .i64 c.n1, .int .i64 c.n2]
  rw [World.size_alloc, World.size_alloc, World.size_alloc] at hbc
  have BC := Lib.hid hbc
  have HR := Lib.hid (hr.fr0 F0.out)
  have HL := Lib.hid hl
  have HN : Hid (n ≤ cap ∧ n ≤ 9223372036854775807) := Lib.hid ⟨hn, by unfold maxLen at hcap; omega⟩
  have HX := Lib.hid hx
  have HO := Lib.hid (And.intro o0 (And.intro o1 (And.intro o2 (And.intro o3 o4))))
  have HQF := Lib.hid hqf
  clear hbq hbr hbc hr hl hn hcap hx o0 o1 o2 o3 o4 hqf
  obtain ⟨k, HK⟩ : ∃ k : Nat, Hid (k = min n 20) := ⟨_, Lib.hid rfl⟩
  obtain ⟨m, HM⟩ : ∃ m : Int, Hid (m = min (max z (-1000000000000000000)) 1000000000000000000) := ⟨_, Lib.hid rfl⟩
  go_enter Try.func3, Try.ntmps3
  go_upto_region 2 with (go_at_call 7; refine (sane7 _).mono ?_; rintro e wa ⟨rfl, fa⟩; have FA := Lib.hid fa; clear fa)
  replace B5 := Lib.hid (B5.out.fr FA.out (by simp))
  replace BQ := Lib.hid (BQ.out.fr FA.out (by simp))
  replace BR := Lib.hid (BR.out.fr FA.out (by simp))
  replace BC := Lib.hid (BC.out.fr FA.out (by simp))
  replace HR := Lib.hid (HR.out.fr0 FA.out)
  replace F0 := Lib.hid (F0.out.trans FA.out)
  clear FA
  have hbr := BR.out
  have HNE := Lib.hid (near_any A n cap z fl wa HN.out.1 HN.out.2)
  rw [← HK.out, ← HM.out] at HNE
  go_upto_region 3 with (first
    | (refine wpList_load_row rfl _ _ rfl (w.heap.size + 1 + 1) rfl 27 _ (0, 0) _ hbr Try.underlying27 rfl (by kernel_rfl) ?_)
    | (go_at_call 8; refine HNE.out.mono ?_; rintro e wn ⟨rfl, fn⟩; have FN := Lib.hid fn; clear fn))
  clear hbr HNE BR
  have fn1 := FN.out.alloc (.cells #[.slice A k cap, .int .i64 m, .bool fl] 27)
  have RVN : Hid (RvAt (wn.alloc (.cells #[.slice A k cap, .int .i64 m, .bool fl] 27)) wn.heap.size A k cap ⟨L.take 20, m, fl⟩) := Lib.hid ⟨R7At.new wn _ _ _, (HR.out.fr0 fn1).take 20, by have := HK.out; have := HL.out; dsimp only; rw [List.length_take]; omega⟩
  have HKL : Hid (k ≤ 20) := Lib.hid (by have := HK.out; omega)
  have HMB : Hid (-1000000000000000000 ≤ m ∧ m ≤ 1000000000000000000) := Lib.hid (by have := HM.out; omega)
  replace B5 := Lib.hid (B5.out.fr fn1 (by simp))
  replace BQ := Lib.hid (BQ.out.fr fn1 (by simp))
  replace BC := Lib.hid (BC.out.fr fn1 (by simp))
  replace F0 := Lib.hid (F0.out.trans fn1)
  clear fn1 FN HR HK HL HM HN
  obtain ⟨N, HNN⟩ : ∃ N : Res, Hid (N = ⟨L.take 20, m, fl⟩) := ⟨_, Lib.hid rfl⟩
  rw [← HNN.out] at RVN
  have HNB : Hid (-1000000000000000000 ≤ N.value ∧ N.value ≤ 1000000000000000000) := Lib.hid (by rw [HNN.out]; exact HMB.out)
  have hnv : m = N.value := by rw [HNN.out]
  have hnf : fl = N.found := by rw [HNN.out]
  clear HNN HMB
  generalize hw3 : wn.alloc (.cells #[.slice A k cap, .int .i64 m, .bool fl] 27) = wa at *
  clear hw3 hnv hnf
  generalize wn.heap.size = gn at *
  have HLG := Lib.hid (fun (mN : Nat) (h1 : mN ≤ 12) (h2 : mN ≤ ns) => log_any As mN caps wa (by omega) (by
    rcases HX.out with h0 | ⟨bx, ox, h1', h2'⟩
    · exact .inl (by omega)
    · exact .inr ⟨bx, ox, h1', (h2'.le h2).fr0 F0.out⟩))
  go_cut [13] (fun v wn => ∃ (A2 : Option Addr) (n2 c2 : Nat) (l : List Rec), v = .slice A2 n2 c2 ∧ n2 ≤ 12 ∧ Hid (OwnR wn (.slice A2 n2 c2) l) ∧ Hid (Lg.Ok l) ∧ Hid (n2 = l.length) ∧ Hid (Fr [] wa wn))
  case first =>
    go_wp2_with fail
    all_goals
      first
        | (with_reducible refine (HLG.out 12 (by omega) (by omega)).mono ?_)
        | (with_reducible refine (HLG.out ns (by omega) (by omega)).mono ?_)
      rintro e w2 ⟨vl, l, rfl, hor, hok, hll, f2, hvo⟩
      obtain ⟨A2, n2, c2, hv⟩ : ∃ A n c, vl = .slice A n c := by
        obtain ⟨us, hus, _⟩ := hor
        obtain ⟨A2, cap2, hv⟩ := hus.val
        exact ⟨_, _, _, hv⟩
      subst hv
      have hn2 := hor.recs.2
      have HOR := Lib.hid hor
      have HOK := Lib.hid hok
      have HN2 := Lib.hid hn2
      have F2 := Lib.hid f2
      have hn12 : n2 ≤ 12 := by omega
      clear hor hok hn2 f2 hvo hll
      go_wp2_with fail
      go_meet
      exact ⟨A2, n2, c2, l, rfl, hn12, HOR, HOK, HN2, F2⟩
  case rest =>
  clear HLG
  obtain ⟨A2, n2, c2, l, rfl, hnM, HROW, HOK, HN2, F2⟩ := hcut
  obtain ⟨wo, hwo⟩ : ∃ x, x = wc := ⟨_, rfl⟩
  subst hwo
  have AT : Hid (MrAt wo w.heap.size (w.heap.size + 1) gn x0 x1 x2 x3 x4 raw A k cap N A2 n2 c2 l) := Lib.hid ⟨B5.out.fr F2.out (by simp), BQ.out.fr F2.out (by simp), RVN.out.fr0 F2.out, HROW.out⟩
  replace BC := Lib.hid (BC.out.fr F2.out (by simp))
  replace F0 := Lib.hid (F0.out.trans F2.out)
  clear HROW F2 B5 BQ RVN HX HOK
  have HL8 : Hid (∀ r ∈ l, r.cs.length ≤ 8) := Lib.hid (fun r hr => by
    obtain ⟨i, hi, rfl⟩ := List.getElem_of_mem hr
    obtain ⟨_, _, _, _, _, _, _, _, _, h8⟩ := AT.out.row.recs.1.open_ hi
    exact h8)
  have HFL : Hid (∀ i, ((l.take i).flatMap (·.cs)).length ≤ 100) := Lib.hid (fun i => by
    have h1 := flat_le8 (l.take i) (fun r hr => HL8.out r (List.mem_of_mem_take hr))
    rw [List.length_take] at h1
    have := HN2.out
    omega)
  obtain ⟨i0, TR⟩ := etChg
  have hc := BC.out
  go_upto_region 5 with (refine wpList_load_row rfl _ _ rfl (w.heap.size + 1 + 1 + 1) rfl 30 _ (0, 0) _ hc Try.underlying30 rfl (by kernel_rfl) ?_)
  clear hc BC
  have HV0 : Hid (OwnL 30 10 Chg.cells (wo.alloc (.cells #[.int .i64 c.t, .int .i64 c.k, .bool c.had, .int .i64 c.o0, .int .i64 c.o1, .int .i64 c.o2, .bool c.has, .int .i64 c.n0, .int .i64 c.n1, .int .i64 c.n2] 30)) (.slice (some ⟨wo.heap.size, 0, none⟩) 1 1) (c :: (l.take 0).flatMap (·.cs))) := Lib.hid (own_new wo c Chg.len)
  have FV0 : Hid (Fr [] wo (wo.alloc (.cells #[.int .i64 c.t, .int .i64 c.k, .bool c.had, .int .i64 c.o0, .int .i64 c.o1, .int .i64 c.o2, .bool c.has, .int .i64 c.n0, .int .i64 c.n1, .int .i64 c.n2] 30))) := Lib.hid ((Fr.refl _ _).alloc _)
  generalize hw5 : wo.alloc (.cells #[.int .i64 c.t, .int .i64 c.k, .bool c.had, .int .i64 c.o0, .int .i64 c.o1, .int .i64 c.o2, .bool c.has, .int .i64 c.n0, .int .i64 c.n1, .int .i64 c.n2] 30) = w5 at *
  clear hw5
  have HG0 : Hid (∀ g, (Value.slice (some ⟨wo.heap.size, 0, none⟩) 1 1).ownBlock = some g → wo.heap.size ≤ g) := Lib.hid (fun g hg => Nat.le_of_eq (Option.some.inj hg))
  go_wp2_with fail
  go_loopw [14, 15] (fun i14 i15 wr => ∃ (i : Nat) (Av : Option Addr) (nv cv : Nat), i14 = .slice Av nv cv ∧ i15 = .int .i64 i ∧ i ≤ n2 ∧ Hid (OwnL 30 10 Chg.cells wr (.slice Av nv cv) (c :: (l.take i).flatMap (·.cs))) ∧ Hid (Fr [] wo wr) ∧ Hid (∀ g, (Value.slice Av nv cv).ownBlock = some g → wo.heap.size ≤ g)) (fun _ i15 _ => n2 - (intOf i15).toNat)
  case atStart => exact ⟨0, _, _, _, rfl, rfl, Nat.zero_le _, HV0, FV0, HG0⟩
  case round =>
    clear HV0 FV0 HG0
    obtain ⟨i, Av, nv, cv, rfl, rfl, hi, HV, FV, HG⟩ := hrel
    by_cases hlt : i < n2
    · have hil : i < l.length := by rw [← HN2.out]; exact hlt
      obtain ⟨bb, off, Ak, ck, hA, hbb, hc0, hc1, hhc, hl8⟩ := (AT.out.fr0 FV.out).row.recs.1.open_ hil
      subst hA
      have HTK : Hid (c :: (l.take (i + 1)).flatMap (·.cs) = (c :: (l.take i).flatMap (·.cs)) ++ l[i].cs) := Lib.hid (by rw [List.take_succ_eq_append_getElem hil, List.flatMap_append]; simp)
      obtain ⟨r, HRR⟩ : ∃ r, Hid (l[i] = r) := ⟨_, Lib.hid rfl⟩
      rw [HRR.out] at hc1 hhc hl8 HTK
      obtain ⟨nk, hnk⟩ : ∃ n, n = r.cs.length := ⟨_, rfl⟩
      rw [← hnk] at hc1 hl8
      have HNK := Lib.hid hnk
      have HRD := Lib.hid (reads_of_at Chg.len (by decide) hhc.1)
      rw [← HNK.out] at HRD
      have HLB : Hid ((c :: (l.take i).flatMap (·.cs)).length + r.cs.length ≤ 200) := Lib.hid (by have := HFL.out i; rw [List.length_cons, ← HNK.out]; omega)
      clear hc0 hhc hl8 hnk hbb
      go_wp2_with (at_builtin; refine wpList_appendL rfl _ _ rfl TR Chg.len Chg.one rfl HV.out _ _ _ _ r.cs rfl HNK.out HRD.out (Nat.le_trans HLB.out (by decide)) (Nat.le_trans (Nat.mul_le_mul_right 80 HLB.out) (by decide)) ?_; intro v5 w5 hrow5 hg5 hat5; have HR5 := Lib.hid hrow5; have HG5 := Lib.hid hg5; have HA5 := Lib.hid hat5; obtain ⟨A5, n5, cap5, hv5⟩ : ∃ A n c, v5 = .slice A n c := (match hrow5.val with | ⟨_, _, hv⟩ => ⟨_, _, _, hv⟩); subst hv5; clear hrow5 hg5 hat5)
      have HV2 : Hid (OwnL 30 10 Chg.cells w5 (.slice A5 n5 cap5) (c :: (l.take (i + 1)).flatMap (·.cs))) := Lib.hid (by rw [HTK.out]; exact HR5.out)
      have FV2 : Hid (Fr [] wo w5) := Lib.hid (FV.out.grown HG5.out (fun g hg => .inr (HG.out g hg)))
      have HG2 : Hid (∀ g, (Value.slice A5 n5 cap5).ownBlock = some g → wo.heap.size ≤ g) := Lib.hid (fun g hg => by
        rcases HA5.out with h1 | h1
        · exact HG.out g (h1 ▸ hg)
        · rw [h1] at hg
          injection hg with hg
          have := FV.out.size
          omega)
      go_roundw
      case rel => exact ⟨i + 1, A5, n5, cap5, rfl, by go_num, by omega, HV2, FV2, HG2⟩
      case measure => simp [intOf]; omega
    · have hle : l.take i = l := List.take_of_length_le (by have := HN2.out; omega)
      rw [hle] at HV
      have HCB : Hid ((c :: l.flatMap (·.cs)).length ≤ 200) := Lib.hid (by have := HFL.out l.length; rw [List.take_length] at this; rw [List.length_cons]; omega)
      obtain ⟨CL, HCL⟩ : ∃ x, Hid (c :: l.flatMap (·.cs) = x) := ⟨_, Lib.hid rfl⟩
      have HCP : Hid (0 < CL.length) := Lib.hid (by rw [← HCL.out]; simp)
      rw [HCL.out] at HV HCB
      clear HCL hle HL8 HFL
      replace AT := Lib.hid (AT.out.fr0 FV.out)
      replace F0 := Lib.hid (F0.out.trans FV.out)
      obtain ⟨gv, cv', hv, -, -, hgv, hcell, -⟩ := HV.out.form Chg.len HCP.out
      cases hv
      have HVC := Lib.hid hcell
      have HGV := Lib.hid hgv
      have hnv : CL.length ≤ 200 := HCB.out
      clear hcell hgv FV HG HV HCP
      obtain ⟨we, hwe⟩ : ∃ x, x = wr := ⟨_, rfl⟩
      subst hwe
      have HQC := Lib.hid (fun W => query_any x0 x1 x2 x3 x4 W HO.out.1 HO.out.2.1 HO.out.2.2.1 HO.out.2.2.2.1 HO.out.2.2.2.2)
      go_upto_region 9 with (fail)
      have HSW : Hid (∀ W, Fr [] we W → W.cell? ⟨w.heap.size, 0, none⟩ = some (.int .i64 x0) ∧ W.cell? ⟨w.heap.size, 1, none⟩ = some (.int .i64 x1) ∧ W.cell? ⟨w.heap.size, 2, none⟩ = some (.int .i64 x2) ∧ W.cell? ⟨w.heap.size, 3, none⟩ = some (.int .i64 x3) ∧ W.cell? ⟨w.heap.size, 4, none⟩ = some (.int .i64 x4) ∧ W.cell? ⟨w.heap.size + 1, 0, none⟩ = some (.int .i64 raw.kind) ∧ W.cell? ⟨w.heap.size + 1, 1, none⟩ = some (.int .i64 raw.table) ∧ W.cell? ⟨w.heap.size + 1, 2, none⟩ = some (.int .i64 raw.column) ∧ W.cell? ⟨w.heap.size + 1, 3, none⟩ = some (.int .i64 raw.low) ∧ W.cell? ⟨w.heap.size + 1, 4, none⟩ = some (.int .i64 raw.high) ∧ W.cell? ⟨w.heap.size + 1, 5, none⟩ = some (.int .i64 raw.by_) ∧ W.cell? ⟨w.heap.size + 1, 6, none⟩ = some (.int .i64 raw.other)) := Lib.hid (fun W hf => ⟨(AT.out.fr0 hf).five.cells.1, (AT.out.fr0 hf).five.cells.2.1, (AT.out.fr0 hf).five.cells.2.2.1, (AT.out.fr0 hf).five.cells.2.2.2.1, (AT.out.fr0 hf).five.cells.2.2.2.2, (AT.out.fr0 hf).raw.c0, (AT.out.fr0 hf).raw.c1, (AT.out.fr0 hf).raw.c2, (AT.out.fr0 hf).raw.c3, (AT.out.fr0 hf).raw.c4, (AT.out.fr0 hf).raw.c5, (AT.out.fr0 hf).raw.c6⟩)
      have HALL : Hid (∀ (q1 : Qry) (wz : World), Fr [] we wz → Fr [] we (wz.alloc (.cells #[.int .i64 q1.kind, .int .i64 q1.table, .int .i64 q1.column, .int .i64 q1.low, .int .i64 q1.high, .int .i64 q1.by_, .int .i64 q1.other, .int .i64 raw.kind, .int .i64 raw.table, .int .i64 raw.column, .int .i64 raw.low, .int .i64 raw.high, .int .i64 raw.by_, .int .i64 raw.other] 24)) ∧ AtL qcells 7 (wz.alloc (.cells #[.int .i64 q1.kind, .int .i64 q1.table, .int .i64 q1.column, .int .i64 q1.low, .int .i64 q1.high, .int .i64 q1.by_, .int .i64 q1.other, .int .i64 raw.kind, .int .i64 raw.table, .int .i64 raw.column, .int .i64 raw.low, .int .i64 raw.high, .int .i64 raw.by_, .int .i64 raw.other] 24)) (some ⟨wz.heap.size, 0, none⟩) [q1, raw]) := Lib.hid (fun q1 wz hf => ⟨hf.alloc _, AtL.of_blk (L := [q1, raw]) qcells_len (Blk.new wz 24 #[.int .i64 q1.kind, .int .i64 q1.table, .int .i64 q1.column, .int .i64 q1.low, .int .i64 q1.high, .int .i64 q1.by_, .int .i64 q1.other, .int .i64 raw.kind, .int .i64 raw.table, .int .i64 raw.column, .int .i64 raw.low, .int .i64 raw.high, .int .i64 raw.by_, .int .i64 raw.other]) (by simp [qcells])⟩)
      go_cut [50, 51, 52] (fun v0 v1 v2 wn => ∃ (q1 : Qry) (gl : Nat), v0 = .slice (some ⟨gl, 0, none⟩) 2 2 ∧ v1 = .int .i64 2 ∧ v2 = .int .i64 0 ∧ Hid (QrOk q1) ∧ Hid (AtL qcells 7 wn (some ⟨gl, 0, none⟩) [q1, raw]) ∧ Hid (Fr [] we wn))
      case first =>
        have s0 := HSW.out _ (Fr.refl [] we)
        go_region_held3 (fun W => W.cell? ⟨w.heap.size, 0, none⟩ = some (.int .i64 x0) ∧ W.cell? ⟨w.heap.size, 1, none⟩ = some (.int .i64 x1) ∧ W.cell? ⟨w.heap.size, 2, none⟩ = some (.int .i64 x2) ∧ W.cell? ⟨w.heap.size, 3, none⟩ = some (.int .i64 x3) ∧ W.cell? ⟨w.heap.size, 4, none⟩ = some (.int .i64 x4) ∧ W.cell? ⟨w.heap.size + 1, 0, none⟩ = some (.int .i64 raw.kind) ∧ W.cell? ⟨w.heap.size + 1, 1, none⟩ = some (.int .i64 raw.table) ∧ W.cell? ⟨w.heap.size + 1, 2, none⟩ = some (.int .i64 raw.column) ∧ W.cell? ⟨w.heap.size + 1, 3, none⟩ = some (.int .i64 raw.low) ∧ W.cell? ⟨w.heap.size + 1, 4, none⟩ = some (.int .i64 raw.high) ∧ W.cell? ⟨w.heap.size + 1, 5, none⟩ = some (.int .i64 raw.by_) ∧ W.cell? ⟨w.heap.size + 1, 6, none⟩ = some (.int .i64 raw.other)) (first | exact HSW.out _ (Fr.refl [] we).drew | exact HSW.out _ FZ.out | exact HSW.out _ (FZ.out.alloc _) | go_keep)
          ((go_at_call 10; refine (HQC.out _).mono ?_; rintro e wz ⟨q1, rfl, hq1, fz⟩; have HQ1 := Lib.hid hq1; have FZ : Hid (Fr [] we wz) := Lib.hid ((Fr.refl [] we).drew.trans fz); clear hq1 fz))
        all_goals
          go_wp2_with fail
          go_meet
          exact ⟨q1, _, rfl, rfl, rfl, HQ1, Lib.hid (HALL.out q1 wz FZ.out).2, Lib.hid (HALL.out q1 wz FZ.out).1⟩
      case rest =>
      clear HSW HQC HALL
      obtain ⟨q1, gl, rfl, rfl, rfl, HQ1, HQL, FL⟩ := hcut
      obtain ⟨wl, hwl⟩ : ∃ x, x = wc := ⟨_, rfl⟩
      subst hwl
      replace AT := Lib.hid (AT.out.fr0 FL.out)
      replace F0 := Lib.hid (F0.out.trans FL.out)
      have HCK0 : Hid (∀ W, Fr [] wl W → ∀ i (h : i < CL.length), ∀ j, j < 10 → W.cell? ⟨gv, i * 10 + j, none⟩ = (Chg.cells CL[i])[j]?) := Lib.hid (fun W hf i h j hj => ((FL.out.trans hf).rules.1 gv _ HGV.out).trans (HVC.out i h j hj))
      have HKQ : Hid (∀ q ∈ [q1, raw], okI q.kind) := Lib.hid (fun q hq => by
        rcases List.mem_cons.1 hq with rfl | hq
        · exact okI_mk (by have := HQ1.out.k; omega) (by have := HQ1.out.k; omega)
        · rw [List.mem_singleton] at hq
          subst hq
          exact HQF.out.k)
      obtain ⟨QL, HQLE⟩ : ∃ x, Hid ([q1, raw] = x) := ⟨_, Lib.hid rfl⟩
      have HQN : Hid (QL.length = 2) := Lib.hid (by rw [← HQLE.out]; rfl)
      rw [HQLE.out] at HQL HKQ
      clear HQLE HQ1 HQF FL HGV HVC HO
      go_wp2_with fail
      go_loopw [52] (fun vt wr => ∃ t : Nat, vt = .int .i64 t ∧ t ≤ 2 ∧ Hid (Fr [] wl wr)) (fun vt _ => 2 - (intOf vt).toNat)
      case atStart => exact ⟨0, rfl, by omega, Lib.hid (Fr.refl _ _)⟩
      case round =>
        obtain ⟨t, rfl, ht, FR⟩ := hrel
        by_cases hlt2 : t < 2
        · have htq : t < QL.length := by rw [HQN.out]; exact hlt2
          have hgl := HQL.out (by omega)
          obtain ⟨bq, oq, hA, hbq, hcq⟩ := hgl
          cases hA
          have HCQ : Hid (∀ j, j < 7 → wr.cell? ⟨gl, t * 7 + j, none⟩ = (qcells QL[t])[j]?) := Lib.hid (fun j hj => by
            have h1 := hcq t htq j hj
            rw [Nat.zero_add] at h1
            exact (FR.out.rules.1 gl _ hbq).trans h1)
          have HOKQ := Lib.hid (HKQ.out QL[t] (List.getElem_mem htq))
          clear hcq hbq
          generalize QL[t] = q at *
          clear htq
          have c0 : wr.cell? ⟨gl, t * 7, none⟩ = some (.int .i64 q.kind) := HCQ.out 0 (by decide)
          have c1 : wr.cell? ⟨gl, t * 7 + 1, none⟩ = some (.int .i64 q.table) := HCQ.out 1 (by decide)
          have c2 : wr.cell? ⟨gl, t * 7 + 2, none⟩ = some (.int .i64 q.column) := HCQ.out 2 (by decide)
          have c3 : wr.cell? ⟨gl, t * 7 + 3, none⟩ = some (.int .i64 q.low) := HCQ.out 3 (by decide)
          have c4 : wr.cell? ⟨gl, t * 7 + 4, none⟩ = some (.int .i64 q.high) := HCQ.out 4 (by decide)
          have c5 : wr.cell? ⟨gl, t * 7 + 5, none⟩ = some (.int .i64 q.by_) := HCQ.out 5 (by decide)
          have c6 : wr.cell? ⟨gl, t * 7 + 6, none⟩ = some (.int .i64 q.other) := HCQ.out 6 (by decide)
          go_upto_region 12 with (fail)
          have hd2 : decide ((t : Int) < 2) = true := decide_eq_true (by omega)
          rw [hd2]
          clear hd2
          clear c0 c1 c2 c3 c4 c5 c6 HCQ
          have HQB := Lib.hid (QAt.new wr q)
          have FM := Lib.hid (FR.out.alloc (.cells #[.int .i64 q.kind, .int .i64 q.table, .int .i64 q.column, .int .i64 q.low, .int .i64 q.high, .int .i64 q.by_, .int .i64 q.other] 24))
          generalize hwm : wr.alloc (.cells #[.int .i64 q.kind, .int .i64 q.table, .int .i64 q.column, .int .i64 q.low, .int .i64 q.high, .int .i64 q.by_, .int .i64 q.other] 24) = wm at *
          clear hwm FR
          generalize wr.heap.size = gy at *
          go_wp2_with fail
          go_loopw [18] (fun vi wr => ∃ i : Nat, vi = .int .i64 i ∧ i ≤ CL.length ∧ Hid (Fr [] wm wr)) (fun vi _ => CL.length - (intOf vi).toNat)
          case atStart => exact ⟨0, rfl, Nat.zero_le _, Lib.hid (Fr.refl _ _)⟩
          case round =>
            obtain ⟨i, rfl, hi, FR⟩ := hrel
            by_cases hlt3 : i < CL.length
            · have HCK : Hid (∀ W, Fr [] wr W → ∀ j, j < 10 → W.cell? ⟨gv, i * 10 + j, none⟩ = (Chg.cells CL[i])[j]?) := Lib.hid (fun W hf => HCK0.out W (FM.out.trans (FR.out.trans hf)) i hlt3)
              have RVN := Lib.hid ((AT.out.fr0 (FM.out.trans FR.out)).n)
              have HQW := Lib.hid (HQB.out.fr FR.out (by simp))
              obtain ⟨ch, HCH⟩ : ∃ x, Hid (CL[i] = x) := ⟨_, Lib.hid rfl⟩
              rw [HCH.out] at HCK
              clear HCH
              go_upto_region 15 with (fail)
              have HSW : Hid (∀ W, Fr [] wr W → Blk W gy 24 #[.int .i64 q.kind, .int .i64 q.table, .int .i64 q.column, .int .i64 q.low, .int .i64 q.high, .int .i64 q.by_, .int .i64 q.other] ∧ Blk W gn 27 #[.slice A k cap, .int .i64 N.value, .bool N.found] ∧ W.cell? ⟨gv, i * 10, none⟩ = some (.int .i64 ch.t) ∧ W.cell? ⟨gv, i * 10 + 1, none⟩ = some (.int .i64 ch.k) ∧ W.cell? ⟨gv, i * 10 + 2, none⟩ = some (.bool ch.had) ∧ W.cell? ⟨gv, i * 10 + 3, none⟩ = some (.int .i64 ch.o0) ∧ W.cell? ⟨gv, i * 10 + 4, none⟩ = some (.int .i64 ch.o1) ∧ W.cell? ⟨gv, i * 10 + 5, none⟩ = some (.int .i64 ch.o2) ∧ W.cell? ⟨gv, i * 10 + 6, none⟩ = some (.bool ch.has) ∧ W.cell? ⟨gv, i * 10 + 7, none⟩ = some (.int .i64 ch.n0) ∧ W.cell? ⟨gv, i * 10 + 8, none⟩ = some (.int .i64 ch.n1) ∧ W.cell? ⟨gv, i * 10 + 9, none⟩ = some (.int .i64 ch.n2)) := Lib.hid (fun w' hf => ⟨(HQW.out.fr hf (by simp)), (RVN.out.fr0 hf).blk, HCK.out w' hf 0 (by decide), HCK.out w' hf 1 (by decide), HCK.out w' hf 2 (by decide), HCK.out w' hf 3 (by decide), HCK.out w' hf 4 (by decide), HCK.out w' hf 5 (by decide), HCK.out w' hf 6 (by decide), HCK.out w' hf 7 (by decide), HCK.out w' hf 8 (by decide), HCK.out w' hf 9 (by decide)⟩)
              have HAR : Hid (∀ w1, Fr [] wr w1 → Calls Try.prog 11 #[q.val, .agg #[.slice A k cap, .int .i64 N.value, .bool N.found], ch.val] w1 fun e w' => (∃ (r' : Res) (A' : Option Addr) (n' c' : Nat) (kz : Bool), e = .returned (.tuple #[.agg #[.slice A' n' c', .int .i64 r'.value, .bool r'.found], .bool kz]) ∧ ApAt w1 w' ((Pm.patch q N ch).map fun x => (x, true)) A' n' r' true kz (k + 2)) ∧ Fr [] wr w') := Lib.hid (fun w1 hf => (patch_rv HOKQ.out (RVN.out.fr0 hf) (by have := HKL.out; omega) (by have := HNB.out; omega)).mono (fun e w' h => ⟨h, by obtain ⟨_, _, _, _, _, _, hap⟩ := h; exact hf.trans hap.fr⟩))
              have s0 := HSW.out _ (Fr.refl [] _)
              go_cut [19, 20] (fun vp vk wn => ∃ (gg : Nat) (Rg : Res) (Ag : Option Addr) (ng cg : Nat) (kg : Bool), vp = .pointer (some ⟨gg, 0, none⟩) ∧ vk = .bool kg ∧ Hid (AOut ((Pm.patch q N ch).map fun x => (x, true)) Rg true kg) ∧ Hid (RvAt wn gg Ag ng cg Rg) ∧ Hid (ng ≤ k + 2) ∧ Hid (Fr [] wr wn) ∧ Hid (wr.heap.size ≤ gg))
              case first =>
                refine wp_region_head (fun W => Blk W gy 24 #[.int .i64 q.kind, .int .i64 q.table, .int .i64 q.column, .int .i64 q.low, .int .i64 q.high, .int .i64 q.by_, .int .i64 q.other] ∧ Blk W gn 27 #[.slice A k cap, .int .i64 N.value, .bool N.found] ∧ W.cell? ⟨gv, i * 10, none⟩ = some (.int .i64 ch.t) ∧ W.cell? ⟨gv, i * 10 + 1, none⟩ = some (.int .i64 ch.k) ∧ W.cell? ⟨gv, i * 10 + 2, none⟩ = some (.bool ch.had) ∧ W.cell? ⟨gv, i * 10 + 3, none⟩ = some (.int .i64 ch.o0) ∧ W.cell? ⟨gv, i * 10 + 4, none⟩ = some (.int .i64 ch.o1) ∧ W.cell? ⟨gv, i * 10 + 5, none⟩ = some (.int .i64 ch.o2) ∧ W.cell? ⟨gv, i * 10 + 6, none⟩ = some (.bool ch.has) ∧ W.cell? ⟨gv, i * 10 + 7, none⟩ = some (.int .i64 ch.n0) ∧ W.cell? ⟨gv, i * 10 + 8, none⟩ = some (.int .i64 ch.n1) ∧ W.cell? ⟨gv, i * 10 + 9, none⟩ = some (.int .i64 ch.n2)) 12 (by kernel_rfl) (by kernel_rfl) (HSW.out _ (Fr.refl [] wr).drew) (fun hHeld => ?_)
                refine wpHead_take (i := 0) (oi := ⟨some 63, _, _, _, _, _⟩) (v := .agg (#[.int .i64 q.kind, .int .i64 q.table, .int .i64 q.column, .int .i64 q.low, .int .i64 q.high, .int .i64 q.by_, .int .i64 q.other])) rfl (by kernel_rfl) (fun _ _ _ h => h) (yieldsIf_load_blk (by rfl) _ _ rfl gy rfl 24 (#[.int .i64 q.kind, .int .i64 q.table, .int .i64 q.column, .int .i64 q.low, .int .i64 q.high, .int .i64 q.by_, .int .i64 q.other]) _ (fun _ h => h.1) Try.underlying24 rfl (by kernel_rfl)) hHeld ?_
                try simp only [Act.put, List.setIfInBounds_toArray, List.set_cons_zero, List.set_cons_succ]
                refine wpHead_take (i := 1) (oi := ⟨some 64, _, _, _, _, _⟩) (v := .agg (#[.slice A k cap, .int .i64 N.value, .bool N.found])) rfl (by kernel_rfl) (fun _ _ _ h => h) (yieldsIf_load_blk (by rfl) _ _ rfl gn rfl 27 (#[.slice A k cap, .int .i64 N.value, .bool N.found]) _ (fun _ h => h.2.1) Try.underlying27 rfl (by kernel_rfl)) hHeld ?_
                try simp only [Act.put, List.setIfInBounds_toArray, List.set_cons_zero, List.set_cons_succ]
                refine wpHead_take (i := 2) (oi := ⟨some 65, _, _, _, _, _⟩) (v := ?_) rfl (by kernel_rfl) (fun _ _ _ h => h) (Or.inl ⟨by rfl, ?_⟩) hHeld ?_
                rotate_left
                · (intro w hSw; (try dsimp only at hSw); go_simp; try with_reducible rfl)
                try simp only [Act.put, List.setIfInBounds_toArray, List.set_cons_zero, List.set_cons_succ]
                refine wpHead_take (i := 3) (oi := ⟨some 66, _, _, _, _, _⟩) (v := ?_) rfl (by kernel_rfl) (fun _ _ _ h => h) (Or.inl ⟨by rfl, ?_⟩) hHeld ?_
                rotate_left
                · (intro w hSw; (try dsimp only at hSw); go_simp; try with_reducible rfl)
                try simp only [Act.put, List.setIfInBounds_toArray, List.set_cons_zero, List.set_cons_succ]
                refine wpHead_take (i := 4) (oi := ⟨some 67, _, _, _, _, _⟩) (v := ?_) rfl (by kernel_rfl) (fun _ _ _ h => h) (Or.inl ⟨by rfl, ?_⟩) hHeld ?_
                rotate_left
                · (intro w hSw; (try dsimp only at hSw); go_simp; try with_reducible rfl)
                try simp only [Act.put, List.setIfInBounds_toArray, List.set_cons_zero, List.set_cons_succ]
                refine wpHead_take (i := 5) (oi := ⟨some 68, _, _, _, _, _⟩) (v := ?_) rfl (by kernel_rfl) (fun _ _ _ h => h) (Or.inl ⟨by rfl, ?_⟩) hHeld ?_
                rotate_left
                · (intro w hSw; (try dsimp only at hSw); go_simp; try with_reducible rfl)
                try simp only [Act.put, List.setIfInBounds_toArray, List.set_cons_zero, List.set_cons_succ]
                refine wpHead_two (i := 6) (j := 10) (oi := ⟨some 69, _, _, _, _, _⟩) (oj := ⟨some 19, _, _, _, _, _⟩) rfl rfl (by kernel_rfl) (by decide) (by decide) ?_ ?_
                · refine fun K hK => ?_
                  go_simp
                  refine (HAR.out _ (Fr.refl [] wr).drew).mono ?_
                  rintro e wz ⟨⟨Rg, Ag, ng, cg, kg, rfl, hap⟩, hfz⟩
                  have AP := Lib.hid hap
                  have FZ := Lib.hid hfz
                  refine hK.out _ _ ?_ (fun hHeld => ?_)
                  · exact HSW.out _ FZ.out
                  clear hK K
                  try simp only [Act.put, List.setIfInBounds_toArray, List.set_cons_zero, List.set_cons_succ]
                  clear hap hfz
                  refine wpHead_take (i := 7) (oi := ⟨some 62, _, _, _, _, _⟩) (v := ?_) rfl (by kernel_rfl) (fun _ _ _ h => h) (Or.inl ⟨by rfl, ?_⟩) hHeld ?_
                  rotate_left
                  · (intro w hSw; (try dsimp only at hSw); go_simp; try with_reducible rfl)
                  try simp only [Act.put, List.setIfInBounds_toArray, List.set_cons_zero, List.set_cons_succ]
                  refine wpHead_take (i := 8) (oi := ⟨some 70, _, _, _, _, _⟩) (v := ?_) rfl (by kernel_rfl) (fun _ _ _ h => h) (Or.inl ⟨by rfl, ?_⟩) hHeld ?_
                  rotate_left
                  · (intro w hSw; (try dsimp only at hSw); go_simp; try with_reducible rfl)
                  try simp only [Act.put, List.setIfInBounds_toArray, List.set_cons_zero, List.set_cons_succ]
                  refine wpHead_take (i := 9) (oi := ⟨some 71, _, _, _, _, _⟩) (v := ?_) rfl (by kernel_rfl) (fun _ _ _ h => h) (Or.inl ⟨by rfl, ?_⟩) hHeld ?_
                  rotate_left
                  · (intro w hSw; (try dsimp only at hSw); go_simp; try with_reducible rfl)
                  try simp only [Act.put, List.setIfInBounds_toArray, List.set_cons_zero, List.set_cons_succ]
                  refine wpHead_one (i := 10) (o := ⟨some 19, _, _, _, _, _⟩) rfl (by kernel_rfl) (by decide) (fun K hK => ?_)
                  go_simp
                  skip
                  refine hK.out _ _ ?_ (fun hHeld => ?_)
                  · exact HSW.out _ (FZ.out.alloc _)
                  clear hK K
                  try simp only [Act.put, List.setIfInBounds_toArray, List.set_cons_zero, List.set_cons_succ]
                  refine wpHead_one (i := 11) (o := ⟨none, _, _, _, _, _⟩) rfl (by kernel_rfl) (by decide) (fun K hK => ?_)
                  go_simp
                  skip
                  refine hK.out _ _ ?_ (fun hHeld => ?_)
                  · exact HSW.out _ (FZ.out.alloc _)
                  clear hK K
                  try simp only [Act.put, List.setIfInBounds_toArray, List.set_cons_zero, List.set_cons_succ]
                  refine wpHead_done (by kernel_rfl) ?_
                  simp only [List.drop_succ_cons, List.drop_zero]
                  go_wp2_with fail
                  go_meet
                  exact ⟨wz.heap.size, Rg, Ag, ng, cg, kg, rfl, rfl, Lib.hid AP.out.out, Lib.hid (RvAt.ofA AP.out), Lib.hid AP.out.le, Lib.hid (FZ.out.alloc _), Lib.hid FZ.out.size⟩

                · refine fun K hK => ?_
                  go_simp
                  skip
                  refine hK.out _ _ ?_ (fun hHeld => ?_)
                  · exact HSW.out _ ((Fr.refl [] wr).drew.alloc _)
                  clear hK K
                  try simp only [Act.put, List.setIfInBounds_toArray, List.set_cons_zero, List.set_cons_succ]
                  refine wpHead_one (i := 6) (o := ⟨some 69, _, _, _, _, _⟩) rfl (by kernel_rfl) (by decide) (fun K hK => ?_)
                  go_simp
                  refine (HAR.out _ ((Fr.refl [] wr).drew.alloc _)).mono ?_
                  rintro e wz ⟨⟨Rg, Ag, ng, cg, kg, rfl, hap⟩, hfz⟩
                  have AP := Lib.hid hap
                  have FZ := Lib.hid hfz
                  have hbz := Blk.fr (w := _) (g := wr.heap.size) (t := 27) (cs := #[.slice none 0 0, .int .i64 0, .bool false]) (Blk.new wr.drew _ _) hap.fr (by simp)
                  have z0 := hbz.frozen 0
                  have z1 := hbz.frozen 1
                  have z2 := hbz.frozen 2
                  have u0 := hbz.cell 0
                  have u1 := hbz.cell 1
                  have u2 := hbz.cell 2
                  have HBZ := Lib.hid hbz
                  clear hbz hap hfz
                  refine hK.out _ _ ?_ (fun hHeld => ?_)
                  · exact HSW.out _ FZ.out
                  clear hK K
                  try simp only [Act.put, List.setIfInBounds_toArray, List.set_cons_zero, List.set_cons_succ]
                  refine wpHead_take (i := 7) (oi := ⟨some 62, _, _, _, _, _⟩) (v := ?_) rfl (by kernel_rfl) (fun _ _ _ h => h) (Or.inl ⟨by rfl, ?_⟩) hHeld ?_
                  rotate_left
                  · (intro w hSw; (try dsimp only at hSw); go_simp; try with_reducible rfl)
                  try simp only [Act.put, List.setIfInBounds_toArray, List.set_cons_zero, List.set_cons_succ]
                  refine wpHead_take (i := 8) (oi := ⟨some 70, _, _, _, _, _⟩) (v := ?_) rfl (by kernel_rfl) (fun _ _ _ h => h) (Or.inl ⟨by rfl, ?_⟩) hHeld ?_
                  rotate_left
                  · (intro w hSw; (try dsimp only at hSw); go_simp; try with_reducible rfl)
                  try simp only [Act.put, List.setIfInBounds_toArray, List.set_cons_zero, List.set_cons_succ]
                  refine wpHead_take (i := 9) (oi := ⟨some 71, _, _, _, _, _⟩) (v := ?_) rfl (by kernel_rfl) (fun _ _ _ h => h) (Or.inl ⟨by rfl, ?_⟩) hHeld ?_
                  rotate_left
                  · (intro w hSw; (try dsimp only at hSw); go_simp; try with_reducible rfl)
                  try simp only [Act.put, List.setIfInBounds_toArray, List.set_cons_zero, List.set_cons_succ]
                  refine wpHead_one (i := 11) (o := ⟨none, _, _, _, _, _⟩) rfl (by kernel_rfl) (by decide) (fun K hK => ?_)
                  go_simp
                  skip
                  refine hK.out _ _ ?_ (fun hHeld => ?_)
                  · exact HSW.out _ (((FZ.out.setCell (.inr (Nat.le_refl _)) _).setCell (.inr (Nat.le_refl _)) _).setCell (.inr (Nat.le_refl _)) _)
                  clear hK K
                  try simp only [Act.put, List.setIfInBounds_toArray, List.set_cons_zero, List.set_cons_succ]
                  refine wpHead_done (by kernel_rfl) ?_
                  simp only [List.drop_succ_cons, List.drop_zero]
                  go_wp2_with fail
                  go_meet
                  exact ⟨wr.heap.size, Rg, Ag, ng, cg, kg, rfl, rfl, Lib.hid AP.out.out, Lib.hid (RvAt.ofB AP.out HBZ.out).1, Lib.hid AP.out.le, Lib.hid (((FZ.out.setCell (.inr (Nat.le_refl _)) _).setCell (.inr (Nat.le_refl _)) _).setCell (.inr (Nat.le_refl _)) _), Lib.hid (Nat.le_refl _)⟩

              case rest =>
              clear HSW HAR s0
              obtain ⟨ga, Ra, Aa, na, ca, ka, rfl, rfl, HAO, RVa, HLE, Fa, HGa⟩ := hcut
              obtain ⟨wd, hwd⟩ : ∃ x, x = wc := ⟨_, rfl⟩
              subst hwd
              go_upto_region 16 with (fail)
              have HSW : Hid (∀ W, Fr [] wd W → Blk W gy 24 #[.int .i64 q.kind, .int .i64 q.table, .int .i64 q.column, .int .i64 q.low, .int .i64 q.high, .int .i64 q.by_, .int .i64 q.other] ∧ Blk W gn 27 #[.slice A k cap, .int .i64 N.value, .bool N.found] ∧ W.cell? ⟨gv, i * 10, none⟩ = some (.int .i64 ch.t) ∧ W.cell? ⟨gv, i * 10 + 1, none⟩ = some (.int .i64 ch.k) ∧ W.cell? ⟨gv, i * 10 + 2, none⟩ = some (.bool ch.had) ∧ W.cell? ⟨gv, i * 10 + 3, none⟩ = some (.int .i64 ch.o0) ∧ W.cell? ⟨gv, i * 10 + 4, none⟩ = some (.int .i64 ch.o1) ∧ W.cell? ⟨gv, i * 10 + 5, none⟩ = some (.int .i64 ch.o2) ∧ W.cell? ⟨gv, i * 10 + 6, none⟩ = some (.bool ch.has) ∧ W.cell? ⟨gv, i * 10 + 7, none⟩ = some (.int .i64 ch.n0) ∧ W.cell? ⟨gv, i * 10 + 8, none⟩ = some (.int .i64 ch.n1) ∧ W.cell? ⟨gv, i * 10 + 9, none⟩ = some (.int .i64 ch.n2)) := Lib.hid (fun w' hf => ⟨(HQW.out.fr (Fa.out.trans hf) (by simp)), (RVN.out.fr0 (Fa.out.trans hf)).blk, HCK.out w' (Fa.out.trans hf) 0 (by decide), HCK.out w' (Fa.out.trans hf) 1 (by decide), HCK.out w' (Fa.out.trans hf) 2 (by decide), HCK.out w' (Fa.out.trans hf) 3 (by decide), HCK.out w' (Fa.out.trans hf) 4 (by decide), HCK.out w' (Fa.out.trans hf) 5 (by decide), HCK.out w' (Fa.out.trans hf) 6 (by decide), HCK.out w' (Fa.out.trans hf) 7 (by decide), HCK.out w' (Fa.out.trans hf) 8 (by decide), HCK.out w' (Fa.out.trans hf) 9 (by decide)⟩)
              have HAR : Hid (∀ w1, Fr [] wd w1 → Calls Try.prog 12 #[q.val, .agg #[.slice A k cap, .int .i64 N.value, .bool N.found], ch.val] w1 fun e w' => (∃ (r' : Res) (A' : Option Addr) (n' c' : Nat) (kz : Bool), e = .returned (.tuple #[.agg #[.slice A' n' c', .int .i64 r'.value, .bool r'.found], .bool kz]) ∧ ApAt w1 w' ((Pm.patch q N ch).map fun x => (x, true)) A' n' r' true kz (k + 2)) ∧ Fr [] wd w') := Lib.hid (fun w1 hf => (rpatch_rv (RVN.out.fr0 (Fa.out.trans hf)) (by have := HKL.out; omega) (by have := HNB.out; omega)).mono (fun e w' h => ⟨h, by obtain ⟨_, _, _, _, _, _, hap⟩ := h; exact hf.trans hap.fr⟩))
              have s0 := HSW.out _ (Fr.refl [] _)
              go_cut [21, 22] (fun vp vk wn => ∃ (gg : Nat) (Rg : Res) (Ag : Option Addr) (ng cg : Nat) (kg : Bool), vp = .pointer (some ⟨gg, 0, none⟩) ∧ vk = .bool kg ∧ Hid (AOut ((Pm.patch q N ch).map fun x => (x, true)) Rg true kg) ∧ Hid (RvAt wn gg Ag ng cg Rg) ∧ Hid (ng ≤ k + 2) ∧ Hid (Fr [] wd wn) ∧ Hid (wd.heap.size ≤ gg))
              case first =>
                refine wp_region_head (fun W => Blk W gy 24 #[.int .i64 q.kind, .int .i64 q.table, .int .i64 q.column, .int .i64 q.low, .int .i64 q.high, .int .i64 q.by_, .int .i64 q.other] ∧ Blk W gn 27 #[.slice A k cap, .int .i64 N.value, .bool N.found] ∧ W.cell? ⟨gv, i * 10, none⟩ = some (.int .i64 ch.t) ∧ W.cell? ⟨gv, i * 10 + 1, none⟩ = some (.int .i64 ch.k) ∧ W.cell? ⟨gv, i * 10 + 2, none⟩ = some (.bool ch.had) ∧ W.cell? ⟨gv, i * 10 + 3, none⟩ = some (.int .i64 ch.o0) ∧ W.cell? ⟨gv, i * 10 + 4, none⟩ = some (.int .i64 ch.o1) ∧ W.cell? ⟨gv, i * 10 + 5, none⟩ = some (.int .i64 ch.o2) ∧ W.cell? ⟨gv, i * 10 + 6, none⟩ = some (.bool ch.has) ∧ W.cell? ⟨gv, i * 10 + 7, none⟩ = some (.int .i64 ch.n0) ∧ W.cell? ⟨gv, i * 10 + 8, none⟩ = some (.int .i64 ch.n1) ∧ W.cell? ⟨gv, i * 10 + 9, none⟩ = some (.int .i64 ch.n2)) 12 (by kernel_rfl) (by kernel_rfl) (HSW.out _ (Fr.refl [] wd).drew) (fun hHeld => ?_)
                refine wpHead_take (i := 0) (oi := ⟨some 73, _, _, _, _, _⟩) (v := .agg (#[.int .i64 q.kind, .int .i64 q.table, .int .i64 q.column, .int .i64 q.low, .int .i64 q.high, .int .i64 q.by_, .int .i64 q.other])) rfl (by kernel_rfl) (fun _ _ _ h => h) (yieldsIf_load_blk (by rfl) _ _ rfl gy rfl 24 (#[.int .i64 q.kind, .int .i64 q.table, .int .i64 q.column, .int .i64 q.low, .int .i64 q.high, .int .i64 q.by_, .int .i64 q.other]) _ (fun _ h => h.1) Try.underlying24 rfl (by kernel_rfl)) hHeld ?_
                try simp only [Act.put, List.setIfInBounds_toArray, List.set_cons_zero, List.set_cons_succ]
                refine wpHead_take (i := 1) (oi := ⟨some 74, _, _, _, _, _⟩) (v := .agg (#[.slice A k cap, .int .i64 N.value, .bool N.found])) rfl (by kernel_rfl) (fun _ _ _ h => h) (yieldsIf_load_blk (by rfl) _ _ rfl gn rfl 27 (#[.slice A k cap, .int .i64 N.value, .bool N.found]) _ (fun _ h => h.2.1) Try.underlying27 rfl (by kernel_rfl)) hHeld ?_
                try simp only [Act.put, List.setIfInBounds_toArray, List.set_cons_zero, List.set_cons_succ]
                refine wpHead_take (i := 2) (oi := ⟨some 75, _, _, _, _, _⟩) (v := ?_) rfl (by kernel_rfl) (fun _ _ _ h => h) (Or.inl ⟨by rfl, ?_⟩) hHeld ?_
                rotate_left
                · (intro w hSw; (try dsimp only at hSw); go_simp; try with_reducible rfl)
                try simp only [Act.put, List.setIfInBounds_toArray, List.set_cons_zero, List.set_cons_succ]
                refine wpHead_take (i := 3) (oi := ⟨some 76, _, _, _, _, _⟩) (v := ?_) rfl (by kernel_rfl) (fun _ _ _ h => h) (Or.inl ⟨by rfl, ?_⟩) hHeld ?_
                rotate_left
                · (intro w hSw; (try dsimp only at hSw); go_simp; try with_reducible rfl)
                try simp only [Act.put, List.setIfInBounds_toArray, List.set_cons_zero, List.set_cons_succ]
                refine wpHead_take (i := 4) (oi := ⟨some 77, _, _, _, _, _⟩) (v := ?_) rfl (by kernel_rfl) (fun _ _ _ h => h) (Or.inl ⟨by rfl, ?_⟩) hHeld ?_
                rotate_left
                · (intro w hSw; (try dsimp only at hSw); go_simp; try with_reducible rfl)
                try simp only [Act.put, List.setIfInBounds_toArray, List.set_cons_zero, List.set_cons_succ]
                refine wpHead_take (i := 5) (oi := ⟨some 78, _, _, _, _, _⟩) (v := ?_) rfl (by kernel_rfl) (fun _ _ _ h => h) (Or.inl ⟨by rfl, ?_⟩) hHeld ?_
                rotate_left
                · (intro w hSw; (try dsimp only at hSw); go_simp; try with_reducible rfl)
                try simp only [Act.put, List.setIfInBounds_toArray, List.set_cons_zero, List.set_cons_succ]
                refine wpHead_two (i := 6) (j := 10) (oi := ⟨some 79, _, _, _, _, _⟩) (oj := ⟨some 21, _, _, _, _, _⟩) rfl rfl (by kernel_rfl) (by decide) (by decide) ?_ ?_
                · refine fun K hK => ?_
                  go_simp
                  refine (HAR.out _ (Fr.refl [] wd).drew).mono ?_
                  rintro e wz ⟨⟨Rg, Ag, ng, cg, kg, rfl, hap⟩, hfz⟩
                  have AP := Lib.hid hap
                  have FZ := Lib.hid hfz
                  refine hK.out _ _ ?_ (fun hHeld => ?_)
                  · exact HSW.out _ FZ.out
                  clear hK K
                  try simp only [Act.put, List.setIfInBounds_toArray, List.set_cons_zero, List.set_cons_succ]
                  clear hap hfz
                  refine wpHead_take (i := 7) (oi := ⟨some 72, _, _, _, _, _⟩) (v := ?_) rfl (by kernel_rfl) (fun _ _ _ h => h) (Or.inl ⟨by rfl, ?_⟩) hHeld ?_
                  rotate_left
                  · (intro w hSw; (try dsimp only at hSw); go_simp; try with_reducible rfl)
                  try simp only [Act.put, List.setIfInBounds_toArray, List.set_cons_zero, List.set_cons_succ]
                  refine wpHead_take (i := 8) (oi := ⟨some 80, _, _, _, _, _⟩) (v := ?_) rfl (by kernel_rfl) (fun _ _ _ h => h) (Or.inl ⟨by rfl, ?_⟩) hHeld ?_
                  rotate_left
                  · (intro w hSw; (try dsimp only at hSw); go_simp; try with_reducible rfl)
                  try simp only [Act.put, List.setIfInBounds_toArray, List.set_cons_zero, List.set_cons_succ]
                  refine wpHead_take (i := 9) (oi := ⟨some 81, _, _, _, _, _⟩) (v := ?_) rfl (by kernel_rfl) (fun _ _ _ h => h) (Or.inl ⟨by rfl, ?_⟩) hHeld ?_
                  rotate_left
                  · (intro w hSw; (try dsimp only at hSw); go_simp; try with_reducible rfl)
                  try simp only [Act.put, List.setIfInBounds_toArray, List.set_cons_zero, List.set_cons_succ]
                  refine wpHead_one (i := 10) (o := ⟨some 21, _, _, _, _, _⟩) rfl (by kernel_rfl) (by decide) (fun K hK => ?_)
                  go_simp
                  skip
                  refine hK.out _ _ ?_ (fun hHeld => ?_)
                  · exact HSW.out _ (FZ.out.alloc _)
                  clear hK K
                  try simp only [Act.put, List.setIfInBounds_toArray, List.set_cons_zero, List.set_cons_succ]
                  refine wpHead_one (i := 11) (o := ⟨none, _, _, _, _, _⟩) rfl (by kernel_rfl) (by decide) (fun K hK => ?_)
                  go_simp
                  skip
                  refine hK.out _ _ ?_ (fun hHeld => ?_)
                  · exact HSW.out _ (FZ.out.alloc _)
                  clear hK K
                  try simp only [Act.put, List.setIfInBounds_toArray, List.set_cons_zero, List.set_cons_succ]
                  refine wpHead_done (by kernel_rfl) ?_
                  simp only [List.drop_succ_cons, List.drop_zero]
                  go_wp2_with fail
                  go_meet
                  exact ⟨wz.heap.size, Rg, Ag, ng, cg, kg, rfl, rfl, Lib.hid AP.out.out, Lib.hid (RvAt.ofA AP.out), Lib.hid AP.out.le, Lib.hid (FZ.out.alloc _), Lib.hid FZ.out.size⟩

                · refine fun K hK => ?_
                  go_simp
                  skip
                  refine hK.out _ _ ?_ (fun hHeld => ?_)
                  · exact HSW.out _ ((Fr.refl [] wd).drew.alloc _)
                  clear hK K
                  try simp only [Act.put, List.setIfInBounds_toArray, List.set_cons_zero, List.set_cons_succ]
                  refine wpHead_one (i := 6) (o := ⟨some 79, _, _, _, _, _⟩) rfl (by kernel_rfl) (by decide) (fun K hK => ?_)
                  go_simp
                  refine (HAR.out _ ((Fr.refl [] wd).drew.alloc _)).mono ?_
                  rintro e wz ⟨⟨Rg, Ag, ng, cg, kg, rfl, hap⟩, hfz⟩
                  have AP := Lib.hid hap
                  have FZ := Lib.hid hfz
                  have hbz := Blk.fr (w := _) (g := wd.heap.size) (t := 27) (cs := #[.slice none 0 0, .int .i64 0, .bool false]) (Blk.new wd.drew _ _) hap.fr (by simp)
                  have z0 := hbz.frozen 0
                  have z1 := hbz.frozen 1
                  have z2 := hbz.frozen 2
                  have u0 := hbz.cell 0
                  have u1 := hbz.cell 1
                  have u2 := hbz.cell 2
                  have HBZ := Lib.hid hbz
                  clear hbz hap hfz
                  refine hK.out _ _ ?_ (fun hHeld => ?_)
                  · exact HSW.out _ FZ.out
                  clear hK K
                  try simp only [Act.put, List.setIfInBounds_toArray, List.set_cons_zero, List.set_cons_succ]
                  refine wpHead_take (i := 7) (oi := ⟨some 72, _, _, _, _, _⟩) (v := ?_) rfl (by kernel_rfl) (fun _ _ _ h => h) (Or.inl ⟨by rfl, ?_⟩) hHeld ?_
                  rotate_left
                  · (intro w hSw; (try dsimp only at hSw); go_simp; try with_reducible rfl)
                  try simp only [Act.put, List.setIfInBounds_toArray, List.set_cons_zero, List.set_cons_succ]
                  refine wpHead_take (i := 8) (oi := ⟨some 80, _, _, _, _, _⟩) (v := ?_) rfl (by kernel_rfl) (fun _ _ _ h => h) (Or.inl ⟨by rfl, ?_⟩) hHeld ?_
                  rotate_left
                  · (intro w hSw; (try dsimp only at hSw); go_simp; try with_reducible rfl)
                  try simp only [Act.put, List.setIfInBounds_toArray, List.set_cons_zero, List.set_cons_succ]
                  refine wpHead_take (i := 9) (oi := ⟨some 81, _, _, _, _, _⟩) (v := ?_) rfl (by kernel_rfl) (fun _ _ _ h => h) (Or.inl ⟨by rfl, ?_⟩) hHeld ?_
                  rotate_left
                  · (intro w hSw; (try dsimp only at hSw); go_simp; try with_reducible rfl)
                  try simp only [Act.put, List.setIfInBounds_toArray, List.set_cons_zero, List.set_cons_succ]
                  refine wpHead_one (i := 11) (o := ⟨none, _, _, _, _, _⟩) rfl (by kernel_rfl) (by decide) (fun K hK => ?_)
                  go_simp
                  skip
                  refine hK.out _ _ ?_ (fun hHeld => ?_)
                  · exact HSW.out _ (((FZ.out.setCell (.inr (Nat.le_refl _)) _).setCell (.inr (Nat.le_refl _)) _).setCell (.inr (Nat.le_refl _)) _)
                  clear hK K
                  try simp only [Act.put, List.setIfInBounds_toArray, List.set_cons_zero, List.set_cons_succ]
                  refine wpHead_done (by kernel_rfl) ?_
                  simp only [List.drop_succ_cons, List.drop_zero]
                  go_wp2_with fail
                  go_meet
                  exact ⟨wd.heap.size, Rg, Ag, ng, cg, kg, rfl, rfl, Lib.hid AP.out.out, Lib.hid (RvAt.ofB AP.out HBZ.out).1, Lib.hid AP.out.le, Lib.hid (((FZ.out.setCell (.inr (Nat.le_refl _)) _).setCell (.inr (Nat.le_refl _)) _).setCell (.inr (Nat.le_refl _)) _), Lib.hid (Nat.le_refl _)⟩

              case rest =>
              clear HSW HAR s0
              obtain ⟨gb, Rb, Ab, nb, cb, kb, rfl, rfl, HAP, RVb, HLF, Fb, HGb⟩ := hcut
              obtain ⟨rfl, -, rfl⟩ := HAP.out.uniq HAO.out
              clear HAO HAP
              have RVa2 := Lib.hid (RVa.out.fr0 Fb.out)
              have FC := Lib.hid (Fa.out.trans Fb.out)
              have HTA := Lib.hid (fun W => touches_any q ch HOKQ.out W)
              have HTB := Lib.hid (fun W => rtouches_any q ch W)
              generalize Pm.touches q ch = T at *
              have HSM : Hid (∀ p : Later wc, Calls Try.prog 15 #[.agg #[.slice Aa na ca, .int .i64 Ra.value, .bool Ra.found], .agg #[.slice Ab nb cb, .int .i64 Ra.value, .bool Ra.found]] p.w fun e w' => e = .returned (.bool true) ∧ Fr [] p.w w') := Lib.hid (fun p => same_rvp (RVa2.out.fr0 p.fr) (RVb.out.fr0 p.fr) (by have := HLE.out; have := HKL.out; omega) (by have := HLF.out; have := HKL.out; omega))
              have q0 : ∀ p : Later wc, p.w.cell? ⟨gy, 0, none⟩ = some (.int .i64 q.kind) := fun p => QAt.c0 (HQW.out.fr (FC.out.trans p.fr) (by simp))
              have q1 : ∀ p : Later wc, p.w.cell? ⟨gy, 1, none⟩ = some (.int .i64 q.table) := fun p => QAt.c1 (HQW.out.fr (FC.out.trans p.fr) (by simp))
              have q2 : ∀ p : Later wc, p.w.cell? ⟨gy, 2, none⟩ = some (.int .i64 q.column) := fun p => QAt.c2 (HQW.out.fr (FC.out.trans p.fr) (by simp))
              have q3 : ∀ p : Later wc, p.w.cell? ⟨gy, 3, none⟩ = some (.int .i64 q.low) := fun p => QAt.c3 (HQW.out.fr (FC.out.trans p.fr) (by simp))
              have q4 : ∀ p : Later wc, p.w.cell? ⟨gy, 4, none⟩ = some (.int .i64 q.high) := fun p => QAt.c4 (HQW.out.fr (FC.out.trans p.fr) (by simp))
              have q5 : ∀ p : Later wc, p.w.cell? ⟨gy, 5, none⟩ = some (.int .i64 q.by_) := fun p => QAt.c5 (HQW.out.fr (FC.out.trans p.fr) (by simp))
              have q6 : ∀ p : Later wc, p.w.cell? ⟨gy, 6, none⟩ = some (.int .i64 q.other) := fun p => QAt.c6 (HQW.out.fr (FC.out.trans p.fr) (by simp))
              have k0 : ∀ p : Later wc, p.w.cell? ⟨gv, i * 10, none⟩ = some (.int .i64 ch.t) := fun p => HCK.out p.w (FC.out.trans p.fr) 0 (by decide)
              have k1 : ∀ p : Later wc, p.w.cell? ⟨gv, i * 10 + 1, none⟩ = some (.int .i64 ch.k) := fun p => HCK.out p.w (FC.out.trans p.fr) 1 (by decide)
              have k2 : ∀ p : Later wc, p.w.cell? ⟨gv, i * 10 + 2, none⟩ = some (.bool ch.had) := fun p => HCK.out p.w (FC.out.trans p.fr) 2 (by decide)
              have k3 : ∀ p : Later wc, p.w.cell? ⟨gv, i * 10 + 3, none⟩ = some (.int .i64 ch.o0) := fun p => HCK.out p.w (FC.out.trans p.fr) 3 (by decide)
              have k4 : ∀ p : Later wc, p.w.cell? ⟨gv, i * 10 + 4, none⟩ = some (.int .i64 ch.o1) := fun p => HCK.out p.w (FC.out.trans p.fr) 4 (by decide)
              have k5 : ∀ p : Later wc, p.w.cell? ⟨gv, i * 10 + 5, none⟩ = some (.int .i64 ch.o2) := fun p => HCK.out p.w (FC.out.trans p.fr) 5 (by decide)
              have k6 : ∀ p : Later wc, p.w.cell? ⟨gv, i * 10 + 6, none⟩ = some (.bool ch.has) := fun p => HCK.out p.w (FC.out.trans p.fr) 6 (by decide)
              have k7 : ∀ p : Later wc, p.w.cell? ⟨gv, i * 10 + 7, none⟩ = some (.int .i64 ch.n0) := fun p => HCK.out p.w (FC.out.trans p.fr) 7 (by decide)
              have k8 : ∀ p : Later wc, p.w.cell? ⟨gv, i * 10 + 8, none⟩ = some (.int .i64 ch.n1) := fun p => HCK.out p.w (FC.out.trans p.fr) 8 (by decide)
              have k9 : ∀ p : Later wc, p.w.cell? ⟨gv, i * 10 + 9, none⟩ = some (.int .i64 ch.n2) := fun p => HCK.out p.w (FC.out.trans p.fr) 9 (by decide)
              have e0 : ∀ p : Later wc, p.w.cell? ⟨ga, 0, none⟩ = some (.slice Aa na ca) := fun p => (RVa2.out.fr0 p.fr).blk.c0
              have e1 : ∀ p : Later wc, p.w.cell? ⟨ga, 1, none⟩ = some (.int .i64 Ra.value) := fun p => (RVa2.out.fr0 p.fr).blk.c1
              have e2 : ∀ p : Later wc, p.w.cell? ⟨ga, 2, none⟩ = some (.bool Ra.found) := fun p => (RVa2.out.fr0 p.fr).blk.c2
              have f0 : ∀ p : Later wc, p.w.cell? ⟨gb, 0, none⟩ = some (.slice Ab nb cb) := fun p => (RVb.out.fr0 p.fr).blk.c0
              have f1 : ∀ p : Later wc, p.w.cell? ⟨gb, 1, none⟩ = some (.int .i64 Ra.value) := fun p => (RVb.out.fr0 p.fr).blk.c1
              have f2 : ∀ p : Later wc, p.w.cell? ⟨gb, 2, none⟩ = some (.bool Ra.found) := fun p => (RVb.out.fr0 p.fr).blk.c2
              have b1 : (T != T) = false := by simp
              have b2 : (ka != ka) = false := by simp
              go_upto_region 17 with (fail)
              refine wp_region_later (by kernel_rfl) (by kernel_rfl) ?_
              repeat (go_big_quiet_step (first | (with_reducible exact Later.calls (HTA.out _)) | (with_reducible exact Later.calls (HTB.out _)) | (with_reducible exact Later.calls (HSM.out _)) | exact Later.calls (HTA.out _) | exact Later.calls (HTB.out _) | exact Later.calls (HSM.out _)))
              refine wpQuiet_nil ?_
              rintro w' ⟨⟨wq, fq⟩, rfl⟩
              have FR2 := Lib.hid (FR.out.trans (FC.out.trans fq))
              clear fq FC RVa RVa2 RVb RVN HQW HCK HTA HTB HSM Fa Fb b1 b2 q0 q1 q2 q3 q4 q5 q6 k0 k1 k2 k3 k4 k5 k6 k7 k8 k9 e0 e1 e2 f0 f1 f2
              go_wp2_with fail
              go_roundw
              case rel => exact ⟨i + 1, by go_num, by omega, FR2⟩
              case measure => simp [intOf]; omega
            · have FR2 := Lib.hid (FM.out.trans FR.out)
              go_wp2_with fail
              go_roundw
              case rel => exact ⟨t + 1, by go_num, by omega, FR2⟩
              case measure => simp [intOf]; omega
        · go_wp2_with fail
          go_ret
          exact ⟨rfl, (F0.out.trans FR.out).below⟩
end Go.Proofs.Ytjiikpmkedkbkaa
