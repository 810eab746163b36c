/-
  PredicateSplit: the walk of the law.
-/
import Derived.Test.YtjiikpmkedkbkaaGreatMbs
import Derived.Test.YtjiikpmkedkbkaaGreatMbq
import Derived.Test.YtjiikpmkedkbkaaGreatMaa
import Derived.Test.YtjiikpmkedkbkaaGreatMad
import Derived.Deep.DeepCutAuto
import Derived.Deep.RegionLaw
import Derived.Deep.RegionWith
import Derived.Deep.CutBlock
import Derived.StillTailTactics
namespace Go.Proofs.YtjiikpmkedkbkaaGreat
open Go.RowKit

namespace Pm
theorem go_append {q : Qry} : ∀ (a b : List Chg) (r : Res) (t : Bool), go q (a ++ b) r t = (go q a r t).bind fun x => go q b x.1 x.2
  | [], b, r, t => rfl
  | c :: a, b, r, t => by
    have e1 : go q (c :: a ++ b) r t = match patch q r c with
      | none => none
      | some r' => go q (a ++ b) r' (t || touches q c) := rfl
    have e2 : go q (c :: a) r t = match patch q r c with
      | none => none
      | some r' => go q a r' (t || touches q c) := rfl
    rw [e1, e2]
    cases patch q r c with
    | none => rfl
    | some r' => exact go_append a b r' _
theorem go_one (q : Qry) (c : Chg) (r : Res) (t : Bool) : go q [c] r t = (patch q r c).map fun r' => (r', t || touches q c) := by
  have e : go q [c] r t = match patch q r c with
      | none => none
      | some r' => some (r', t || touches q c) := rfl
  rw [e]
  cases patch q r c <;> rfl
/-- Where the parts stand. -/
def Sp (q : Qry) (cs : List Chg) (R : Res) (i : Nat) (P : Res) (a f : Bool) : Prop := (f = true ∧ go q (cs.take i) R false = some (P, a)) ∨ (f = false ∧ go q cs R false = none ∧ a = true ∧ P = ⟨[], 0, false⟩)
theorem Sp.start (q : Qry) (cs : List Chg) (R : Res) : Sp q cs R 0 R false true := .inl ⟨rfl, by rw [List.take_zero]; rfl⟩
theorem Sp.step {q : Qry} {cs : List Chg} {R P P' : Res} {i : Nat} {a t k : Bool} (h : Sp q cs R i P a true) (hi : i < cs.length) (ho : AOut (apply q P [cs[i]]) P' t k) : Sp q cs R (i + 1) P' (a || t) k := by
  rcases h with ⟨-, h⟩ | ⟨h, -⟩
  · have h1 : go q (cs.take (i + 1)) R false = (patch q P cs[i]).map fun r' => (r', a || touches q cs[i]) := by
      rw [List.take_succ_eq_append_getElem hi, go_append, h, ← go_one]
      rfl
    unfold apply at ho
    rw [go_one] at ho
    cases hp : patch q P cs[i] with
    | some r' =>
      rw [hp] at ho h1
      rcases ho with ⟨rfl, ho⟩ | ⟨rfl, ho, -⟩
      · simp only [Option.map_some, Option.some.injEq, Prod.mk.injEq, Bool.false_or] at ho
        obtain ⟨e1, e2⟩ := ho
        refine .inl ⟨rfl, ?_⟩
        rw [h1, ← e1, ← e2]
        rfl
      · cases ho
    | none =>
      rw [hp] at ho h1
      rcases ho with ⟨rfl, ho⟩ | ⟨rfl, ho, rfl, rfl⟩
      · cases ho
      · refine .inr ⟨rfl, ?_, by simp, rfl⟩
        have h1' : go q (cs.take (i + 1)) R false = none := h1
        rw [← List.take_append_drop (i + 1) cs, go_append, h1']
        rfl
  · cases h
theorem Sp.done {q : Qry} {cs : List Chg} {R P W : Res} {i : Nat} {a f t k : Bool} (h : Sp q cs R i P a f) (hi : i = cs.length ∨ f = false) (ho : AOut (apply q R cs) W t k) : f = k ∧ a = t ∧ W = P := by
  unfold apply at ho
  rcases h with ⟨rfl, h⟩ | ⟨rfl, h, rfl, rfl⟩
  · have hi' : i = cs.length := by simpa using hi
    rw [hi', List.take_length] at h
    rcases ho with ⟨rfl, ho⟩ | ⟨rfl, ho, -, -⟩
    · rw [h] at ho
      injection ho with ho
      injection ho with e1 e2
      exact ⟨rfl, e2, e1.symm⟩
    · rw [h] at ho
      cases ho
  · rcases ho with ⟨rfl, ho⟩ | ⟨rfl, -, rfl, rfl⟩
    · rw [h] at ho
      cases ho
    · exact ⟨rfl, rfl, rfl⟩
/-- How great a result may be that is patched. -/
theorem go_small {q : Qry} : ∀ (cs : List Chg) {r : Res} {t : Bool} {x : Res × Bool} {B : Int}, 1000000000 ≤ B → -B ≤ r.value → r.value ≤ B → go q cs r t = some x → -(B + 2000000000 * cs.length) ≤ x.1.value ∧ x.1.value ≤ B + 2000000000 * cs.length
  | [], r, t, x, B, h0, h1, h2, h => by
    injection h with h
    subst h
    simp only [List.length_nil]
    omega
  | c :: cs, r, t, x, B, h0, h1, h2, h => by
    have e : go q (c :: cs) r t = match patch q r c with
      | none => none
      | some r' => go q cs r' (t || touches q c) := rfl
    rw [e] at h
    cases hp : patch q r c with
    | none => rw [hp] at h; cases h
    | some r' =>
      rw [hp] at h
      have h3 := patch_bound hp
      unfold Near at h3
      have h4 := go_small cs (B := B + 2000000000) (by omega) (by omega) (by omega) h
      rw [List.length_cons]
      omega
theorem Sp.val {q : Qry} {cs : List Chg} {R P : Res} {i : Nat} {a f : Bool} (h : Sp q cs R i P a f) (hR : -2000000000000 ≤ R.value ∧ R.value ≤ 2000000000000) (hi : i ≤ 20) : -3000000000000 ≤ P.value ∧ P.value ≤ 3000000000000 := by
  rcases h with ⟨-, h⟩ | ⟨-, -, -, rfl⟩
  · have h1 := go_small (cs.take i) (B := 2000000000000) (by omega) (by omega) (by omega) h
    have h2 : (cs.take i).length ≤ i := List.length_take_le _ _
    dsimp only at h1
    omega
  · dsimp only
    omega
end Pm
theorem same_rv5 {w : World} {g g' : Nat} {A A' : Option Addr} {n n' c c' : Nat} {r r' : Res} (h : RvAt w g A n c r) (h' : RvAt w g' A' n' c' r') (hl : r.rows.length ≤ 5000) (hl' : r'.rows.length ≤ 5000) {b : Bool} (hb : decide (r = r') = b) :
    Calls Tryz.prog 15 #[.agg #[.slice A n c, .int .i64 r.value, .bool r.found], .agg #[.slice A' n' c', .int .i64 r'.value, .bool r'.found]] w fun e w' => e = .returned (.bool b) ∧ Fr [] w w' := by
  subst hb
  exact same7_big A n c r.value r.found r.rows A' n' c' r'.value r'.found r'.rows w h.rows h.len h'.rows h'.len (by rw [h.len]; omega) (by rw [h'.len]; omega)
/-- What lies in memory between two parts. -/
structure SpAt (w0 wr : World) (bs ms gq : Nat) (l : List Rec) (A2 : Option Addr) (n2 c2 : Nat) (q : Qry) (s : Sm.Sta) (gw : Nat) (Aw : Option Addr) (nw cw : Nat) (Rw : Res) (gp : Nat) (Ap : Option Addr) (np cp : Nat) (Rp : Res) : Prop where
  pg : PgAt w0 wr bs ms gq l A2 n2 c2 q s
  wh : RvAt wr gw Aw nw cw Rw
  pt : RvAt wr gp Ap np cp Rp
  ne : gw ≠ gp
  new : w0.heap.size ≤ gp
section
variable {w0 wr w' : World} {bs ms gq : Nat} {l : List Rec} {A2 : Option Addr} {n2 c2 : Nat} {q : Qry} {s : Sm.Sta} {gw : Nat} {Aw : Option Addr} {nw cw : Nat} {Rw : Res} {gp : Nat} {Ap : Option Addr} {np cp : Nat} {Rp : Res}
theorem SpAt.fr0 (h : SpAt w0 wr bs ms gq l A2 n2 c2 q s gw Aw nw cw Rw gp Ap np cp Rp) (hf : Fr [] wr w') : SpAt w0 w' bs ms gq l A2 n2 c2 q s gw Aw nw cw Rw gp Ap np cp Rp := ⟨h.pg.fr0 hf, h.wh.fr0 hf, h.pt.fr0 hf, h.ne, h.new⟩
/-- The part is written anew. -/
theorem SpAt.set {g : Nat} {A : Option Addr} {n c : Nat} {r : Res} (h : SpAt w0 wr bs ms gq l A2 n2 c2 q s gw Aw nw cw Rw gp Ap np cp Rp) (hr : RvAt wr g A n c r) :
    SpAt w0 (((wr.setCell ⟨gp, 0, none⟩ (.slice A n c)).setCell ⟨gp, 1, none⟩ (.int .i64 r.value)).setCell ⟨gp, 2, none⟩ (.bool r.found)) bs ms gq l A2 n2 c2 q s gw Aw nw cw Rw gp A n c r := by
  obtain ⟨h1, h2⟩ := set3 (v' := .slice A n c) (m' := r.value) (f' := r.found) h.pt.blk
  exact ⟨h.pg.frR h.pt.blk h2 h.new, ⟨h.wh.blk.fr h2 (by simp [h.ne]), h.wh.rows.ne_small h.pt.blk (by simp) h2, h.wh.len⟩, ⟨h1, hr.rows.ne_small h.pt.blk (by simp) h2, hr.len⟩, h.ne, h.new⟩
end

set_option maxRecDepth 100000 in
set_option maxHeartbeats 8000000 in
theorem split_walk (A : Option Addr) (n cap : Nat) (x0 x1 x2 x3 x4 : Int)  (w : World) (hn : n ≤ cap) (hcap : cap ≤ maxLen) (hx : n = 0 ∨ ∃ bx ox, A = some ⟨bx, ox, none⟩ ∧ SixAt w bx ox n) (o0 : okI x0) (o1 : okI x1) (o2 : okI x2) (o3 : okI x3) (o4 : okI x4)  :
    Calls Tryz.prog 6 #[.slice A n cap, .agg #[.int .i64 x0, .int .i64 x1, .int .i64 x2, .int .i64 x3, .int .i64 x4]] w fun e w' => e = .returned (.bool true) ∧ Below w.heap.size w w' := by
  have hb63 : cap < 9223372036854775808 := by simp only [maxLen] at hcap; omega
  have F0 : Hid (Fr [] w (w.alloc (.cells #[.int .i64 x0, .int .i64 x1, .int .i64 x2, .int .i64 x3, .int .i64 x4] 23))) := Lib.hid ((Fr.refl [] w).alloc _)
  have B5 : Hid (Five (w.alloc (.cells #[.int .i64 x0, .int .i64 x1, .int .i64 x2, .int .i64 x3, .int .i64 x4] 23)) w.heap.size x0 x1 x2 x3 x4) := Lib.hid (Blk.new w _ _)
  have HX := Lib.hid hx
  have HO := Lib.hid (And.intro o0 (And.intro o1 (And.intro o2 (And.intro o3 o4))))
  clear hx o0 o1 o2 o3 o4
  go_enter Tryz.func6, Tryz.ntmps6
  go_wp2_with fail
  refine (sane7 _).mono ?_
  rintro e wa ⟨rfl, fa⟩
  replace B5 := Lib.hid (B5.out.fr fa (by simp))
  replace F0 := Lib.hid (F0.out.trans fa)
  clear fa
  go_wp2_with fail
  obtain ⟨mN, hmN⟩ : ∃ m : Nat, (min (n : Int) 15).toNat = m := ⟨_, rfl⟩
  have hm1 : mN ≤ 15 ∧ mN ≤ n := by omega
  rw [hmN]
  refine (log_any A mN cap wa (by omega) (by
    rcases HX.out with h0 | ⟨bx, ox, h1, h2⟩
    · exact .inl (by omega)
    · exact .inr ⟨bx, ox, h1, (h2.le hm1.2).fr0 F0.out⟩)).mono ?_
  clear hmN
  rintro e w2 ⟨vl, l, rfl, hor, hok, hll, f2, hvo⟩
  obtain ⟨A2, n2, c2, hv⟩ : ∃ A n c, vl = .slice A n c := by
    obtain ⟨us, hus, _⟩ := hor
    obtain ⟨A2, cap2, hv⟩ := hus.val
    exact ⟨_, _, _, hv⟩
  subst hv
  have HROW := Lib.hid hor
  have HOK := Lib.hid hok
  have HN2 : Hid (n2 = l.length) := Lib.hid hor.recs.2
  have hnM : n2 ≤ 15 := by rw [HN2.out]; omega
  replace B5 := Lib.hid (B5.out.fr f2 (by simp))
  replace F0 := Lib.hid (F0.out.trans f2)
  clear hor hok f2 hvo hll HX hm1 hn
  obtain ⟨g0, g1, g2, g3, g4⟩ := B5.out.cells
  go_wp2_with fail
  refine (query_any x0 x1 x2 x3 x4 _ HO.out.1 HO.out.2.1 HO.out.2.2.1 HO.out.2.2.2.1 HO.out.2.2.2.2).mono ?_
  rintro e wq ⟨q, rfl, hq, fq⟩
  have HQ := Lib.hid hq
  have fq1 := fq.alloc (.cells #[.int .i64 q.kind, .int .i64 q.table, .int .i64 q.column, .int .i64 q.low, .int .i64 q.high, .int .i64 q.by_, .int .i64 q.other] 28)
  have HBQ := Lib.hid (QAt.new wq q)
  replace F0 := Lib.hid (F0.out.trans fq1)
  replace HROW := Lib.hid (HROW.out.keep0 fq1)
  clear g0 g1 g2 g3 g4 B5 HO hq fq fq1 hcap
  go_wp2_with fail
  refine (snew_any _).mono ?_
  rintro e ws ⟨rfl, hst, fs⟩
  rw [World.size_alloc] at hst
  try rw [World.size_alloc]
  have PG : Hid (PgAt w ws (wq.heap.size + 1 + 1) (wq.heap.size + 1) wq.heap.size l A2 n2 c2 q Sm.new) := Lib.hid ⟨hst, HROW.out.keep0 fs, HBQ.out.fr fs (by simp), F0.out.trans fs, by have := F0.out.size; rw [World.size_alloc] at this; omega, by have := F0.out.size; rw [World.size_alloc] at this; omega⟩
  clear hst fs HROW HBQ
  generalize wq.heap.size + 1 + 1 = bs at *
  generalize wq.heap.size + 1 = ms at *
  generalize wq.heap.size = gq at *
  clear F0
  go_wp2_with fail
  have HV : Hid (Em.valid q = true) := Lib.hid HQ.out.valid
  have hok : okI q.kind := okI_mk (by have := HQ.out.k; omega) (by have := HQ.out.k; omega)
  have HOKI := Lib.hid hok
  have HTO := Lib.hid (fun c W => touches_any q c hok W)
  clear hok HQ
  go_loopw [9] (fun i wr => ∃ k : Nat, i = .int .i64 k ∧ k ≤ n2 ∧ Hid (PgAt w wr bs ms gq l A2 n2 c2 q (Lg.run (l.take k)))) (fun i _ => n2 - (intOf i).toNat)
  case atStart => exact ⟨0, rfl, Nat.zero_le _, PG⟩
  case round =>
    clear PG
    obtain ⟨k, rfl, hk, PG⟩ := hrel
    by_cases hlt : k < n2
    · have hkl : k < l.length := by rw [← HN2.out]; exact hlt
      have HFIT := Lib.hid (HOK.out.fits k hkl)
      have HSO := Lib.hid (Lg.run_ok (l.take k))
      have HSS := Lib.hid (Lg.run_sound (l.take k))
      have HSO' := Lib.hid (Lg.run_ok (l.take (k + 1)))
      have HSS' := Lib.hid (Lg.run_sound (l.take (k + 1)))
      have HRUN := Lib.hid (Lg.run_succ l hkl)
      rw [HRUN.out] at HSS' HSO'
      obtain ⟨s, HS⟩ : ∃ s, Hid (Lg.run (l.take k) = s) := ⟨_, Lib.hid rfl⟩
      obtain ⟨r, HR⟩ : ∃ r, Hid (l[k] = r) := ⟨_, Lib.hid rfl⟩
      rw [HS.out] at HFIT HSO HSS HSS' HSO' PG HRUN
      rw [HR.out] at HFIT HSS' HSO' HRUN
      obtain ⟨Ra, HRRa⟩ : ∃ R, Hid (Em.of s q = R) := ⟨_, Lib.hid rfl⟩
      have HBa := Lib.hid (Em.of_bounds HSO.out HSS.out q)
      have HOF := Lib.hid (PG.out.of HSS.out HV.out)
      rw [HRRa.out] at HBa HOF
      have hbq : Blk wr gq 28 #[.int .i64 q.kind, .int .i64 q.table, .int .i64 q.column, .int .i64 q.low, .int .i64 q.high, .int .i64 q.by_, .int .i64 q.other] := PG.out.q
      go_upto_region 9 with (first
        | (refine wpList_load_row rfl _ _ rfl gq rfl 28 _ (0, 0) _ hbq Tryz.underlying28 rfl (by kernel_rfl) ?_)
        | (go_at_call 12; refine HOF.out.mono ?_; rintro e wx ⟨Aa, na, ca, rfl, hrw⟩; have RW := Lib.hid hrw; clear hrw))
      clear hbq HOF
      have RVa := Lib.hid (RvAt.of (c := ca) RW.out)
      have Fa := Lib.hid (RW.out.fr.trans ((Fr.refl [] wx).alloc (.cells #[.slice Aa na ca, .int .i64 Ra.value, .bool Ra.found] 34)))
      replace PG := Lib.hid (PG.out.fr0 Fa.out)
      have HGX := Lib.hid RW.out.fr.size
      clear RW
      have HGa : Hid (wr.heap.size ≤ wx.heap.size) := Lib.hid HGX.out
      clear HGX
      generalize hw5 : wx.alloc (.cells #[.slice Aa na ca, .int .i64 Ra.value, .bool Ra.found] 34) = wa at *
      clear hw5
      generalize wx.heap.size = ga at *
      obtain ⟨bb, off, Ak, ck, hA, hbb, hc0, hc1, hhc, hl8⟩ := PG.out.open_ hkl
      subst hA
      rw [HR.out] at hc0 hc1 hhc hl8
      obtain ⟨nk, hnk⟩ : ∃ n, n = r.cs.length := ⟨_, rfl⟩
      rw [← hnk] at hc1 hl8
      have HNK := Lib.hid hnk
      obtain ⟨pk, hpk⟩ : ∃ n, n = r.p := ⟨_, rfl⟩
      rw [← hpk] at hc0
      have HPK := Lib.hid hpk
      clear hnk hpk
      clear hc0 hc1 hhc Fa
      go_upto_region 11 with (fail)
      obtain ⟨bb', off', Ak', ck', hA', hbb2, hc0, hc1, hhc, _⟩ := PG.out.open_ hkl
      rw [HR.out] at hc0 hc1 hhc
      rw [← HNK.out] at hc1
      rw [← HPK.out] at hc0
      have eA : bb' = bb ∧ off' = off := by
        injection hA' with hA'
        injection hA' with h1 h2
        exact ⟨h1.symm, h2.symm⟩
      obtain ⟨rfl, rfl⟩ := eA
      clear hA'
      have HSW : Hid (∀ w', Fr [] wa w' → Blk w' gq 28 #[.int .i64 q.kind, .int .i64 q.table, .int .i64 q.column, .int .i64 q.low, .int .i64 q.high, .int .i64 q.by_, .int .i64 q.other] ∧ Blk w' ga 34 #[.slice Aa na ca, .int .i64 Ra.value, .bool Ra.found] ∧ w'.cell? ⟨bb', off' + k * 2, none⟩ = some (.int .i64 pk) ∧ w'.cell? ⟨bb', off' + k * 2 + 1, none⟩ = some (.slice Ak' nk ck')) := Lib.hid (fun w' hf => ⟨(PG.out.fr0 hf).q, (RVa.out.fr0 hf).blk, (hf.rules.1 bb' _ hbb2).trans hc0, (hf.rules.1 bb' _ hbb2).trans hc1⟩)
      have HAR : Hid (∀ w1, Fr [] wa w1 → Calls Tryz.prog 16 #[q.val, .agg #[.slice Aa na ca, .int .i64 Ra.value, .bool Ra.found], .agg #[.int .i64 pk, .slice Ak' nk ck']] w1 fun e w' => ∃ (r' : Res) (A' : Option Addr) (n' c' : Nat) (t k : Bool), e = .returned (.tuple #[.agg #[.slice A' n' c', .int .i64 r'.value, .bool r'.found], .bool t, .bool k]) ∧ ApAt w1 w' (Pm.apply q Ra r.cs) A' n' r' t k (na + 2 * nk) ∧ Fr [] wa w') := Lib.hid (fun w1 hf => (apply_rv HOKI.out (RVa.out.fr0 hf) (Nat.le_trans HBa.out.1 (by decide)) (by have := HBa.out.2; omega) (ck := ck') (p := pk) (hhc.fr hf NoC.nil).1 hl8 HNK.out).mono (fun e w' ⟨r', A', n', c', t, k, h1, h2⟩ => ⟨r', A', n', c', t, k, h1, h2, hf.trans h2.fr⟩))
      have s0 := HSW.out _ (Fr.refl [] _)
      clear hc0 hc1 hhc
      go_cut [12, 13, 14] (fun vp vt vk wn => ∃ (gg : Nat) (Rg : Res) (Ag : Option Addr) (ng cg : Nat) (tg kg : Bool), vp = .pointer (some ⟨gg, 0, none⟩) ∧ vt = .bool tg ∧ vk = .bool kg ∧ Hid (AOut (Pm.apply q Ra r.cs) Rg tg kg) ∧ Hid (RvAt wn gg Ag ng cg Rg) ∧ Hid (Fr [] wa wn) ∧ Hid (wa.heap.size ≤ gg))
      case first =>
        refine wp_region_head (fun W => Blk W gq 28 #[.int .i64 q.kind, .int .i64 q.table, .int .i64 q.column, .int .i64 q.low, .int .i64 q.high, .int .i64 q.by_, .int .i64 q.other] ∧ Blk W ga 34 #[.slice Aa na ca, .int .i64 Ra.value, .bool Ra.found] ∧ W.cell? ⟨bb', off' + k * 2, none⟩ = some (.int .i64 pk) ∧ W.cell? ⟨bb', off' + k * 2 + 1, none⟩ = some (.slice Ak' nk ck')) 14 (by kernel_rfl) (by kernel_rfl) (HSW.out _ (Fr.refl [] wa).drew) (fun hHeld => ?_)
        refine wpHead_take (i := 0) (oi := ⟨some 47, _, _, _, _, _⟩) (v := .agg (#[.int .i64 q.kind, .int .i64 q.table, .int .i64 q.column, .int .i64 q.low, .int .i64 q.high, .int .i64 q.by_, .int .i64 q.other])) rfl (by kernel_rfl) (fun _ _ _ h => h) (yieldsIf_load_blk (by rfl) _ _ rfl gq rfl 28 (#[.int .i64 q.kind, .int .i64 q.table, .int .i64 q.column, .int .i64 q.low, .int .i64 q.high, .int .i64 q.by_, .int .i64 q.other]) _ (fun _ h => h.1) Tryz.underlying28 rfl (by kernel_rfl)) hHeld ?_
        try simp only [Act.put, List.setIfInBounds_toArray, List.set_cons_zero, List.set_cons_succ]
        refine wpHead_take (i := 1) (oi := ⟨some 48, _, _, _, _, _⟩) (v := .agg (#[.slice Aa na ca, .int .i64 Ra.value, .bool Ra.found])) rfl (by kernel_rfl) (fun _ _ _ h => h) (yieldsIf_load_blk (by rfl) _ _ rfl ga rfl 34 (#[.slice Aa na ca, .int .i64 Ra.value, .bool Ra.found]) _ (fun _ h => h.2.1) Tryz.underlying34 rfl (by kernel_rfl)) hHeld ?_
        try simp only [Act.put, List.setIfInBounds_toArray, List.set_cons_zero, List.set_cons_succ]
        refine wpHead_take (i := 2) (oi := ⟨some 49, _, _, _, _, _⟩) (v := ?_) rfl (by kernel_rfl) (fun _ _ _ h => h) (Or.inl ⟨by rfl, ?_⟩) hHeld ?_
        rotate_left
        · (intro w hSw; (try dsimp only at hSw); go_simp; try with_reducible rfl)
        try simp only [Act.put, List.setIfInBounds_toArray, List.set_cons_zero, List.set_cons_succ]
        refine wpHead_take (i := 3) (oi := ⟨some 50, _, _, _, _, _⟩) (v := ?_) rfl (by kernel_rfl) (fun _ _ _ h => h) (Or.inl ⟨by rfl, ?_⟩) hHeld ?_
        rotate_left
        · (intro w hSw; (try dsimp only at hSw); go_simp; try with_reducible rfl)
        try simp only [Act.put, List.setIfInBounds_toArray, List.set_cons_zero, List.set_cons_succ]
        refine wpHead_take (i := 4) (oi := ⟨some 51, _, _, _, _, _⟩) (v := ?_) rfl (by kernel_rfl) (fun _ _ _ h => h) (Or.inl ⟨by rfl, ?_⟩) hHeld ?_
        rotate_left
        · (intro w hSw; (try dsimp only at hSw); go_simp; try with_reducible rfl)
        try simp only [Act.put, List.setIfInBounds_toArray, List.set_cons_zero, List.set_cons_succ]
        refine wpHead_take (i := 5) (oi := ⟨some 52, _, _, _, _, _⟩) (v := ?_) rfl (by kernel_rfl) (fun _ _ _ h => h) (Or.inl ⟨by rfl, ?_⟩) hHeld ?_
        rotate_left
        · (intro w hSw; (try dsimp only at hSw); go_simp; try with_reducible rfl)
        try simp only [Act.put, List.setIfInBounds_toArray, List.set_cons_zero, List.set_cons_succ]
        refine wpHead_two (i := 6) (j := 11) (oi := ⟨some 53, _, _, _, _, _⟩) (oj := ⟨some 12, _, _, _, _, _⟩) rfl rfl (by kernel_rfl) (by decide) (by decide) ?_ ?_
        · refine fun K hK => ?_
          go_simp
          refine (HAR.out _ (Fr.refl [] wa).drew).mono ?_
          rintro e wz ⟨Rg, Ag, ng, cg, tg, kg, rfl, hap, hfz⟩
          have AP := Lib.hid hap
          have FZ := Lib.hid hfz
          refine hK.out _ _ ?_ (fun hHeld => ?_)
          · exact HSW.out _ FZ.out
          clear hK K
          try simp only [Act.put, List.setIfInBounds_toArray, List.set_cons_zero, List.set_cons_succ]
          clear hap hfz
          refine wpHead_take (i := 7) (oi := ⟨some 46, _, _, _, _, _⟩) (v := ?_) rfl (by kernel_rfl) (fun _ _ _ h => h) (Or.inl ⟨by rfl, ?_⟩) hHeld ?_
          rotate_left
          · (intro w hSw; (try dsimp only at hSw); go_simp; try with_reducible rfl)
          try simp only [Act.put, List.setIfInBounds_toArray, List.set_cons_zero, List.set_cons_succ]
          refine wpHead_take (i := 8) (oi := ⟨some 54, _, _, _, _, _⟩) (v := ?_) rfl (by kernel_rfl) (fun _ _ _ h => h) (Or.inl ⟨by rfl, ?_⟩) hHeld ?_
          rotate_left
          · (intro w hSw; (try dsimp only at hSw); go_simp; try with_reducible rfl)
          try simp only [Act.put, List.setIfInBounds_toArray, List.set_cons_zero, List.set_cons_succ]
          refine wpHead_take (i := 9) (oi := ⟨some 55, _, _, _, _, _⟩) (v := ?_) rfl (by kernel_rfl) (fun _ _ _ h => h) (Or.inl ⟨by rfl, ?_⟩) hHeld ?_
          rotate_left
          · (intro w hSw; (try dsimp only at hSw); go_simp; try with_reducible rfl)
          try simp only [Act.put, List.setIfInBounds_toArray, List.set_cons_zero, List.set_cons_succ]
          refine wpHead_take (i := 10) (oi := ⟨some 56, _, _, _, _, _⟩) (v := ?_) rfl (by kernel_rfl) (fun _ _ _ h => h) (Or.inl ⟨by rfl, ?_⟩) hHeld ?_
          rotate_left
          · (intro w hSw; (try dsimp only at hSw); go_simp; try with_reducible rfl)
          try simp only [Act.put, List.setIfInBounds_toArray, List.set_cons_zero, List.set_cons_succ]
          refine wpHead_one (i := 11) (o := ⟨some 12, _, _, _, _, _⟩) rfl (by kernel_rfl) (by decide) (fun K hK => ?_)
          go_simp
          skip
          refine hK.out _ _ ?_ (fun hHeld => ?_)
          · exact HSW.out _ (FZ.out.alloc _)
          clear hK K
          try simp only [Act.put, List.setIfInBounds_toArray, List.set_cons_zero, List.set_cons_succ]
          refine wpHead_one (i := 12) (o := ⟨none, _, _, _, _, _⟩) rfl (by kernel_rfl) (by decide) (fun K hK => ?_)
          go_simp
          skip
          refine hK.out _ _ ?_ (fun hHeld => ?_)
          · exact HSW.out _ (FZ.out.alloc _)
          clear hK K
          try simp only [Act.put, List.setIfInBounds_toArray, List.set_cons_zero, List.set_cons_succ]
          refine wpHead_take (i := 13) (oi := ⟨some 13, _, _, _, _, _⟩) (v := ?_) rfl (by kernel_rfl) (fun _ _ _ h => h) (Or.inl ⟨by rfl, ?_⟩) hHeld ?_
          rotate_left
          · (intro w hSw; (try dsimp only at hSw); go_simp; try with_reducible rfl)
          try simp only [Act.put, List.setIfInBounds_toArray, List.set_cons_zero, List.set_cons_succ]
          refine wpHead_done (by kernel_rfl) ?_
          simp only [List.drop_succ_cons, List.drop_zero]
          go_wp2_with fail
          go_meet
          exact ⟨wz.heap.size, Rg, Ag, ng, cg, tg, kg, rfl, rfl, rfl, Lib.hid AP.out.out, Lib.hid (RvAt.ofA AP.out), Lib.hid (FZ.out.alloc _), Lib.hid FZ.out.size⟩

        · refine fun K hK => ?_
          go_simp
          skip
          refine hK.out _ _ ?_ (fun hHeld => ?_)
          · exact HSW.out _ ((Fr.refl [] wa).drew.alloc _)
          clear hK K
          try simp only [Act.put, List.setIfInBounds_toArray, List.set_cons_zero, List.set_cons_succ]
          refine wpHead_one (i := 6) (o := ⟨some 53, _, _, _, _, _⟩) rfl (by kernel_rfl) (by decide) (fun K hK => ?_)
          go_simp
          refine (HAR.out _ ((Fr.refl [] wa).drew.alloc _)).mono ?_
          rintro e wz ⟨Rg, Ag, ng, cg, tg, kg, rfl, hap, hfz⟩
          have AP := Lib.hid hap
          have FZ := Lib.hid hfz
          have hbz := Blk.fr (w := _) (g := wa.heap.size) (t := 34) (cs := #[.slice none 0 0, .int .i64 0, .bool false]) (Blk.new wa.drew _ _) hap.fr (by simp)
          have z0 := hbz.frozen 0
          have z1 := hbz.frozen 1
          have z2 := hbz.frozen 2
          have u0 := hbz.cell 0
          have u1 := hbz.cell 1
          have u2 := hbz.cell 2
          have HBZ := Lib.hid hbz
          clear hbz hap hfz
          refine hK.out _ _ ?_ (fun hHeld => ?_)
          · exact HSW.out _ FZ.out
          clear hK K
          try simp only [Act.put, List.setIfInBounds_toArray, List.set_cons_zero, List.set_cons_succ]
          refine wpHead_take (i := 7) (oi := ⟨some 46, _, _, _, _, _⟩) (v := ?_) rfl (by kernel_rfl) (fun _ _ _ h => h) (Or.inl ⟨by rfl, ?_⟩) hHeld ?_
          rotate_left
          · (intro w hSw; (try dsimp only at hSw); go_simp; try with_reducible rfl)
          try simp only [Act.put, List.setIfInBounds_toArray, List.set_cons_zero, List.set_cons_succ]
          refine wpHead_take (i := 8) (oi := ⟨some 54, _, _, _, _, _⟩) (v := ?_) rfl (by kernel_rfl) (fun _ _ _ h => h) (Or.inl ⟨by rfl, ?_⟩) hHeld ?_
          rotate_left
          · (intro w hSw; (try dsimp only at hSw); go_simp; try with_reducible rfl)
          try simp only [Act.put, List.setIfInBounds_toArray, List.set_cons_zero, List.set_cons_succ]
          refine wpHead_take (i := 9) (oi := ⟨some 55, _, _, _, _, _⟩) (v := ?_) rfl (by kernel_rfl) (fun _ _ _ h => h) (Or.inl ⟨by rfl, ?_⟩) hHeld ?_
          rotate_left
          · (intro w hSw; (try dsimp only at hSw); go_simp; try with_reducible rfl)
          try simp only [Act.put, List.setIfInBounds_toArray, List.set_cons_zero, List.set_cons_succ]
          refine wpHead_take (i := 10) (oi := ⟨some 56, _, _, _, _, _⟩) (v := ?_) rfl (by kernel_rfl) (fun _ _ _ h => h) (Or.inl ⟨by rfl, ?_⟩) hHeld ?_
          rotate_left
          · (intro w hSw; (try dsimp only at hSw); go_simp; try with_reducible rfl)
          try simp only [Act.put, List.setIfInBounds_toArray, List.set_cons_zero, List.set_cons_succ]
          refine wpHead_one (i := 12) (o := ⟨none, _, _, _, _, _⟩) rfl (by kernel_rfl) (by decide) (fun K hK => ?_)
          go_simp
          skip
          refine hK.out _ _ ?_ (fun hHeld => ?_)
          · exact HSW.out _ (((FZ.out.setCell (.inr (Nat.le_refl _)) _).setCell (.inr (Nat.le_refl _)) _).setCell (.inr (Nat.le_refl _)) _)
          clear hK K
          try simp only [Act.put, List.setIfInBounds_toArray, List.set_cons_zero, List.set_cons_succ]
          refine wpHead_take (i := 13) (oi := ⟨some 13, _, _, _, _, _⟩) (v := ?_) rfl (by kernel_rfl) (fun _ _ _ h => h) (Or.inl ⟨by rfl, ?_⟩) hHeld ?_
          rotate_left
          · (intro w hSw; (try dsimp only at hSw); go_simp; try with_reducible rfl)
          try simp only [Act.put, List.setIfInBounds_toArray, List.set_cons_zero, List.set_cons_succ]
          refine wpHead_done (by kernel_rfl) ?_
          simp only [List.drop_succ_cons, List.drop_zero]
          go_wp2_with fail
          go_meet
          exact ⟨wa.heap.size, Rg, Ag, ng, cg, tg, kg, rfl, rfl, rfl, Lib.hid AP.out.out, Lib.hid (RvAt.ofB AP.out HBZ.out).1, Lib.hid (((FZ.out.setCell (.inr (Nat.le_refl _)) _).setCell (.inr (Nat.le_refl _)) _).setCell (.inr (Nat.le_refl _)) _), Lib.hid (Nat.le_refl _)⟩

      case rest =>
      clear HSW HAR s0
      obtain ⟨gw, Rw, Aw, nw, cw, tw, kw, rfl, rfl, rfl, HAO, RVw, Fw, HGw⟩ := hcut
      clear hbb
      replace RVa := Lib.hid (RVa.out.fr0 Fw.out)
      replace PG := Lib.hid (PG.out.fr0 Fw.out)
      clear Fw
      have hr : Blk wc ga 34 #[.slice Aa na ca, .int .i64 Ra.value, .bool Ra.found] := RVa.out.blk
      go_upto_region 13 with (refine wpList_load_row rfl _ _ rfl ga rfl 34 _ (0, 0) _ hr Tryz.underlying34 rfl (by kernel_rfl) ?_)
      clear hr
      have F5 : Fr [] wc (wc.alloc (.cells #[.slice Aa na ca, .int .i64 Ra.value, .bool Ra.found] 34)) := (Fr.refl [] wc).alloc _
      have SP : Hid (SpAt w (wc.alloc (.cells #[.slice Aa na ca, .int .i64 Ra.value, .bool Ra.found] 34)) bs ms gq l (some ⟨bb', off', none⟩) n2 c2 q s gw Aw nw cw Rw wc.heap.size Aa na ca Ra) := Lib.hid ⟨PG.out.fr0 F5, RVw.out.fr0 F5, ⟨R7At.new wc _ _ _, RVa.out.rows.fr0 F5, RVa.out.len⟩, Nat.ne_of_lt (Blk.lt RVw.out.blk), PG.out.fr.size⟩
      clear F5 RVa RVw PG
      generalize hw5 : wc.alloc (.cells #[.slice Aa na ca, .int .i64 Ra.value, .bool Ra.found] 34) = wp at *
      clear hw5
      generalize wc.heap.size = gp at *
      go_wp2_with fail
      go_loopw [16, 17, 18] (fun va vf vj wr => ∃ (i : Nat) (ab fb : Bool) (Rp : Res) (Ap : Option Addr) (np cp : Nat), va = .bool ab ∧ vf = .bool fb ∧ vj = .int .i64 i ∧ i ≤ nk ∧ Hid (Pm.Sp q r.cs Ra i Rp ab fb) ∧ Hid (np ≤ 4000 + 2 * i) ∧ Hid (SpAt w wr bs ms gq l (some ⟨bb', off', none⟩) n2 c2 q s gw Aw nw cw Rw gp Ap np cp Rp)) (fun _ _ vj _ => nk - (intOf vj).toNat)
      case atStart => exact ⟨0, false, true, Ra, Aa, na, ca, rfl, rfl, rfl, Nat.zero_le _, Lib.hid (Pm.Sp.start _ _ _), Lib.hid (by have := SP.out.pt.len; have := HBa.out.1; omega), SP⟩
      case round =>
        clear SP
        obtain ⟨i, ab, fb, Rp, Ap, np, cp, rfl, rfl, rfl, hi, HSP, HNP, SP⟩ := hrel
        obtain ⟨bb'', off'', Ak'', ck'', hA', hbb3, hc0, hc1, hhc, _, hcap⟩ := SP.out.pg.openC hkl
        rw [HR.out] at hc0 hc1 hhc hcap
        rw [← HNK.out] at hc1 hcap
        have HCAP := Lib.hid hcap
        clear hcap
        have eA : bb'' = bb' ∧ off'' = off' := by
          injection hA' with hA'
          injection hA' with h1 h2
          exact ⟨h1.symm, h2.symm⟩
        obtain ⟨rfl, rfl⟩ := eA
        clear hA' hc0
        by_cases hgo : i < nk ∧ fb = true
        · obtain ⟨hlt2, rfl⟩ := hgo
          have hil : i < r.cs.length := by rw [← HNK.out]; exact hlt2
          obtain ⟨b3, off3, hA3, hb3, hc3⟩ := hhc.1 (by omega)
          subst hA3
          have HCH : Hid (ChgsAt wr (some ⟨b3, off3 + i * 10, none⟩) [r.cs[i]]) := Lib.hid (fun _ => ⟨b3, off3 + i * 10, rfl, hb3, fun i' hi' j hj => by
            obtain rfl : i' = 0 := by simp at hi'; omega
            have h := hc3 i hil j hj
            simpa using h⟩)
          have HPV := Lib.hid (HSP.out.val HBa.out.2 (by omega))
          have HPL : Hid (Rp.rows.length ≤ 5000) := Lib.hid (by have := SP.out.pt.len; have := HNP.out; omega)
          go_upto_region 18 with (fail)
          have HBp : Hid (Rp.rows.length ≤ 5000 ∧ -3000000000000 ≤ Rp.value ∧ Rp.value ≤ 3000000000000) := Lib.hid ⟨HPL.out, HPV.out⟩
          have PG := Lib.hid SP.out.pg
          have RVp := Lib.hid SP.out.pt
          have hcap : nk ≤ ck'' := HCAP.out
          have hi1 : i + 1 ≤ ck'' := by omega
          have hW1 : IntKind.i64.wrap ((i : Int) + 1) = ((i + 1 : Nat) : Int) := by rw [IntWalk.i64_in _ (by omega)]; omega
          have hP1 : 0 ≤ (i : Int) + 1 ∧ (i : Int) + 1 ≤ (ck'' : Int) := by omega
          have hT1 : ((i + 1 : Nat) : Int).toNat = i + 1 := by omega
          have hQ1 : i ≤ i + 1 := by omega
          have hN1 : ¬ ck'' = i := by omega
          have hD1 : i + 1 - i = 1 := by omega
          have HSW : Hid (∀ w', Fr [] wr w' → Blk w' gq 28 #[.int .i64 q.kind, .int .i64 q.table, .int .i64 q.column, .int .i64 q.low, .int .i64 q.high, .int .i64 q.by_, .int .i64 q.other] ∧ Blk w' gp 34 #[.slice Ap np cp, .int .i64 Rp.value, .bool Rp.found] ∧ w'.cell? ⟨bb'', off'' + k * 2 + 1, none⟩ = some (.slice (some ⟨b3, off3, none⟩) nk ck'')) := Lib.hid (fun w' hf => ⟨(PG.out.fr0 hf).q, (RVp.out.fr0 hf).blk, (hf.rules.1 bb'' _ hbb3).trans hc1⟩)
          have HAR : Hid (∀ w1, Fr [] wr w1 → Calls Tryz.prog 16 #[q.val, .agg #[.slice Ap np cp, .int .i64 Rp.value, .bool Rp.found], .agg #[.int .i64 1, .slice (some ⟨b3, off3 + i * 10, none⟩) 1 (ck'' - i)]] w1 fun e w' => ∃ (r' : Res) (A' : Option Addr) (n' c' : Nat) (t k : Bool), e = .returned (.tuple #[.agg #[.slice A' n' c', .int .i64 r'.value, .bool r'.found], .bool t, .bool k]) ∧ ApAt w1 w' (Pm.apply q Rp [r.cs[i]]) A' n' r' t k (np + 2 * 1) ∧ Fr [] wr w') := Lib.hid (fun w1 hf => (apply_rv HOKI.out (RVp.out.fr0 hf) (Nat.le_trans HBp.out.1 (by decide)) (by have := HBp.out.2; omega) (ck := ck'' - i) (p := 1) (nk := 1) (Ak := some ⟨b3, off3 + i * 10, none⟩) (cs := [r.cs[i]]) (HCH.out.fr hf (by simp)) (Nat.le_of_ble_eq_true rfl) (List.length_singleton).symm).mono (fun e w' ⟨r', A', n', c', t, k, h1, h2⟩ => ⟨r', A', n', c', t, k, h1, h2, hf.trans h2.fr⟩))
          have s0 := HSW.out _ (Fr.refl [] _)
          skip
          go_cut [19, 20, 21] (fun vp vt vk wn => ∃ (gg : Nat) (Rg : Res) (Ag : Option Addr) (ng cg : Nat) (tg kg : Bool), vp = .pointer (some ⟨gg, 0, none⟩) ∧ vt = .bool tg ∧ vk = .bool kg ∧ Hid (AOut (Pm.apply q Rp [r.cs[i]]) Rg tg kg) ∧ Hid (RvAt wn gg Ag ng cg Rg) ∧ Hid (ng ≤ np + 2 * 1) ∧ Hid (Fr [] wr wn) ∧ Hid (wr.heap.size ≤ gg))
          case first =>
            refine wp_region_head (fun W => Blk W gq 28 #[.int .i64 q.kind, .int .i64 q.table, .int .i64 q.column, .int .i64 q.low, .int .i64 q.high, .int .i64 q.by_, .int .i64 q.other] ∧ Blk W gp 34 #[.slice Ap np cp, .int .i64 Rp.value, .bool Rp.found] ∧ W.cell? ⟨bb'', off'' + k * 2 + 1, none⟩ = some (.slice (some ⟨b3, off3, none⟩) nk ck'')) 20 (by kernel_rfl) (by kernel_rfl) (HSW.out _ (Fr.refl [] wr).drew) (fun hHeld => ?_)
            refine wpHead_take (i := 0) (oi := ⟨some 72, _, _, _, _, _⟩) (v := .agg (#[.int .i64 q.kind, .int .i64 q.table, .int .i64 q.column, .int .i64 q.low, .int .i64 q.high, .int .i64 q.by_, .int .i64 q.other])) rfl (by kernel_rfl) (fun _ _ _ h => h) (yieldsIf_load_blk (by rfl) _ _ rfl gq rfl 28 (#[.int .i64 q.kind, .int .i64 q.table, .int .i64 q.column, .int .i64 q.low, .int .i64 q.high, .int .i64 q.by_, .int .i64 q.other]) _ (fun _ h => h.1) Tryz.underlying28 rfl (by kernel_rfl)) hHeld ?_
            try simp only [Act.put, List.setIfInBounds_toArray, List.set_cons_zero, List.set_cons_succ]
            refine wpHead_take (i := 1) (oi := ⟨some 73, _, _, _, _, _⟩) (v := .agg (#[.slice Ap np cp, .int .i64 Rp.value, .bool Rp.found])) rfl (by kernel_rfl) (fun _ _ _ h => h) (yieldsIf_load_blk (by rfl) _ _ rfl gp rfl 34 (#[.slice Ap np cp, .int .i64 Rp.value, .bool Rp.found]) _ (fun _ h => h.2.1) Tryz.underlying34 rfl (by kernel_rfl)) hHeld ?_
            try simp only [Act.put, List.setIfInBounds_toArray, List.set_cons_zero, List.set_cons_succ]
            refine wpHead_take (i := 2) (oi := ⟨some 74, _, _, _, _, _⟩) (v := ?_) rfl (by kernel_rfl) (fun _ _ _ h => h) (Or.inl ⟨by rfl, ?_⟩) hHeld ?_
            rotate_left
            · (intro w hSw; (try dsimp only at hSw); go_simp; try with_reducible rfl)
            try simp only [Act.put, List.setIfInBounds_toArray, List.set_cons_zero, List.set_cons_succ]
            refine wpHead_take (i := 3) (oi := ⟨some 75, _, _, _, _, _⟩) (v := ?_) rfl (by kernel_rfl) (fun _ _ _ h => h) (Or.inl ⟨by rfl, ?_⟩) hHeld ?_
            rotate_left
            · (intro w hSw; (try dsimp only at hSw); go_simp; try with_reducible rfl)
            try simp only [Act.put, List.setIfInBounds_toArray, List.set_cons_zero, List.set_cons_succ]
            refine wpHead_take (i := 4) (oi := ⟨some 76, _, _, _, _, _⟩) (v := ?_) rfl (by kernel_rfl) (fun _ _ _ h => h) (Or.inl ⟨by rfl, ?_⟩) hHeld ?_
            rotate_left
            · (intro w hSw; (try dsimp only at hSw); go_simp; try with_reducible rfl)
            try simp only [Act.put, List.setIfInBounds_toArray, List.set_cons_zero, List.set_cons_succ]
            refine wpHead_take (i := 5) (oi := ⟨some 77, _, _, _, _, _⟩) (v := ?_) rfl (by kernel_rfl) (fun _ _ _ h => h) (Or.inl ⟨by rfl, ?_⟩) hHeld ?_
            rotate_left
            · (intro w hSw; (try dsimp only at hSw); go_simp; try with_reducible rfl)
            try simp only [Act.put, List.setIfInBounds_toArray, List.set_cons_zero, List.set_cons_succ]
            refine wpHead_take (i := 6) (oi := ⟨some 78, _, _, _, _, _⟩) (v := ?_) rfl (by kernel_rfl) (fun _ _ _ h => h) (Or.inl ⟨by rfl, ?_⟩) hHeld ?_
            rotate_left
            · (intro w hSw; (try dsimp only at hSw); go_simp; try with_reducible rfl)
            try simp only [Act.put, List.setIfInBounds_toArray, List.set_cons_zero, List.set_cons_succ]
            refine wpHead_take (i := 7) (oi := ⟨some 79, _, _, _, _, _⟩) (v := ?_) rfl (by kernel_rfl) (fun _ _ _ h => h) (Or.inl ⟨by rfl, ?_⟩) hHeld ?_
            rotate_left
            · (intro w hSw; (try dsimp only at hSw); go_simp; try with_reducible rfl)
            try simp only [Act.put, List.setIfInBounds_toArray, List.set_cons_zero, List.set_cons_succ]
            refine wpHead_take (i := 8) (oi := ⟨some 80, _, _, _, _, _⟩) (v := ?_) rfl (by kernel_rfl) (fun _ _ _ h => h) (Or.inl ⟨by rfl, ?_⟩) hHeld ?_
            rotate_left
            · (intro w hSw; (try dsimp only at hSw); go_simp; try with_reducible rfl)
            try simp only [Act.put, List.setIfInBounds_toArray, List.set_cons_zero, List.set_cons_succ]
            refine wpHead_take (i := 9) (oi := ⟨some 81, _, _, _, _, _⟩) (v := ?_) rfl (by kernel_rfl) (fun _ _ _ h => h) (Or.inl ⟨by rfl, ?_⟩) hHeld ?_
            rotate_left
            · (intro w hSw; (try dsimp only at hSw); go_simp; try with_reducible rfl)
            try simp only [Act.put, List.setIfInBounds_toArray, List.set_cons_zero, List.set_cons_succ]
            refine wpHead_take (i := 10) (oi := ⟨some 82, _, _, _, _, _⟩) (v := ?_) rfl (by kernel_rfl) (fun _ _ _ h => h) (Or.inl ⟨by rfl, ?_⟩) hHeld ?_
            rotate_left
            · (intro w hSw; (try dsimp only at hSw); go_simp; first | with_reducible rfl | rw [if_pos hP1])
            try simp only [Act.put, List.setIfInBounds_toArray, List.set_cons_zero, List.set_cons_succ]
            refine wpHead_take (i := 11) (oi := ⟨some 83, _, _, _, _, _⟩) (v := ?_) rfl (by kernel_rfl) (fun _ _ _ h => h) (Or.inl ⟨by rfl, ?_⟩) hHeld ?_
            rotate_left
            · (intro w hSw; (try dsimp only at hSw); go_simp; try with_reducible rfl)
            try simp only [Act.put, List.setIfInBounds_toArray, List.set_cons_zero, List.set_cons_succ]
            refine wpHead_two (i := 12) (j := 17) (oi := ⟨some 84, _, _, _, _, _⟩) (oj := ⟨some 19, _, _, _, _, _⟩) rfl rfl (by kernel_rfl) (by decide) (by decide) ?_ ?_
            · refine fun K hK => ?_
              go_simp
              refine (HAR.out _ (Fr.refl [] wr).drew).mono ?_
              rintro e wz ⟨Rg, Ag, ng, cg, tg, kg, rfl, hap, hfz⟩
              have AP := Lib.hid hap
              have FZ := Lib.hid hfz
              refine hK.out _ _ ?_ (fun hHeld => ?_)
              · exact HSW.out _ FZ.out
              clear hK K
              try simp only [Act.put, List.setIfInBounds_toArray, List.set_cons_zero, List.set_cons_succ]
              clear hap hfz
              refine wpHead_take (i := 13) (oi := ⟨some 71, _, _, _, _, _⟩) (v := ?_) rfl (by kernel_rfl) (fun _ _ _ h => h) (Or.inl ⟨by rfl, ?_⟩) hHeld ?_
              rotate_left
              · (intro w hSw; (try dsimp only at hSw); go_simp; try with_reducible rfl)
              try simp only [Act.put, List.setIfInBounds_toArray, List.set_cons_zero, List.set_cons_succ]
              refine wpHead_take (i := 14) (oi := ⟨some 85, _, _, _, _, _⟩) (v := ?_) rfl (by kernel_rfl) (fun _ _ _ h => h) (Or.inl ⟨by rfl, ?_⟩) hHeld ?_
              rotate_left
              · (intro w hSw; (try dsimp only at hSw); go_simp; try with_reducible rfl)
              try simp only [Act.put, List.setIfInBounds_toArray, List.set_cons_zero, List.set_cons_succ]
              refine wpHead_take (i := 15) (oi := ⟨some 86, _, _, _, _, _⟩) (v := ?_) rfl (by kernel_rfl) (fun _ _ _ h => h) (Or.inl ⟨by rfl, ?_⟩) hHeld ?_
              rotate_left
              · (intro w hSw; (try dsimp only at hSw); go_simp; try with_reducible rfl)
              try simp only [Act.put, List.setIfInBounds_toArray, List.set_cons_zero, List.set_cons_succ]
              refine wpHead_take (i := 16) (oi := ⟨some 87, _, _, _, _, _⟩) (v := ?_) rfl (by kernel_rfl) (fun _ _ _ h => h) (Or.inl ⟨by rfl, ?_⟩) hHeld ?_
              rotate_left
              · (intro w hSw; (try dsimp only at hSw); go_simp; try with_reducible rfl)
              try simp only [Act.put, List.setIfInBounds_toArray, List.set_cons_zero, List.set_cons_succ]
              refine wpHead_one (i := 17) (o := ⟨some 19, _, _, _, _, _⟩) rfl (by kernel_rfl) (by decide) (fun K hK => ?_)
              go_simp
              skip
              refine hK.out _ _ ?_ (fun hHeld => ?_)
              · exact HSW.out _ (FZ.out.alloc _)
              clear hK K
              try simp only [Act.put, List.setIfInBounds_toArray, List.set_cons_zero, List.set_cons_succ]
              refine wpHead_one (i := 18) (o := ⟨none, _, _, _, _, _⟩) rfl (by kernel_rfl) (by decide) (fun K hK => ?_)
              go_simp
              skip
              refine hK.out _ _ ?_ (fun hHeld => ?_)
              · exact HSW.out _ (FZ.out.alloc _)
              clear hK K
              try simp only [Act.put, List.setIfInBounds_toArray, List.set_cons_zero, List.set_cons_succ]
              refine wpHead_take (i := 19) (oi := ⟨some 20, _, _, _, _, _⟩) (v := ?_) rfl (by kernel_rfl) (fun _ _ _ h => h) (Or.inl ⟨by rfl, ?_⟩) hHeld ?_
              rotate_left
              · (intro w hSw; (try dsimp only at hSw); go_simp; try with_reducible rfl)
              try simp only [Act.put, List.setIfInBounds_toArray, List.set_cons_zero, List.set_cons_succ]
              refine wpHead_done (by kernel_rfl) ?_
              simp only [List.drop_succ_cons, List.drop_zero]
              go_wp2_with fail
              go_meet
              exact ⟨wz.heap.size, Rg, Ag, ng, cg, tg, kg, rfl, rfl, rfl, Lib.hid AP.out.out, Lib.hid (RvAt.ofA AP.out), Lib.hid AP.out.le, Lib.hid (FZ.out.alloc _), Lib.hid FZ.out.size⟩

            · refine fun K hK => ?_
              go_simp
              skip
              refine hK.out _ _ ?_ (fun hHeld => ?_)
              · exact HSW.out _ ((Fr.refl [] wr).drew.alloc _)
              clear hK K
              try simp only [Act.put, List.setIfInBounds_toArray, List.set_cons_zero, List.set_cons_succ]
              refine wpHead_one (i := 12) (o := ⟨some 84, _, _, _, _, _⟩) rfl (by kernel_rfl) (by decide) (fun K hK => ?_)
              go_simp
              refine (HAR.out _ ((Fr.refl [] wr).drew.alloc _)).mono ?_
              rintro e wz ⟨Rg, Ag, ng, cg, tg, kg, rfl, hap, hfz⟩
              have AP := Lib.hid hap
              have FZ := Lib.hid hfz
              have hbz := Blk.fr (w := _) (g := wr.heap.size) (t := 34) (cs := #[.slice none 0 0, .int .i64 0, .bool false]) (Blk.new wr.drew _ _) hap.fr (by simp)
              have z0 := hbz.frozen 0
              have z1 := hbz.frozen 1
              have z2 := hbz.frozen 2
              have u0 := hbz.cell 0
              have u1 := hbz.cell 1
              have u2 := hbz.cell 2
              have HBZ := Lib.hid hbz
              clear hbz hap hfz
              refine hK.out _ _ ?_ (fun hHeld => ?_)
              · exact HSW.out _ FZ.out
              clear hK K
              try simp only [Act.put, List.setIfInBounds_toArray, List.set_cons_zero, List.set_cons_succ]
              refine wpHead_take (i := 13) (oi := ⟨some 71, _, _, _, _, _⟩) (v := ?_) rfl (by kernel_rfl) (fun _ _ _ h => h) (Or.inl ⟨by rfl, ?_⟩) hHeld ?_
              rotate_left
              · (intro w hSw; (try dsimp only at hSw); go_simp; try with_reducible rfl)
              try simp only [Act.put, List.setIfInBounds_toArray, List.set_cons_zero, List.set_cons_succ]
              refine wpHead_take (i := 14) (oi := ⟨some 85, _, _, _, _, _⟩) (v := ?_) rfl (by kernel_rfl) (fun _ _ _ h => h) (Or.inl ⟨by rfl, ?_⟩) hHeld ?_
              rotate_left
              · (intro w hSw; (try dsimp only at hSw); go_simp; try with_reducible rfl)
              try simp only [Act.put, List.setIfInBounds_toArray, List.set_cons_zero, List.set_cons_succ]
              refine wpHead_take (i := 15) (oi := ⟨some 86, _, _, _, _, _⟩) (v := ?_) rfl (by kernel_rfl) (fun _ _ _ h => h) (Or.inl ⟨by rfl, ?_⟩) hHeld ?_
              rotate_left
              · (intro w hSw; (try dsimp only at hSw); go_simp; try with_reducible rfl)
              try simp only [Act.put, List.setIfInBounds_toArray, List.set_cons_zero, List.set_cons_succ]
              refine wpHead_take (i := 16) (oi := ⟨some 87, _, _, _, _, _⟩) (v := ?_) rfl (by kernel_rfl) (fun _ _ _ h => h) (Or.inl ⟨by rfl, ?_⟩) hHeld ?_
              rotate_left
              · (intro w hSw; (try dsimp only at hSw); go_simp; try with_reducible rfl)
              try simp only [Act.put, List.setIfInBounds_toArray, List.set_cons_zero, List.set_cons_succ]
              refine wpHead_one (i := 18) (o := ⟨none, _, _, _, _, _⟩) rfl (by kernel_rfl) (by decide) (fun K hK => ?_)
              go_simp
              skip
              refine hK.out _ _ ?_ (fun hHeld => ?_)
              · exact HSW.out _ (((FZ.out.setCell (.inr (Nat.le_refl _)) _).setCell (.inr (Nat.le_refl _)) _).setCell (.inr (Nat.le_refl _)) _)
              clear hK K
              try simp only [Act.put, List.setIfInBounds_toArray, List.set_cons_zero, List.set_cons_succ]
              refine wpHead_take (i := 19) (oi := ⟨some 20, _, _, _, _, _⟩) (v := ?_) rfl (by kernel_rfl) (fun _ _ _ h => h) (Or.inl ⟨by rfl, ?_⟩) hHeld ?_
              rotate_left
              · (intro w hSw; (try dsimp only at hSw); go_simp; try with_reducible rfl)
              try simp only [Act.put, List.setIfInBounds_toArray, List.set_cons_zero, List.set_cons_succ]
              refine wpHead_done (by kernel_rfl) ?_
              simp only [List.drop_succ_cons, List.drop_zero]
              go_wp2_with fail
              go_meet
              exact ⟨wr.heap.size, Rg, Ag, ng, cg, tg, kg, rfl, rfl, rfl, Lib.hid AP.out.out, Lib.hid (RvAt.ofB AP.out HBZ.out).1, Lib.hid AP.out.le, Lib.hid (((FZ.out.setCell (.inr (Nat.le_refl _)) _).setCell (.inr (Nat.le_refl _)) _).setCell (.inr (Nat.le_refl _)) _), Lib.hid (Nat.le_refl _)⟩

          case rest =>
          clear HSW HAR s0
          obtain ⟨gn, Rn, An, nn, cn, tn, kn, rfl, rfl, rfl, HAO, RVn, HLE, Fn, HGn⟩ := hcut
          have HSTEP := Lib.hid (HSP.out.step hil HAO.out)
          have SPn := Lib.hid (SP.out.fr0 Fn.out)
          have SP2 := Lib.hid (SPn.out.set RVn.out)
          have bn := RVn.out.blk
          have z0 := SPn.out.pt.blk.frozen 0
          have z1 := SPn.out.pt.blk.frozen 1
          have z2 := SPn.out.pt.blk.frozen 2
          have u0 := SPn.out.pt.blk.cell 0
          have u1 := SPn.out.pt.blk.cell 1
          have u2 := SPn.out.pt.blk.cell 2
          clear Fn HGn HAO PG RVp SP
          go_upto_region 20 with (refine wpList_load_row rfl _ _ rfl gn rfl 34 _ (0, 0) _ bn Tryz.underlying34 rfl (by kernel_rfl) ?_)
          clear bn z0 z1 z2 u0 u1 u2 SPn RVn hW1 hP1 hT1 hQ1 hN1 hD1
          cases ab
          · go_wp2_with fail
            go_roundw
            case rel => exact ⟨i + 1, tn, kn, Rn, An, nn, cn, rfl, rfl, by go_num, by omega, Lib.hid (by simpa using HSTEP.out), Lib.hid (by have := HNP.out; have := HLE.out; omega), SP2⟩
            case measure => simp [intOf]; omega
          · go_wp2_with fail
            go_roundw
            case rel => exact ⟨i + 1, true, kn, Rn, An, nn, cn, rfl, rfl, by go_num, by omega, Lib.hid (by simpa using HSTEP.out), Lib.hid (by have := HNP.out; have := HLE.out; omega), SP2⟩
            case measure => simp [intOf]; omega
        · have hx : i = nk ∨ fb = false := by
            by_cases h1 : i < nk
            · right
              cases fb
              · rfl
              · exact absurd ⟨h1, rfl⟩ hgo
            · left
              omega
          have hd := HSP.out.done (by rw [← HNK.out]; exact hx) HAO.out
          obtain ⟨rfl, rfl, rfl⟩ := hd
          have m0 := SP.out.wh.blk.c0
          have m1 := SP.out.wh.blk.c1
          have m2 := SP.out.wh.blk.c2
          have n0 := SP.out.pt.blk.c0
          have n1 := SP.out.pt.blk.c1
          have n2' := SP.out.pt.blk.c2
          obtain ⟨bb4, off4, Ak4, ck4, hA4, hbb4, hd0, hd1, hhd, _⟩ := SP.out.pg.open_ hkl
          rw [HR.out] at hd0 hd1 hhd
          rw [← HNK.out] at hd1
          rw [← HPK.out] at hd0
          have eA : bb4 = bb'' ∧ off4 = off'' := by
            injection hA4 with hA4
            injection hA4 with h1 h2
            exact ⟨h1.symm, h2.symm⟩
          obtain ⟨rfl, rfl⟩ := eA
          have HD0 := Lib.hid hd0
          have HD1 := Lib.hid hd1
          have HBB := Lib.hid hbb4
          have HAPP := Lib.hid (fun W (hf : Fr [] wr W) => (SP.out.pg.fr0 hf).apply (p := pk) (cap := ck4) (hhd.fr hf NoC.nil) (by rw [← HNK.out]; exact hl8) HNK.out HPK.out HFIT.out)
          have HS5 := Lib.hid (same_rv5 SP.out.wh SP.out.pt (by have := SP.out.pt.len; have := HNP.out; omega) (by have := SP.out.pt.len; have := HNP.out; omega) (decide_eq_true rfl))
          clear hA4 hd0 hd1 hbb4 hbb3 hx hhc hhd
          by_cases h1 : i < nk
          · have hfb : fb = false := by
              cases fb
              · rfl
              · exact absurd ⟨h1, rfl⟩ hgo
            subst hfb
            clear hgo
            cases ab
            all_goals
              go_wp2_with fail
              refine HS5.out.mono ?_
              rintro e w8 ⟨rfl, f8⟩
              have c0 := (f8.rules.1 _ _ HBB.out).trans HD0.out
              have c1 := (f8.rules.1 _ _ HBB.out).trans HD1.out
              go_wp2_with fail
              refine (HAPP.out _ f8).mono ?_
              rintro e w9 ⟨rfl, hpg, -⟩
              rw [← HRUN.out] at hpg
              have PG9 := Lib.hid hpg
              clear hpg c0 c1 f8
              go_wp2_with fail
              go_roundw
              case rel => exact ⟨k + 1, by go_num, by omega, PG9⟩
              case measure => simp [intOf]; omega
          · have d1 : decide ((i : Int) < (nk : Int)) = false := decide_eq_false (by omega)
            clear hgo
            cases fb <;> cases ab
            all_goals
              go_wp2_with fail
              refine HS5.out.mono ?_
              rintro e w8 ⟨rfl, f8⟩
              have c0 := (f8.rules.1 _ _ HBB.out).trans HD0.out
              have c1 := (f8.rules.1 _ _ HBB.out).trans HD1.out
              go_wp2_with fail
              refine (HAPP.out _ f8).mono ?_
              rintro e w9 ⟨rfl, hpg, -⟩
              rw [← HRUN.out] at hpg
              have PG9 := Lib.hid hpg
              clear hpg c0 c1 f8
              go_wp2_with fail
              go_roundw
              case rel => exact ⟨k + 1, by go_num, by omega, PG9⟩
              case measure => simp [intOf]; omega
    · go_wp2_with fail
      go_ret
      exact ⟨rfl, PG.out.fr.below⟩
end Go.Proofs.YtjiikpmkedkbkaaGreat
