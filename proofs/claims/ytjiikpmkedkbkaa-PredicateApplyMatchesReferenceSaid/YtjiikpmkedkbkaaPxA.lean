/-
  PredicateApplyMatchesReference: the walk of the law.
-/
import Derived.Test.YtjiikpmkedkbkaaPxM
import Derived.Test.YtjiikpmkedkbkaaHh
import Derived.Test.YtjiikpmkedkbkaaHf
import Derived.Test.YtjiikpmkedkbkaaGao
namespace Go.Proofs.Ytjiikpmkedkbkaa
open Go.RowKit

theorem rapply_rv {w : World} {g : Nat} {A : Option Addr} {n c : Nat} {r : Res} {q : Qry} (h : RvAt w g A n c r) (hl : n ≤ 5000) (hb : -1000000000000000000 ≤ r.value ∧ r.value ≤ 1000000000000000000) {Ak : Option Addr} {nk ck : Nat} {p : Int} {cs : List Chg} (hc : ChgsAt w Ak cs) (hk : nk ≤ 8) (hn : nk = cs.length) :
    Calls Try.prog 19 #[q.val, .agg #[.slice A n c, .int .i64 r.value, .bool r.found], .agg #[.int .i64 p, .slice Ak nk ck]] w fun e w' => ∃ (r' : Res) (A' : Option Addr) (n' c' : Nat) (t k : Bool), e = .returned (.tuple #[.agg #[.slice A' n' c', .int .i64 r'.value, .bool r'.found], .bool t, .bool k]) ∧ ApAt w w' (Pm.apply q r cs) A' n' r' t k (n + 2 * nk) := by
  refine (rapply7_any q A n c r.value r.found r.rows p Ak nk ck cs w h.rows h.len (by omega) hb.1 hb.2 hc hn).mono ?_
  rintro e w' ⟨A', n', c', m', f', t, k, he, hp⟩
  obtain ⟨r', rfl, rfl, ha⟩ := hp.ap
  exact ⟨r', A', n', c', t, k, he, ha⟩
theorem rfapply_n (b : Nat) (v : Value) (L : List RowV) (s : Sm.Sta) (r : Rec) (A : Option Addr) (n cap : Nat) (p : Int) (w : World) (h : RfAt w b v L s) (hc : HoldsC w A r.cs) (hlen : r.cs.length ≤ 8) (hn : n = r.cs.length) (hp : p = r.p) (hf : Sm.fits s r = true) :
    Calls Try.prog 20 #[.pointer (some ⟨b, 0, none⟩), .agg #[.int .i64 p, .slice A n cap]] w fun e w' => e = .returned (.int .i64 0) ∧ ∃ v' L', RfAt w' b v' L' (Sm.apply s r) ∧ Fr [b] w w' := by
  subst hn
  subst hp
  refine (rfapply_any b v L s r A cap w h hc (Nat.le_trans hlen (by decide))).mono ?_
  rintro e w' ⟨rfl, v', L', h1, h2, -⟩
  have hcode : Sm.code s r = 0 := by
    have h : Sm.code s r = if Sm.fits s r = true then 0 else 40 := rfl
    rw [h, if_pos hf]
  rw [hcode]
  exact ⟨rfl, v', L', h1, h2⟩
theorem same_rvb {w : World} {g g' : Nat} {A A' : Option Addr} {n n' c c' : Nat} {r : Res} (h : RvAt w g A n c r) (h' : RvAt w g' A' n' c' r) (hl : n ≤ 9000) (hl' : n' ≤ 9000) :
    Calls Try.prog 15 #[.agg #[.slice A n c, .int .i64 r.value, .bool r.found], .agg #[.slice A' n' c', .int .i64 r.value, .bool r.found]] w fun e w' => e = .returned (.bool true) ∧ Fr [] w w' := by
  have h1 := same7_big A n c r.value r.found r.rows A' n' c' r.value r.found r.rows w h.rows h.len h'.rows h'.len hl hl'
  rwa [decide_eq_true rfl] at h1
/-- A result as it lies in a list of results. -/
structure MV where
  A : Option Addr
  n : Nat
  c : Nat
  r : Res
def MV.cells (m : MV) : List Value := [.slice m.A m.n m.c, .int .i64 m.r.value, .bool m.r.found]
theorem MV.len (m : MV) : m.cells.length = 3 := rfl
def MV.Ok (w : World) (m : MV) : Prop := AtL RowV.cells 5 w m.A m.r.rows ∧ m.n = m.r.rows.length ∧ m.n ≤ 4000 ∧ -1000000000000000000 ≤ m.r.value ∧ m.r.value ≤ 1000000000000000000
/-- Between two records. -/
structure AmAt (w0 wr : World) (bs gq gn : Nat) (l : List Rec) (A2 : Option Addr) (n2 c2 : Nat) (q : Qry) (A : Option Addr) (k ca : Nat) (N : Res) (v : Value) (LL : List RowV) (s : Sm.Sta) : Prop where
  rf : RfAt wr bs v LL s
  row : OwnR wr (.slice A2 n2 c2) l
  q : QAt wr gq q
  n : RvAt wr gn A k ca N
  fr : Fr [] w0 wr
  new : w0.heap.size ≤ bs
section
variable {w0 wr w' : World} {bs gq gn : Nat} {l : List Rec} {A2 : Option Addr} {n2 c2 : Nat} {q : Qry} {A : Option Addr} {k ca : Nat} {N : Res} {v v' : Value} {LL LL' : List RowV} {s s' : Sm.Sta}
theorem AmAt.fr0 (h : AmAt w0 wr bs gq gn l A2 n2 c2 q A k ca N v LL s) (hf : Fr [] wr w') : AmAt w0 w' bs gq gn l A2 n2 c2 q A k ca N v LL s :=
  ⟨h.rf.fr0 hf, h.row.keep0 hf, h.q.fr hf (by simp), h.n.fr0 hf, h.fr.trans hf, h.new⟩
theorem AmAt.step (h : AmAt w0 wr bs gq gn l A2 n2 c2 q A k ca N v LL s) (hr : RfAt w' bs v' LL' s') (hf : Fr [bs] wr w') : AmAt w0 w' bs gq gn l A2 n2 c2 q A k ca N v' LL' s' := by
  refine ⟨hr, ?_, h.q.fr hf (by have := Blk.ne h.q h.rf.blk (by decide); simpa using this), ⟨h.n.blk.fr hf (by have := Blk.ne h.n.blk h.rf.blk (by decide); simpa using this), h.n.rows.ne_small h.rf.blk (by simp) hf, h.n.len⟩, h.fr.trans' hf (fun i hi => .inr (by rw [List.mem_singleton] at hi; have := h.new; omega)), h.new⟩
  obtain ⟨us, h1, _⟩ := id h.row
  exact h.row.fr hf (fun g hg => by have := h1.ne h.rf.blk (by decide) hg; simpa using this) (NoC.cons (noC_blk h.rf.blk (by decide)) NoC.nil)
end

set_option maxRecDepth 100000 in
set_option maxHeartbeats 8000000 in
theorem amref_walk (A : Option Addr) (n cap : Nat) (x0 x1 x2 x3 x4 : Int) (AR : Option Addr) (nr cr : Nat) (LR : List RowV) (z : Int) (fl : Bool) (w : World) (hn : n ≤ cap) (hcap : cap ≤ maxLen) (hx : n = 0 ∨ ∃ bx ox, A = some ⟨bx, ox, none⟩ ∧ SixAt w bx ox n) (o0 : okI x0) (o1 : okI x1) (o2 : okI x2) (o3 : okI x3) (o4 : okI x4) (hnr : nr ≤ cr) (hcr : cr ≤ maxLen) (hrl : LR.length = nr) (hr : RowsAt w AR LR) :
    Calls Try.prog 4 #[.slice A n cap, .agg #[.int .i64 x0, .int .i64 x1, .int .i64 x2, .int .i64 x3, .int .i64 x4], .agg #[.slice AR nr cr, .int .i64 z, .bool fl]] w fun e w' => e = .returned (.bool true) ∧ Below w.heap.size w w' := by
  have hb63 : cap < 9223372036854775808 := by simp only [maxLen] at hcap; omega
  have F0 : Hid (Fr [] w ((w.alloc (.cells #[.int .i64 x0, .int .i64 x1, .int .i64 x2, .int .i64 x3, .int .i64 x4] 22)).alloc (.cells #[.slice AR nr cr, .int .i64 z, .bool fl] 27))) := Lib.hid (((Fr.refl [] w).alloc _).alloc _)
  have B5 : Hid (Five ((w.alloc (.cells #[.int .i64 x0, .int .i64 x1, .int .i64 x2, .int .i64 x3, .int .i64 x4] 22)).alloc (.cells #[.slice AR nr cr, .int .i64 z, .bool fl] 27)) w.heap.size x0 x1 x2 x3 x4) := Lib.hid (Blk.alloc (Blk.new w _ _) _)
  have hbr := Blk.new (w.alloc (.cells #[.int .i64 x0, .int .i64 x1, .int .i64 x2, .int .i64 x3, .int .i64 x4] 22)) 27 #[.slice AR nr cr, .int .i64 z, .bool fl]
  rw [World.size_alloc] at hbr
  have BR := Lib.hid hbr
  have HR := Lib.hid (hr.fr0 F0.out)
  have HRL : Hid (LR.length = nr) := Lib.hid hrl
  have HNR : Hid (nr ≤ cr ∧ nr ≤ 9223372036854775807) := Lib.hid ⟨hnr, by unfold maxLen at hcr; omega⟩
  clear hbr hr hrl hnr hcr
  have HX := Lib.hid hx
  have HO := Lib.hid (And.intro o0 (And.intro o1 (And.intro o2 (And.intro o3 o4))))
  clear hx o0 o1 o2 o3 o4
  go_enter Try.func4, Try.ntmps4
  go_upto_region 2 with (go_at_call 7; refine (sane7 _).mono ?_; rintro e wa ⟨rfl, fa⟩; have FA := Lib.hid fa; clear fa)
  have fa := FA.out
  clear FA
  replace B5 := Lib.hid (B5.out.fr fa (by simp))
  replace F0 := Lib.hid (F0.out.trans fa)
  replace BR := Lib.hid (BR.out.fr fa (by simp))
  replace HR := Lib.hid (HR.out.fr0 fa)
  clear fa
  have HLG := Lib.hid (fun (mN : Nat) (h1 : mN ≤ 20) (h2 : mN ≤ n) => log_any A mN cap wa (by omega) (by
    rcases HX.out with h0 | ⟨bx, ox, h1', h2'⟩
    · exact .inl (by omega)
    · exact .inr ⟨bx, ox, h1', (h2'.le h2).fr0 F0.out⟩))
  go_cut [8] (fun v wn => ∃ (A2 : Option Addr) (n2 c2 : Nat) (l : List Rec), v = .slice A2 n2 c2 ∧ n2 ≤ 20 ∧ Hid (OwnR wn (.slice A2 n2 c2) l) ∧ Hid (Lg.Ok l) ∧ Hid (n2 = l.length) ∧ Hid (Fr [] wa wn))
  case first =>
    go_wp2_with fail
    all_goals
      first
        | (with_reducible refine (HLG.out 20 (by omega) (by omega)).mono ?_)
        | (with_reducible refine (HLG.out n (by omega) (by omega)).mono ?_)
        | (obtain ⟨mN, hmN⟩ : ∃ m : Nat, (min (n : Int) 20).toNat = m := ⟨_, rfl⟩; rw [hmN]; have hm1 : mN ≤ 20 ∧ mN ≤ n := (by omega); (with_reducible refine (HLG.out mN hm1.1 hm1.2).mono ?_))
      rintro e w2 ⟨vl, l, rfl, hor, hok, hll, f2, hvo⟩
      obtain ⟨A2, n2, c2, hv⟩ : ∃ A n c, vl = .slice A n c := by
        obtain ⟨us, hus, _⟩ := hor
        obtain ⟨A2, cap2, hv⟩ := hus.val
        exact ⟨_, _, _, hv⟩
      subst hv
      have hn2 := hor.recs.2
      have HOR := Lib.hid hor
      have HOK := Lib.hid hok
      have HN2 := Lib.hid hn2
      have F2 := Lib.hid f2
      have hn12 : n2 ≤ 20 := by omega
      clear hor hok hn2 f2 hvo hll
      go_wp2_with fail
      go_meet
      exact ⟨A2, n2, c2, l, rfl, hn12, HOR, HOK, HN2, F2⟩
  case rest =>
  clear HLG
  obtain ⟨A2, n2, c2, l, rfl, hnM, HROW, HOK, HN2, F2⟩ := hcut
  have f2 := F2.out
  clear F2
  replace B5 := Lib.hid (B5.out.fr f2 (by simp))
  replace F0 := Lib.hid (F0.out.trans f2)
  replace BR := Lib.hid (BR.out.fr f2 (by simp))
  replace HR := Lib.hid (HR.out.fr0 f2)
  clear f2 HX hn
  obtain ⟨g0, g1, g2, g3, g4⟩ := B5.out.cells
  go_wp2_with fail
  refine (query_any x0 x1 x2 x3 x4 _ HO.out.1 HO.out.2.1 HO.out.2.2.1 HO.out.2.2.2.1 HO.out.2.2.2.2).mono ?_
  rintro e wq ⟨q, rfl, hq, fq⟩
  have HQ := Lib.hid hq
  have fq1 := fq.alloc (.cells #[.int .i64 q.kind, .int .i64 q.table, .int .i64 q.column, .int .i64 q.low, .int .i64 q.high, .int .i64 q.by_, .int .i64 q.other] 24)
  have HBQ := Lib.hid (QAt.new wq q)
  replace F0 := Lib.hid (F0.out.trans fq1)
  replace BR := Lib.hid (BR.out.fr fq1 (by simp))
  replace HR := Lib.hid (HR.out.fr0 fq1)
  replace HROW := Lib.hid (HROW.out.keep0 fq1)
  clear g0 g1 g2 g3 g4 B5 HO hq fq fq1 hcap
  obtain ⟨kr, HK⟩ : ∃ k : Nat, Hid (k = min nr 20) := ⟨_, Lib.hid rfl⟩
  obtain ⟨m, HM⟩ : ∃ m : Int, Hid (m = min (max z (-1000000000000000000)) 1000000000000000000) := ⟨_, Lib.hid rfl⟩
  have HNE := Lib.hid (fun W => near_any AR nr cr z fl W HNR.out.1 HNR.out.2)
  rw [← HK.out, ← HM.out] at HNE
  go_upto_region 5 with (go_at_call 16; refine (rfnew_any _).mono ?_; rintro e ws ⟨rfl, hrf, fs⟩; rw [World.size_alloc] at hrf; (try rw [World.size_alloc]); have RF := Lib.hid hrf; have FS := Lib.hid fs; clear hrf fs)
  have HSB : Hid (w.heap.size ≤ wq.heap.size + 1) := Lib.hid (by have h := F0.out.size; rw [World.size_alloc] at h; exact h)
  generalize wq.heap.size + 1 = bs at *
  replace F0 := Lib.hid (F0.out.trans FS.out)
  replace HROW := Lib.hid (HROW.out.keep0 FS.out)
  replace HBQ := Lib.hid (HBQ.out.fr FS.out (by simp))
  replace BR := Lib.hid (BR.out.fr FS.out (by simp))
  replace HR := Lib.hid (HR.out.fr0 FS.out)
  clear FS
  have hbr := BR.out
  go_upto_region 6 with (first
    | (refine wpList_load_row rfl _ _ rfl (w.heap.size + 1) rfl 27 _ (0, 0) _ hbr Try.underlying27 rfl (by kernel_rfl) ?_)
    | (go_at_call 8; refine (HNE.out _).mono ?_; rintro e wn ⟨rfl, fn⟩; have FN := Lib.hid fn; clear fn))
  clear hbr HNE BR
  have fn1 := FN.out.alloc (.cells #[.slice AR kr cr, .int .i64 m, .bool fl] 27)
  obtain ⟨N, HNN⟩ : ∃ N : Res, Hid (N = ⟨LR.take 20, m, fl⟩) := ⟨_, Lib.hid rfl⟩
  have hnv : m = N.value := by rw [HNN.out]
  have hnf : fl = N.found := by rw [HNN.out]
  have RVN : Hid (RvAt (wn.alloc (.cells #[.slice AR kr cr, .int .i64 m, .bool fl] 27)) wn.heap.size AR kr cr N) := Lib.hid (by rw [HNN.out]; exact ⟨R7At.new wn _ _ _, (HR.out.fr0 fn1).take 20, by have := HK.out; have := HRL.out; dsimp only; rw [List.length_take]; omega⟩)
  have HKL : Hid (kr ≤ 20) := Lib.hid (by have := HK.out; omega)
  have HNB : Hid (-1000000000000000000 ≤ N.value ∧ N.value ≤ 1000000000000000000) := Lib.hid (by rw [← hnv]; have := HM.out; omega)
  have PG : Hid (AmAt w (wn.alloc (.cells #[.slice AR kr cr, .int .i64 m, .bool fl] 27)) bs wq.heap.size wn.heap.size l A2 n2 c2 q AR kr cr N (.slice none 0 0) [] (Lg.run (l.take 0))) := Lib.hid ⟨RF.out.fr0 fn1, HROW.out.keep0 fn1, HBQ.out.fr fn1 (by simp), RVN.out, F0.out.trans fn1, HSB.out⟩
  clear fn1 FN HBQ HR HK HRL HM HNR HROW HNN RVN RF F0 HSB hnv hnf
  generalize hw3 : wn.alloc (.cells #[.slice AR kr cr, .int .i64 m, .bool fl] 27) = w3 at *
  clear hw3
  generalize wn.heap.size = gn at *
  generalize wq.heap.size = gq at *
  have hok : okI q.kind := okI_mk (by have := HQ.out.k; omega) (by have := HQ.out.k; omega)
  have HOKI := Lib.hid hok
  clear hok HQ
  go_wp2_with fail
  go_loopw [12] (fun i wr => ∃ (k : Nat) (v : Value) (LL : List RowV), i = .int .i64 k ∧ k ≤ n2 ∧ Hid (AmAt w wr bs gq gn l A2 n2 c2 q AR kr cr N v LL (Lg.run (l.take k)))) (fun i _ => n2 - (intOf i).toNat)
  case atStart => exact ⟨0, _, _, rfl, Nat.zero_le _, PG⟩
  case round =>
    clear PG
    obtain ⟨k, v, LL, rfl, hk, PG⟩ := hrel
    by_cases hlt : k < n2
    · have hkl : k < l.length := by rw [← HN2.out]; exact hlt
      have HFIT := Lib.hid (HOK.out.fits k hkl)
      have HSO := Lib.hid (Lg.run_ok (l.take k))
      have HSS := Lib.hid (Lg.run_sound (l.take k))
      have HRUN := Lib.hid (Lg.run_succ l hkl)
      obtain ⟨s, HS⟩ : ∃ s, Hid (Lg.run (l.take k) = s) := ⟨_, Lib.hid rfl⟩
      obtain ⟨r, HR⟩ : ∃ r, Hid (l[k] = r) := ⟨_, Lib.hid rfl⟩
      rw [HS.out] at HFIT HSO HSS PG HRUN
      rw [HR.out] at HFIT HRUN
      obtain ⟨bb, off, Ak, ck, hA, hbb, hc0, hc1, hhc, hl8⟩ := PG.out.row.recs.1.open_ hkl
      subst hA
      rw [HR.out] at hc0 hc1 hhc hl8
      obtain ⟨nk, hnk⟩ : ∃ n, n = r.cs.length := ⟨_, rfl⟩
      rw [← hnk] at hc1 hl8
      have HNK := Lib.hid hnk
      obtain ⟨pk, hpk⟩ : ∃ n, n = r.p := ⟨_, rfl⟩
      rw [← hpk] at hc0
      have HPK := Lib.hid hpk
      have HC0 := Lib.hid hc0
      have HC1 := Lib.hid hc1
      have HHC := Lib.hid hhc
      have HBB := Lib.hid hbb
      have HL8 := Lib.hid hl8
      clear hnk hpk hc0 hc1 hhc hbb hl8
      obtain ⟨Rw, HRW⟩ : ∃ R, Hid (Em.of s q = R) := ⟨_, Lib.hid rfl⟩
      have HBW := Lib.hid (Em.of_bounds HSO.out HSS.out q)
      have HOF := Lib.hid (rof_any bs v LL s q wr PG.out.rf HSS.out)
      rw [HRW.out] at HBW HOF
      obtain ⟨we, hwe⟩ : ∃ x, x = wr := ⟨_, rfl⟩
      subst hwe
      have hbq : Blk we gq 24 #[.int .i64 q.kind, .int .i64 q.table, .int .i64 q.column, .int .i64 q.low, .int .i64 q.high, .int .i64 q.by_, .int .i64 q.other] := PG.out.q
      go_upto_region 10 with (first
        | (refine wpList_load_row rfl _ _ rfl gq rfl 24 _ (0, 0) _ hbq Try.underlying24 rfl (by kernel_rfl) ?_)
        | (go_at_call 17; refine HOF.out.mono ?_; rintro e wx ⟨vw, rfl, hrw⟩; obtain ⟨Aw, nw, cw, hvw⟩ : ∃ A n c, vw = .slice A n c := (match hrw.own.val with | ⟨_, _, hv⟩ => ⟨_, _, _, hv⟩); subst hvw; have RW := Lib.hid hrw; clear hrw))
      clear hbq HOF
      have HAW := Lib.hid (RW.out.own.at1 RowV.cells_len)
      have FW : Hid (Fr [] we (wx.alloc (.cells #[.slice Aw nw cw, .int .i64 Rw.value, .bool Rw.found] 27))) := Lib.hid (RW.out.fr.alloc _)
      have RVW : Hid (RvAt (wx.alloc (.cells #[.slice Aw nw cw, .int .i64 Rw.value, .bool Rw.found] 27)) wx.heap.size Aw nw cw Rw) := Lib.hid ⟨R7At.new wx _ _ _, HAW.out.1.fr0 ((Fr.refl [] wx).alloc _), HAW.out.2⟩
      clear RW HAW
      generalize wx.alloc (.cells #[.slice Aw nw cw, .int .i64 Rw.value, .bool Rw.found] 27) = w5 at *
      generalize wx.heap.size = gw at *
      have RVN := Lib.hid (PG.out.fr0 FW.out).n
      have hrw : Blk w5 gw 27 #[.slice Aw nw cw, .int .i64 Rw.value, .bool Rw.found] := RVW.out.blk
      have hrn : Blk w5 gn 27 #[.slice AR kr cr, .int .i64 N.value, .bool N.found] := RVN.out.blk
      go_upto_region 11 with (first
        | (refine wpList_load_row rfl _ _ rfl gw rfl 27 _ (0, 0) _ hrw Try.underlying27 rfl (by kernel_rfl) ?_)
        | (refine wpList_load_row rfl _ _ rfl gn rfl 27 _ (0, 0) _ hrn Try.underlying27 rfl (by kernel_rfl) ?_))
      clear hrw hrn
      have HML : Hid (AtL MV.cells 3 (w5.alloc (.cells #[.slice Aw nw cw, .int .i64 Rw.value, .bool Rw.found, .slice AR kr cr, .int .i64 N.value, .bool N.found] 27)) (some ⟨w5.heap.size, 0, none⟩) [⟨Aw, nw, cw, Rw⟩, ⟨AR, kr, cr, N⟩]) := Lib.hid (AtL.of_blk (L := [⟨Aw, nw, cw, Rw⟩, ⟨AR, kr, cr, N⟩]) MV.len (Blk.new w5 27 #[.slice Aw nw cw, .int .i64 Rw.value, .bool Rw.found, .slice AR kr cr, .int .i64 N.value, .bool N.found]) (by simp [MV.cells]))
      have FL : Hid (Fr [] we (w5.alloc (.cells #[.slice Aw nw cw, .int .i64 Rw.value, .bool Rw.found, .slice AR kr cr, .int .i64 N.value, .bool N.found] 27))) := Lib.hid (FW.out.alloc _)
      have HMO : Hid (∀ e ∈ ([⟨Aw, nw, cw, Rw⟩, ⟨AR, kr, cr, N⟩] : List MV), MV.Ok (w5.alloc (.cells #[.slice Aw nw cw, .int .i64 Rw.value, .bool Rw.found, .slice AR kr cr, .int .i64 N.value, .bool N.found] 27)) e) := Lib.hid (fun e he => by
        rcases List.mem_cons.1 he with rfl | he
        · exact ⟨RVW.out.rows.fr0 ((Fr.refl [] w5).alloc _), RVW.out.len, by have h1 := HBW.out.1; have h2 : nw = Rw.rows.length := RVW.out.len; show nw ≤ 4000; omega, by have := HBW.out.2; show _ ≤ Rw.value; omega, by have := HBW.out.2; show Rw.value ≤ _; omega⟩
        · rw [List.mem_singleton] at he
          subst he
          exact ⟨RVN.out.rows.fr0 ((Fr.refl [] w5).alloc _), RVN.out.len, by have := HKL.out; show kr ≤ 4000; omega, HNB.out.1, HNB.out.2⟩)
      clear FW RVW RVN HBW HRW
      generalize w5.alloc (.cells #[.slice Aw nw cw, .int .i64 Rw.value, .bool Rw.found, .slice AR kr cr, .int .i64 N.value, .bool N.found] 27) = wl at *
      generalize w5.heap.size = gl at *
      obtain ⟨ML, HMLE⟩ : ∃ x, Hid (([⟨Aw, nw, cw, Rw⟩, ⟨AR, kr, cr, N⟩] : List MV) = x) := ⟨_, Lib.hid rfl⟩
      have HMN : Hid (ML.length = 2) := Lib.hid (by rw [← HMLE.out]; rfl)
      rw [HMLE.out] at HML HMO
      clear HMLE
      go_wp2_with fail
      go_loopw [51] (fun vt wr => ∃ t : Nat, vt = .int .i64 t ∧ t ≤ 2 ∧ Hid (Fr [] wl wr)) (fun vt _ => 2 - (intOf vt).toNat)
      case atStart => exact ⟨0, rfl, by omega, Lib.hid (Fr.refl _ _)⟩
      case round =>
        obtain ⟨t, rfl, ht, FR⟩ := hrel
        by_cases hlt2 : t < 2
        · have htm : t < ML.length := by rw [HMN.out]; exact hlt2
          obtain ⟨bq, oq, hA, hbq, hcq⟩ := HML.out (by omega)
          cases hA
          have HCQ : Hid (∀ j, j < 3 → wr.cell? ⟨gl, t * 3 + j, none⟩ = (MV.cells ML[t])[j]?) := Lib.hid (fun j hj => by
            have h1 := hcq t htm j hj
            rw [Nat.zero_add] at h1
            exact (FR.out.rules.1 gl _ hbq).trans h1)
          have HOM := Lib.hid (HMO.out ML[t] (List.getElem_mem htm))
          clear hcq hbq
          generalize ML[t] = e at *
          clear htm
          obtain ⟨Am, nm, cm, Rm⟩ := e
          have c0 : wr.cell? ⟨gl, t * 3, none⟩ = some (.slice Am nm cm) := HCQ.out 0 (by decide)
          have c1 : wr.cell? ⟨gl, t * 3 + 1, none⟩ = some (.int .i64 Rm.value) := HCQ.out 1 (by decide)
          have c2' : wr.cell? ⟨gl, t * 3 + 2, none⟩ = some (.bool Rm.found) := HCQ.out 2 (by decide)
          go_upto_region 13 with (fail)
          have hd2 : decide ((t : Int) < 2) = true := decide_eq_true (by omega)
          rw [hd2]
          clear hd2 c0 c1 c2' HCQ
          have RVM : Hid (RvAt (wr.alloc (.cells #[.slice Am nm cm, .int .i64 Rm.value, .bool Rm.found] 27)) wr.heap.size Am nm cm Rm) := Lib.hid ⟨R7At.new wr _ _ _, (HOM.out.1.fr0 FR.out).fr0 ((Fr.refl [] wr).alloc _), HOM.out.2.1⟩
          have HNM : Hid (nm ≤ 4000) := Lib.hid HOM.out.2.2.1
          have HBM : Hid (-1000000000000000000 ≤ Rm.value ∧ Rm.value ≤ 1000000000000000000) := Lib.hid HOM.out.2.2.2
          have FM := Lib.hid (FR.out.alloc (.cells #[.slice Am nm cm, .int .i64 Rm.value, .bool Rm.found] 27))
          clear HOM
          generalize wr.alloc (.cells #[.slice Am nm cm, .int .i64 Rm.value, .bool Rm.found] 27) = wm at *
          generalize wr.heap.size = gm at *
          have FEM := Lib.hid (FL.out.trans FM.out)
          have PGM := Lib.hid (PG.out.fr0 FEM.out)
          have HCM : Hid (∀ W, Fr [] wm W → W.cell? ⟨bb, off + k * 2, none⟩ = some (.int .i64 pk) ∧ W.cell? ⟨bb, off + k * 2 + 1, none⟩ = some (.slice Ak nk ck) ∧ HoldsC W Ak r.cs) := Lib.hid (fun W hf => ⟨((FEM.out.trans hf).rules.1 bb _ HBB.out).trans HC0.out, ((FEM.out.trans hf).rules.1 bb _ HBB.out).trans HC1.out, HHC.out.fr (FEM.out.trans hf) NoC.nil⟩)
          clear FR
          have HSW : Hid (∀ W, Fr [] wm W → Blk W gq 24 #[.int .i64 q.kind, .int .i64 q.table, .int .i64 q.column, .int .i64 q.low, .int .i64 q.high, .int .i64 q.by_, .int .i64 q.other] ∧ Blk W gm 27 #[.slice Am nm cm, .int .i64 Rm.value, .bool Rm.found] ∧ W.cell? ⟨bb, off + k * 2, none⟩ = some (.int .i64 pk) ∧ W.cell? ⟨bb, off + k * 2 + 1, none⟩ = some (.slice Ak nk ck)) := Lib.hid (fun w' hf => ⟨(PGM.out.fr0 hf).q, (RVM.out.fr0 hf).blk, (HCM.out _ hf).1, (HCM.out _ hf).2.1⟩)
          have HAR : Hid (∀ w1, Fr [] wm w1 → Calls Try.prog 18 #[q.val, .agg #[.slice Am nm cm, .int .i64 Rm.value, .bool Rm.found], .agg #[.int .i64 pk, .slice Ak nk ck]] w1 fun e w' => (∃ (r' : Res) (A' : Option Addr) (n' c' : Nat) (tz : Bool) (kz : Bool), e = .returned (.tuple #[.agg #[.slice A' n' c', .int .i64 r'.value, .bool r'.found], .bool tz, .bool kz]) ∧ ApAt w1 w' (Pm.apply q Rm r.cs) A' n' r' tz kz (nm + 2 * nk)) ∧ Fr [] wm w') := Lib.hid (fun w1 hf => (apply_rv (p := pk) (ck := ck) HOKI.out (RVM.out.fr0 hf) (by have h1 : nm = Rm.rows.length := RVM.out.len; have := HNM.out; omega) HBM.out (HCM.out _ hf).2.2.1 HL8.out HNK.out).mono (fun e w' h => ⟨h, by obtain ⟨_, _, _, _, _, _, _, hap⟩ := h; exact hf.trans hap.fr⟩))
          have s0 := HSW.out _ (Fr.refl [] _)
          go_cut [17, 18, 19] (fun vp vt vk wn => ∃ (gg : Nat) (Rg : Res) (Ag : Option Addr) (ng cg : Nat) (tg : Bool) (kg : Bool), vp = .pointer (some ⟨gg, 0, none⟩) ∧ vt = .bool tg ∧ vk = .bool kg ∧ Hid (AOut (Pm.apply q Rm r.cs) Rg tg kg) ∧ Hid (RvAt wn gg Ag ng cg Rg) ∧ Hid (ng ≤ nm + 2 * nk) ∧ Hid (Fr [] wm wn) ∧ Hid (wm.heap.size ≤ gg))
          case first =>
            refine wp_region_head (fun W => Blk W gq 24 #[.int .i64 q.kind, .int .i64 q.table, .int .i64 q.column, .int .i64 q.low, .int .i64 q.high, .int .i64 q.by_, .int .i64 q.other] ∧ Blk W gm 27 #[.slice Am nm cm, .int .i64 Rm.value, .bool Rm.found] ∧ W.cell? ⟨bb, off + k * 2, none⟩ = some (.int .i64 pk) ∧ W.cell? ⟨bb, off + k * 2 + 1, none⟩ = some (.slice Ak nk ck)) 14 (by kernel_rfl) (by kernel_rfl) (HSW.out _ (Fr.refl [] wm).drew) (fun hHeld => ?_)
            refine wpHead_take (i := 0) (oi := ⟨some 56, _, _, _, _, _⟩) (v := .agg (#[.int .i64 q.kind, .int .i64 q.table, .int .i64 q.column, .int .i64 q.low, .int .i64 q.high, .int .i64 q.by_, .int .i64 q.other])) rfl (by kernel_rfl) (fun _ _ _ h => h) (yieldsIf_load_blk (by rfl) _ _ rfl gq rfl 24 (#[.int .i64 q.kind, .int .i64 q.table, .int .i64 q.column, .int .i64 q.low, .int .i64 q.high, .int .i64 q.by_, .int .i64 q.other]) _ (fun _ h => h.1) Try.underlying24 rfl (by kernel_rfl)) hHeld ?_
            try simp only [Act.put, List.setIfInBounds_toArray, List.set_cons_zero, List.set_cons_succ]
            refine wpHead_take (i := 1) (oi := ⟨some 57, _, _, _, _, _⟩) (v := .agg (#[.slice Am nm cm, .int .i64 Rm.value, .bool Rm.found])) rfl (by kernel_rfl) (fun _ _ _ h => h) (yieldsIf_load_blk (by rfl) _ _ rfl gm rfl 27 (#[.slice Am nm cm, .int .i64 Rm.value, .bool Rm.found]) _ (fun _ h => h.2.1) Try.underlying27 rfl (by kernel_rfl)) hHeld ?_
            try simp only [Act.put, List.setIfInBounds_toArray, List.set_cons_zero, List.set_cons_succ]
            refine wpHead_take (i := 2) (oi := ⟨some 58, _, _, _, _, _⟩) (v := ?_) rfl (by kernel_rfl) (fun _ _ _ h => h) (Or.inl ⟨by rfl, ?_⟩) hHeld ?_
            rotate_left
            · (intro w hSw; (try dsimp only at hSw); go_simp; try with_reducible rfl)
            try simp only [Act.put, List.setIfInBounds_toArray, List.set_cons_zero, List.set_cons_succ]
            refine wpHead_take (i := 3) (oi := ⟨some 59, _, _, _, _, _⟩) (v := ?_) rfl (by kernel_rfl) (fun _ _ _ h => h) (Or.inl ⟨by rfl, ?_⟩) hHeld ?_
            rotate_left
            · (intro w hSw; (try dsimp only at hSw); go_simp; try with_reducible rfl)
            try simp only [Act.put, List.setIfInBounds_toArray, List.set_cons_zero, List.set_cons_succ]
            refine wpHead_take (i := 4) (oi := ⟨some 60, _, _, _, _, _⟩) (v := ?_) rfl (by kernel_rfl) (fun _ _ _ h => h) (Or.inl ⟨by rfl, ?_⟩) hHeld ?_
            rotate_left
            · (intro w hSw; (try dsimp only at hSw); go_simp; try with_reducible rfl)
            try simp only [Act.put, List.setIfInBounds_toArray, List.set_cons_zero, List.set_cons_succ]
            refine wpHead_take (i := 5) (oi := ⟨some 61, _, _, _, _, _⟩) (v := ?_) rfl (by kernel_rfl) (fun _ _ _ h => h) (Or.inl ⟨by rfl, ?_⟩) hHeld ?_
            rotate_left
            · (intro w hSw; (try dsimp only at hSw); go_simp; try with_reducible rfl)
            try simp only [Act.put, List.setIfInBounds_toArray, List.set_cons_zero, List.set_cons_succ]
            refine wpHead_two (i := 6) (j := 11) (oi := ⟨some 62, _, _, _, _, _⟩) (oj := ⟨some 17, _, _, _, _, _⟩) rfl rfl (by kernel_rfl) (by decide) (by decide) ?_ ?_
            · refine fun K hK => ?_
              go_simp
              refine (HAR.out _ (Fr.refl [] wm).drew).mono ?_
              rintro e wz ⟨⟨Rg, Ag, ng, cg, tg, kg, rfl, hap⟩, hfz⟩
              have AP := Lib.hid hap
              have FZ := Lib.hid hfz
              refine hK.out _ _ ?_ (fun hHeld => ?_)
              · exact HSW.out _ FZ.out
              clear hK K
              try simp only [Act.put, List.setIfInBounds_toArray, List.set_cons_zero, List.set_cons_succ]
              clear hap hfz
              refine wpHead_take (i := 7) (oi := ⟨some 55, _, _, _, _, _⟩) (v := ?_) rfl (by kernel_rfl) (fun _ _ _ h => h) (Or.inl ⟨by rfl, ?_⟩) hHeld ?_
              rotate_left
              · (intro w hSw; (try dsimp only at hSw); go_simp; try with_reducible rfl)
              try simp only [Act.put, List.setIfInBounds_toArray, List.set_cons_zero, List.set_cons_succ]
              refine wpHead_take (i := 8) (oi := ⟨some 63, _, _, _, _, _⟩) (v := ?_) rfl (by kernel_rfl) (fun _ _ _ h => h) (Or.inl ⟨by rfl, ?_⟩) hHeld ?_
              rotate_left
              · (intro w hSw; (try dsimp only at hSw); go_simp; try with_reducible rfl)
              try simp only [Act.put, List.setIfInBounds_toArray, List.set_cons_zero, List.set_cons_succ]
              refine wpHead_take (i := 9) (oi := ⟨some 64, _, _, _, _, _⟩) (v := ?_) rfl (by kernel_rfl) (fun _ _ _ h => h) (Or.inl ⟨by rfl, ?_⟩) hHeld ?_
              rotate_left
              · (intro w hSw; (try dsimp only at hSw); go_simp; try with_reducible rfl)
              try simp only [Act.put, List.setIfInBounds_toArray, List.set_cons_zero, List.set_cons_succ]
              refine wpHead_take (i := 10) (oi := ⟨some 65, _, _, _, _, _⟩) (v := ?_) rfl (by kernel_rfl) (fun _ _ _ h => h) (Or.inl ⟨by rfl, ?_⟩) hHeld ?_
              rotate_left
              · (intro w hSw; (try dsimp only at hSw); go_simp; try with_reducible rfl)
              try simp only [Act.put, List.setIfInBounds_toArray, List.set_cons_zero, List.set_cons_succ]
              refine wpHead_one (i := 11) (o := ⟨some 17, _, _, _, _, _⟩) rfl (by kernel_rfl) (by decide) (fun K hK => ?_)
              go_simp
              skip
              refine hK.out _ _ ?_ (fun hHeld => ?_)
              · exact HSW.out _ (FZ.out.alloc _)
              clear hK K
              try simp only [Act.put, List.setIfInBounds_toArray, List.set_cons_zero, List.set_cons_succ]
              refine wpHead_one (i := 12) (o := ⟨none, _, _, _, _, _⟩) rfl (by kernel_rfl) (by decide) (fun K hK => ?_)
              go_simp
              skip
              refine hK.out _ _ ?_ (fun hHeld => ?_)
              · exact HSW.out _ (FZ.out.alloc _)
              clear hK K
              try simp only [Act.put, List.setIfInBounds_toArray, List.set_cons_zero, List.set_cons_succ]
              refine wpHead_take (i := 13) (oi := ⟨some 18, _, _, _, _, _⟩) (v := ?_) rfl (by kernel_rfl) (fun _ _ _ h => h) (Or.inl ⟨by rfl, ?_⟩) hHeld ?_
              rotate_left
              · (intro w hSw; (try dsimp only at hSw); go_simp; try with_reducible rfl)
              try simp only [Act.put, List.setIfInBounds_toArray, List.set_cons_zero, List.set_cons_succ]
              refine wpHead_done (by kernel_rfl) ?_
              simp only [List.drop_succ_cons, List.drop_zero]
              go_wp2_with fail
              go_meet
              exact ⟨wz.heap.size, Rg, Ag, ng, cg, tg, kg, rfl, rfl, rfl, Lib.hid AP.out.out, Lib.hid (RvAt.ofA AP.out), Lib.hid AP.out.le, Lib.hid (FZ.out.alloc _), Lib.hid FZ.out.size⟩

            · refine fun K hK => ?_
              go_simp
              skip
              refine hK.out _ _ ?_ (fun hHeld => ?_)
              · exact HSW.out _ ((Fr.refl [] wm).drew.alloc _)
              clear hK K
              try simp only [Act.put, List.setIfInBounds_toArray, List.set_cons_zero, List.set_cons_succ]
              refine wpHead_one (i := 6) (o := ⟨some 62, _, _, _, _, _⟩) rfl (by kernel_rfl) (by decide) (fun K hK => ?_)
              go_simp
              refine (HAR.out _ ((Fr.refl [] wm).drew.alloc _)).mono ?_
              rintro e wz ⟨⟨Rg, Ag, ng, cg, tg, kg, rfl, hap⟩, hfz⟩
              have AP := Lib.hid hap
              have FZ := Lib.hid hfz
              have hbz := Blk.fr (w := _) (g := wm.heap.size) (t := 27) (cs := #[.slice none 0 0, .int .i64 0, .bool false]) (Blk.new wm.drew _ _) hap.fr (by simp)
              have z0 := hbz.frozen 0
              have z1 := hbz.frozen 1
              have z2 := hbz.frozen 2
              have u0 := hbz.cell 0
              have u1 := hbz.cell 1
              have u2 := hbz.cell 2
              have HBZ := Lib.hid hbz
              clear hbz hap hfz
              refine hK.out _ _ ?_ (fun hHeld => ?_)
              · exact HSW.out _ FZ.out
              clear hK K
              try simp only [Act.put, List.setIfInBounds_toArray, List.set_cons_zero, List.set_cons_succ]
              refine wpHead_take (i := 7) (oi := ⟨some 55, _, _, _, _, _⟩) (v := ?_) rfl (by kernel_rfl) (fun _ _ _ h => h) (Or.inl ⟨by rfl, ?_⟩) hHeld ?_
              rotate_left
              · (intro w hSw; (try dsimp only at hSw); go_simp; try with_reducible rfl)
              try simp only [Act.put, List.setIfInBounds_toArray, List.set_cons_zero, List.set_cons_succ]
              refine wpHead_take (i := 8) (oi := ⟨some 63, _, _, _, _, _⟩) (v := ?_) rfl (by kernel_rfl) (fun _ _ _ h => h) (Or.inl ⟨by rfl, ?_⟩) hHeld ?_
              rotate_left
              · (intro w hSw; (try dsimp only at hSw); go_simp; try with_reducible rfl)
              try simp only [Act.put, List.setIfInBounds_toArray, List.set_cons_zero, List.set_cons_succ]
              refine wpHead_take (i := 9) (oi := ⟨some 64, _, _, _, _, _⟩) (v := ?_) rfl (by kernel_rfl) (fun _ _ _ h => h) (Or.inl ⟨by rfl, ?_⟩) hHeld ?_
              rotate_left
              · (intro w hSw; (try dsimp only at hSw); go_simp; try with_reducible rfl)
              try simp only [Act.put, List.setIfInBounds_toArray, List.set_cons_zero, List.set_cons_succ]
              refine wpHead_take (i := 10) (oi := ⟨some 65, _, _, _, _, _⟩) (v := ?_) rfl (by kernel_rfl) (fun _ _ _ h => h) (Or.inl ⟨by rfl, ?_⟩) hHeld ?_
              rotate_left
              · (intro w hSw; (try dsimp only at hSw); go_simp; try with_reducible rfl)
              try simp only [Act.put, List.setIfInBounds_toArray, List.set_cons_zero, List.set_cons_succ]
              refine wpHead_one (i := 12) (o := ⟨none, _, _, _, _, _⟩) rfl (by kernel_rfl) (by decide) (fun K hK => ?_)
              go_simp
              skip
              refine hK.out _ _ ?_ (fun hHeld => ?_)
              · exact HSW.out _ (((FZ.out.setCell (.inr (Nat.le_refl _)) _).setCell (.inr (Nat.le_refl _)) _).setCell (.inr (Nat.le_refl _)) _)
              clear hK K
              try simp only [Act.put, List.setIfInBounds_toArray, List.set_cons_zero, List.set_cons_succ]
              refine wpHead_take (i := 13) (oi := ⟨some 18, _, _, _, _, _⟩) (v := ?_) rfl (by kernel_rfl) (fun _ _ _ h => h) (Or.inl ⟨by rfl, ?_⟩) hHeld ?_
              rotate_left
              · (intro w hSw; (try dsimp only at hSw); go_simp; try with_reducible rfl)
              try simp only [Act.put, List.setIfInBounds_toArray, List.set_cons_zero, List.set_cons_succ]
              refine wpHead_done (by kernel_rfl) ?_
              simp only [List.drop_succ_cons, List.drop_zero]
              go_wp2_with fail
              go_meet
              exact ⟨wm.heap.size, Rg, Ag, ng, cg, tg, kg, rfl, rfl, rfl, Lib.hid AP.out.out, Lib.hid (RvAt.ofB AP.out HBZ.out).1, Lib.hid AP.out.le, Lib.hid (((FZ.out.setCell (.inr (Nat.le_refl _)) _).setCell (.inr (Nat.le_refl _)) _).setCell (.inr (Nat.le_refl _)) _), Lib.hid (Nat.le_refl _)⟩

          case rest =>
          clear HSW HAR s0
          obtain ⟨ga, Ra, Aa, na, ca, ta, ka, rfl, rfl, rfl, HAO, RVa, HLE, Fa, HGa⟩ := hcut
          obtain ⟨wd, hwd⟩ : ∃ x, x = wc := ⟨_, rfl⟩
          subst hwd
          go_upto_region 14 with (fail)
          have HSW : Hid (∀ W, Fr [] wd W → Blk W gq 24 #[.int .i64 q.kind, .int .i64 q.table, .int .i64 q.column, .int .i64 q.low, .int .i64 q.high, .int .i64 q.by_, .int .i64 q.other] ∧ Blk W gm 27 #[.slice Am nm cm, .int .i64 Rm.value, .bool Rm.found] ∧ W.cell? ⟨bb, off + k * 2, none⟩ = some (.int .i64 pk) ∧ W.cell? ⟨bb, off + k * 2 + 1, none⟩ = some (.slice Ak nk ck)) := Lib.hid (fun w' hf => ⟨(PGM.out.fr0 (Fa.out.trans hf)).q, (RVM.out.fr0 (Fa.out.trans hf)).blk, (HCM.out _ (Fa.out.trans hf)).1, (HCM.out _ (Fa.out.trans hf)).2.1⟩)
          have HAR : Hid (∀ w1, Fr [] wd w1 → Calls Try.prog 19 #[q.val, .agg #[.slice Am nm cm, .int .i64 Rm.value, .bool Rm.found], .agg #[.int .i64 pk, .slice Ak nk ck]] w1 fun e w' => (∃ (r' : Res) (A' : Option Addr) (n' c' : Nat) (tz : Bool) (kz : Bool), e = .returned (.tuple #[.agg #[.slice A' n' c', .int .i64 r'.value, .bool r'.found], .bool tz, .bool kz]) ∧ ApAt w1 w' (Pm.apply q Rm r.cs) A' n' r' tz kz (nm + 2 * nk)) ∧ Fr [] wd w') := Lib.hid (fun w1 hf => (rapply_rv (p := pk) (ck := ck) (RVM.out.fr0 (Fa.out.trans hf)) (by have := HNM.out; omega) HBM.out (HCM.out _ (Fa.out.trans hf)).2.2.1 HL8.out HNK.out).mono (fun e w' h => ⟨h, by obtain ⟨_, _, _, _, _, _, _, hap⟩ := h; exact hf.trans hap.fr⟩))
          have s0 := HSW.out _ (Fr.refl [] _)
          go_cut [20, 21, 22] (fun vp vt vk wn => ∃ (gg : Nat) (Rg : Res) (Ag : Option Addr) (ng cg : Nat) (tg : Bool) (kg : Bool), vp = .pointer (some ⟨gg, 0, none⟩) ∧ vt = .bool tg ∧ vk = .bool kg ∧ Hid (AOut (Pm.apply q Rm r.cs) Rg tg kg) ∧ Hid (RvAt wn gg Ag ng cg Rg) ∧ Hid (ng ≤ nm + 2 * nk) ∧ Hid (Fr [] wd wn) ∧ Hid (wd.heap.size ≤ gg))
          case first =>
            refine wp_region_head (fun W => Blk W gq 24 #[.int .i64 q.kind, .int .i64 q.table, .int .i64 q.column, .int .i64 q.low, .int .i64 q.high, .int .i64 q.by_, .int .i64 q.other] ∧ Blk W gm 27 #[.slice Am nm cm, .int .i64 Rm.value, .bool Rm.found] ∧ W.cell? ⟨bb, off + k * 2, none⟩ = some (.int .i64 pk) ∧ W.cell? ⟨bb, off + k * 2 + 1, none⟩ = some (.slice Ak nk ck)) 14 (by kernel_rfl) (by kernel_rfl) (HSW.out _ (Fr.refl [] wd).drew) (fun hHeld => ?_)
            refine wpHead_take (i := 0) (oi := ⟨some 67, _, _, _, _, _⟩) (v := .agg (#[.int .i64 q.kind, .int .i64 q.table, .int .i64 q.column, .int .i64 q.low, .int .i64 q.high, .int .i64 q.by_, .int .i64 q.other])) rfl (by kernel_rfl) (fun _ _ _ h => h) (yieldsIf_load_blk (by rfl) _ _ rfl gq rfl 24 (#[.int .i64 q.kind, .int .i64 q.table, .int .i64 q.column, .int .i64 q.low, .int .i64 q.high, .int .i64 q.by_, .int .i64 q.other]) _ (fun _ h => h.1) Try.underlying24 rfl (by kernel_rfl)) hHeld ?_
            try simp only [Act.put, List.setIfInBounds_toArray, List.set_cons_zero, List.set_cons_succ]
            refine wpHead_take (i := 1) (oi := ⟨some 68, _, _, _, _, _⟩) (v := .agg (#[.slice Am nm cm, .int .i64 Rm.value, .bool Rm.found])) rfl (by kernel_rfl) (fun _ _ _ h => h) (yieldsIf_load_blk (by rfl) _ _ rfl gm rfl 27 (#[.slice Am nm cm, .int .i64 Rm.value, .bool Rm.found]) _ (fun _ h => h.2.1) Try.underlying27 rfl (by kernel_rfl)) hHeld ?_
            try simp only [Act.put, List.setIfInBounds_toArray, List.set_cons_zero, List.set_cons_succ]
            refine wpHead_take (i := 2) (oi := ⟨some 69, _, _, _, _, _⟩) (v := ?_) rfl (by kernel_rfl) (fun _ _ _ h => h) (Or.inl ⟨by rfl, ?_⟩) hHeld ?_
            rotate_left
            · (intro w hSw; (try dsimp only at hSw); go_simp; try with_reducible rfl)
            try simp only [Act.put, List.setIfInBounds_toArray, List.set_cons_zero, List.set_cons_succ]
            refine wpHead_take (i := 3) (oi := ⟨some 70, _, _, _, _, _⟩) (v := ?_) rfl (by kernel_rfl) (fun _ _ _ h => h) (Or.inl ⟨by rfl, ?_⟩) hHeld ?_
            rotate_left
            · (intro w hSw; (try dsimp only at hSw); go_simp; try with_reducible rfl)
            try simp only [Act.put, List.setIfInBounds_toArray, List.set_cons_zero, List.set_cons_succ]
            refine wpHead_take (i := 4) (oi := ⟨some 71, _, _, _, _, _⟩) (v := ?_) rfl (by kernel_rfl) (fun _ _ _ h => h) (Or.inl ⟨by rfl, ?_⟩) hHeld ?_
            rotate_left
            · (intro w hSw; (try dsimp only at hSw); go_simp; try with_reducible rfl)
            try simp only [Act.put, List.setIfInBounds_toArray, List.set_cons_zero, List.set_cons_succ]
            refine wpHead_take (i := 5) (oi := ⟨some 72, _, _, _, _, _⟩) (v := ?_) rfl (by kernel_rfl) (fun _ _ _ h => h) (Or.inl ⟨by rfl, ?_⟩) hHeld ?_
            rotate_left
            · (intro w hSw; (try dsimp only at hSw); go_simp; try with_reducible rfl)
            try simp only [Act.put, List.setIfInBounds_toArray, List.set_cons_zero, List.set_cons_succ]
            refine wpHead_two (i := 6) (j := 11) (oi := ⟨some 73, _, _, _, _, _⟩) (oj := ⟨some 20, _, _, _, _, _⟩) rfl rfl (by kernel_rfl) (by decide) (by decide) ?_ ?_
            · refine fun K hK => ?_
              go_simp
              refine (HAR.out _ (Fr.refl [] wd).drew).mono ?_
              rintro e wz ⟨⟨Rg, Ag, ng, cg, tg, kg, rfl, hap⟩, hfz⟩
              have AP := Lib.hid hap
              have FZ := Lib.hid hfz
              refine hK.out _ _ ?_ (fun hHeld => ?_)
              · exact HSW.out _ FZ.out
              clear hK K
              try simp only [Act.put, List.setIfInBounds_toArray, List.set_cons_zero, List.set_cons_succ]
              clear hap hfz
              refine wpHead_take (i := 7) (oi := ⟨some 66, _, _, _, _, _⟩) (v := ?_) rfl (by kernel_rfl) (fun _ _ _ h => h) (Or.inl ⟨by rfl, ?_⟩) hHeld ?_
              rotate_left
              · (intro w hSw; (try dsimp only at hSw); go_simp; try with_reducible rfl)
              try simp only [Act.put, List.setIfInBounds_toArray, List.set_cons_zero, List.set_cons_succ]
              refine wpHead_take (i := 8) (oi := ⟨some 74, _, _, _, _, _⟩) (v := ?_) rfl (by kernel_rfl) (fun _ _ _ h => h) (Or.inl ⟨by rfl, ?_⟩) hHeld ?_
              rotate_left
              · (intro w hSw; (try dsimp only at hSw); go_simp; try with_reducible rfl)
              try simp only [Act.put, List.setIfInBounds_toArray, List.set_cons_zero, List.set_cons_succ]
              refine wpHead_take (i := 9) (oi := ⟨some 75, _, _, _, _, _⟩) (v := ?_) rfl (by kernel_rfl) (fun _ _ _ h => h) (Or.inl ⟨by rfl, ?_⟩) hHeld ?_
              rotate_left
              · (intro w hSw; (try dsimp only at hSw); go_simp; try with_reducible rfl)
              try simp only [Act.put, List.setIfInBounds_toArray, List.set_cons_zero, List.set_cons_succ]
              refine wpHead_take (i := 10) (oi := ⟨some 76, _, _, _, _, _⟩) (v := ?_) rfl (by kernel_rfl) (fun _ _ _ h => h) (Or.inl ⟨by rfl, ?_⟩) hHeld ?_
              rotate_left
              · (intro w hSw; (try dsimp only at hSw); go_simp; try with_reducible rfl)
              try simp only [Act.put, List.setIfInBounds_toArray, List.set_cons_zero, List.set_cons_succ]
              refine wpHead_one (i := 11) (o := ⟨some 20, _, _, _, _, _⟩) rfl (by kernel_rfl) (by decide) (fun K hK => ?_)
              go_simp
              skip
              refine hK.out _ _ ?_ (fun hHeld => ?_)
              · exact HSW.out _ (FZ.out.alloc _)
              clear hK K
              try simp only [Act.put, List.setIfInBounds_toArray, List.set_cons_zero, List.set_cons_succ]
              refine wpHead_one (i := 12) (o := ⟨none, _, _, _, _, _⟩) rfl (by kernel_rfl) (by decide) (fun K hK => ?_)
              go_simp
              skip
              refine hK.out _ _ ?_ (fun hHeld => ?_)
              · exact HSW.out _ (FZ.out.alloc _)
              clear hK K
              try simp only [Act.put, List.setIfInBounds_toArray, List.set_cons_zero, List.set_cons_succ]
              refine wpHead_take (i := 13) (oi := ⟨some 21, _, _, _, _, _⟩) (v := ?_) rfl (by kernel_rfl) (fun _ _ _ h => h) (Or.inl ⟨by rfl, ?_⟩) hHeld ?_
              rotate_left
              · (intro w hSw; (try dsimp only at hSw); go_simp; try with_reducible rfl)
              try simp only [Act.put, List.setIfInBounds_toArray, List.set_cons_zero, List.set_cons_succ]
              refine wpHead_done (by kernel_rfl) ?_
              simp only [List.drop_succ_cons, List.drop_zero]
              go_wp2_with fail
              go_meet
              exact ⟨wz.heap.size, Rg, Ag, ng, cg, tg, kg, rfl, rfl, rfl, Lib.hid AP.out.out, Lib.hid (RvAt.ofA AP.out), Lib.hid AP.out.le, Lib.hid (FZ.out.alloc _), Lib.hid FZ.out.size⟩

            · refine fun K hK => ?_
              go_simp
              skip
              refine hK.out _ _ ?_ (fun hHeld => ?_)
              · exact HSW.out _ ((Fr.refl [] wd).drew.alloc _)
              clear hK K
              try simp only [Act.put, List.setIfInBounds_toArray, List.set_cons_zero, List.set_cons_succ]
              refine wpHead_one (i := 6) (o := ⟨some 73, _, _, _, _, _⟩) rfl (by kernel_rfl) (by decide) (fun K hK => ?_)
              go_simp
              refine (HAR.out _ ((Fr.refl [] wd).drew.alloc _)).mono ?_
              rintro e wz ⟨⟨Rg, Ag, ng, cg, tg, kg, rfl, hap⟩, hfz⟩
              have AP := Lib.hid hap
              have FZ := Lib.hid hfz
              have hbz := Blk.fr (w := _) (g := wd.heap.size) (t := 27) (cs := #[.slice none 0 0, .int .i64 0, .bool false]) (Blk.new wd.drew _ _) hap.fr (by simp)
              have z0 := hbz.frozen 0
              have z1 := hbz.frozen 1
              have z2 := hbz.frozen 2
              have u0 := hbz.cell 0
              have u1 := hbz.cell 1
              have u2 := hbz.cell 2
              have HBZ := Lib.hid hbz
              clear hbz hap hfz
              refine hK.out _ _ ?_ (fun hHeld => ?_)
              · exact HSW.out _ FZ.out
              clear hK K
              try simp only [Act.put, List.setIfInBounds_toArray, List.set_cons_zero, List.set_cons_succ]
              refine wpHead_take (i := 7) (oi := ⟨some 66, _, _, _, _, _⟩) (v := ?_) rfl (by kernel_rfl) (fun _ _ _ h => h) (Or.inl ⟨by rfl, ?_⟩) hHeld ?_
              rotate_left
              · (intro w hSw; (try dsimp only at hSw); go_simp; try with_reducible rfl)
              try simp only [Act.put, List.setIfInBounds_toArray, List.set_cons_zero, List.set_cons_succ]
              refine wpHead_take (i := 8) (oi := ⟨some 74, _, _, _, _, _⟩) (v := ?_) rfl (by kernel_rfl) (fun _ _ _ h => h) (Or.inl ⟨by rfl, ?_⟩) hHeld ?_
              rotate_left
              · (intro w hSw; (try dsimp only at hSw); go_simp; try with_reducible rfl)
              try simp only [Act.put, List.setIfInBounds_toArray, List.set_cons_zero, List.set_cons_succ]
              refine wpHead_take (i := 9) (oi := ⟨some 75, _, _, _, _, _⟩) (v := ?_) rfl (by kernel_rfl) (fun _ _ _ h => h) (Or.inl ⟨by rfl, ?_⟩) hHeld ?_
              rotate_left
              · (intro w hSw; (try dsimp only at hSw); go_simp; try with_reducible rfl)
              try simp only [Act.put, List.setIfInBounds_toArray, List.set_cons_zero, List.set_cons_succ]
              refine wpHead_take (i := 10) (oi := ⟨some 76, _, _, _, _, _⟩) (v := ?_) rfl (by kernel_rfl) (fun _ _ _ h => h) (Or.inl ⟨by rfl, ?_⟩) hHeld ?_
              rotate_left
              · (intro w hSw; (try dsimp only at hSw); go_simp; try with_reducible rfl)
              try simp only [Act.put, List.setIfInBounds_toArray, List.set_cons_zero, List.set_cons_succ]
              refine wpHead_one (i := 12) (o := ⟨none, _, _, _, _, _⟩) rfl (by kernel_rfl) (by decide) (fun K hK => ?_)
              go_simp
              skip
              refine hK.out _ _ ?_ (fun hHeld => ?_)
              · exact HSW.out _ (((FZ.out.setCell (.inr (Nat.le_refl _)) _).setCell (.inr (Nat.le_refl _)) _).setCell (.inr (Nat.le_refl _)) _)
              clear hK K
              try simp only [Act.put, List.setIfInBounds_toArray, List.set_cons_zero, List.set_cons_succ]
              refine wpHead_take (i := 13) (oi := ⟨some 21, _, _, _, _, _⟩) (v := ?_) rfl (by kernel_rfl) (fun _ _ _ h => h) (Or.inl ⟨by rfl, ?_⟩) hHeld ?_
              rotate_left
              · (intro w hSw; (try dsimp only at hSw); go_simp; try with_reducible rfl)
              try simp only [Act.put, List.setIfInBounds_toArray, List.set_cons_zero, List.set_cons_succ]
              refine wpHead_done (by kernel_rfl) ?_
              simp only [List.drop_succ_cons, List.drop_zero]
              go_wp2_with fail
              go_meet
              exact ⟨wd.heap.size, Rg, Ag, ng, cg, tg, kg, rfl, rfl, rfl, Lib.hid AP.out.out, Lib.hid (RvAt.ofB AP.out HBZ.out).1, Lib.hid AP.out.le, Lib.hid (((FZ.out.setCell (.inr (Nat.le_refl _)) _).setCell (.inr (Nat.le_refl _)) _).setCell (.inr (Nat.le_refl _)) _), Lib.hid (Nat.le_refl _)⟩

          case rest =>
          clear HSW HAR s0
          obtain ⟨gb, Rb, Ab, nb, cb, tb, kb, rfl, rfl, rfl, HAP, RVb, HLF, Fb, HGb⟩ := hcut
          obtain ⟨rfl, rfl, rfl⟩ := HAP.out.uniq HAO.out
          clear HAO HAP
          have RVa2 := Lib.hid (RVa.out.fr0 Fb.out)
          have FC := Lib.hid (FM.out.trans (Fa.out.trans Fb.out))
          have HSM := Lib.hid (fun W (hf : Fr [] wc W) => same_rvb (RVa2.out.fr0 hf) (RVb.out.fr0 hf) (by have := HLE.out; have := HNM.out; have := HL8.out; omega) (by have := HLF.out; have := HNM.out; have := HL8.out; omega))
          have hra : Blk wc ga 27 #[.slice Aa na ca, .int .i64 Ra.value, .bool Ra.found] := RVa2.out.blk
          have hrb : Blk wc gb 27 #[.slice Ab nb cb, .int .i64 Ra.value, .bool Ra.found] := RVb.out.blk
          have b1 : (ta != ta) = false := by simp
          have b2 : (ka != ka) = false := by simp
          go_wp2_with (first
            | (refine wpList_load_row rfl _ _ rfl ga rfl 27 _ (0, 0) _ hra Try.underlying27 rfl (by kernel_rfl) ?_)
            | (refine wpList_load_row rfl _ _ rfl gb rfl 27 _ (0, 0) _ hrb Try.underlying27 rfl (by kernel_rfl) ?_)
            | (go_at_call 15; refine (HSM.out _ (Fr.refl _ _)).mono ?_; rintro e wz ⟨rfl, fz⟩; have FZ := Lib.hid fz; clear fz))
          have FR2 := Lib.hid (FC.out.trans FZ.out)
          clear FC RVa RVa2 RVb RVM HCM HSM Fa Fb b1 b2 hra hrb FZ PGM FEM FM
          go_roundw
          case rel => exact ⟨t + 1, by go_num, by omega, FR2⟩
          case measure => simp [intOf]; omega
        · have FE := Lib.hid (FL.out.trans FR.out)
          have PG2 := Lib.hid (PG.out.fr0 FE.out)
          have r0 : wr.cell? ⟨bb, off + k * 2, none⟩ = some (.int .i64 pk) := (FE.out.rules.1 bb _ HBB.out).trans HC0.out
          have r1 : wr.cell? ⟨bb, off + k * 2 + 1, none⟩ = some (.slice Ak nk ck) := (FE.out.rules.1 bb _ HBB.out).trans HC1.out
          have HAP := Lib.hid (rfapply_n bs v LL s r Ak nk ck pk wr PG2.out.rf (HHC.out.fr FE.out NoC.nil) (by rw [← HNK.out]; exact HL8.out) HNK.out HPK.out HFIT.out)
          go_wp2_with (go_at_call 20; refine HAP.out.mono ?_; rintro e w9 ⟨rfl, v', LL', h9, f9⟩; have H9 := Lib.hid h9; have F9 := Lib.hid f9; clear h9 f9)
          have PG9 := Lib.hid (PG2.out.step H9.out F9.out)
          rw [← HRUN.out] at PG9
          go_roundw
          case rel => exact ⟨k + 1, v', LL', by go_num, by omega, PG9⟩
          case measure => simp [intOf]; omega
    · go_wp2_with fail
      go_ret
      exact ⟨rfl, PG.out.fr.below⟩
end Go.Proofs.Ytjiikpmkedkbkaa
