/-
  EvalOwns: the walk of the law.
-/
import Derived.Test.YtlicjokgcahmlaaEwJ
namespace Go.Proofs.Ytlicjokgcahmlaa
open Go.RowKit

/-- Between two rounds of the spoiling of the rows: they are the result's own. -/
structure OwSp (W wr : World) (g : Nat) (A : Option Addr) (n c : Nat) (vv : Int) (ff : Bool) : Prop where
  res : RsAt wr g (.slice A n c) vv ff
  all : ∃ R : List RowV, R.length = n ∧ RowsOwn wr (.slice A n c) R
  fr : Fr [] W wr
  new : ∀ x, (Value.slice A n c).ownBlock = some x → W.heap.size ≤ x
theorem OwSp.spoil {W wr : World} {g : Nat} {A : Option Addr} {n c : Nat} {vv : Int} {ff : Bool} (h : OwSp W wr g A n c vv ff) {k : Nat} (hk : k < n) :
    ∃ b, A = some ⟨b, 0, none⟩ ∧ (∃ u, wr.cell? ⟨b, k * 5 + 1, none⟩ = some (.int .i64 u)) ∧ wr.frozen? ⟨b, k * 5 + 1, none⟩ = false ∧ OwSp W (wr.setCell ⟨b, k * 5 + 1, none⟩ (.int .i64 (-1))) g A n c vv ff := by
  obtain ⟨R, hR, ho⟩ := h.all
  subst hR
  obtain ⟨gR, capR, hA, hnc, hcm, hgR, hcell, hfz⟩ := OwnL.form RowV.cells_len ho (by omega)
  cases hA
  have hne := ho.ne h.res (by decide) (g := gR) rfl
  refine ⟨gR, rfl, ⟨_, hcell k hk 1 (by decide)⟩, hfz (k * 5 + 1), ?_, ⟨R.set k { R[k] with k := -1 }, List.length_set .., OwnL.set RowV.cells_len ho rfl hk (by decide) _ _ rfl⟩, h.fr.setCell (p := ⟨gR, k * 5 + 1, none⟩) (.inr (h.new gR rfl)) _, h.new⟩
  exact h.res.fr ((Fr.refl [gR] wr).setCell (p := ⟨gR, k * 5 + 1, none⟩) (.inl (by simp)) _) (by simpa using fun e => hne e.symm)
/-- A result's block and its rows. -/
structure RsOut (W wc : World) (g : Nat) (r : Res) : Prop where
  ex : ∃ A n c, RsAt wc g (.slice A n c) r.value r.found ∧ RowsOwn wc (.slice A n c) r.rows ∧ ∀ x, (Value.slice A n c).ownBlock = some x → W.heap.size ≤ x
  fr : Fr [] W wc

set_option maxRecDepth 100000 in
set_option maxHeartbeats 8000000 in
theorem owns_walk (q : Qry) (x0 x1 x2 x3 : Int) (A : Option Addr) (n cap : Nat) (w : World) (o0 : okI x0) (o1 : okI x1) (o2 : okI x2) (o3 : okI x3) (hn : n ≤ cap) (hcap : cap ≤ maxLen) (hx : Fours w A n) :
    Calls Try.prog 7 #[q.val, .agg #[.int .i64 x0, .int .i64 x1, .int .i64 x2, .int .i64 x3], .slice A n cap] w fun e w' => e = .returned (.bool true) ∧ Below w.heap.size w w' := by
  obtain ⟨rk, rt, rc, rl, rh, rb, ro⟩ := q
  unfold Qry.val
  dsimp only
  have F0 := ((Fr.refl [] w).alloc (.cells #[.int .i64 rk, .int .i64 rt, .int .i64 rc, .int .i64 rl, .int .i64 rh, .int .i64 rb, .int .i64 ro] 23)).alloc (.cells #[.int .i64 x0, .int .i64 x1, .int .i64 x2, .int .i64 x3] 24)
  have HX := Lib.hid (hx.fr0 F0)
  have HQ0 : Hid (QAt ((w.alloc (.cells #[.int .i64 rk, .int .i64 rt, .int .i64 rc, .int .i64 rl, .int .i64 rh, .int .i64 rb, .int .i64 ro] 23)).alloc (.cells #[.int .i64 x0, .int .i64 x1, .int .i64 x2, .int .i64 x3] 24)) w.heap.size ⟨rk, rt, rc, rl, rh, rb, ro⟩) := Lib.hid ((QAt.new w ⟨rk, rt, rc, rl, rh, rb, ro⟩).fr ((Fr.refl [] _).alloc _) (by simp))
  have h4 : Four ((w.alloc (.cells #[.int .i64 rk, .int .i64 rt, .int .i64 rc, .int .i64 rl, .int .i64 rh, .int .i64 rb, .int .i64 ro] 23)).alloc (.cells #[.int .i64 x0, .int .i64 x1, .int .i64 x2, .int .i64 x3] 24)) (w.heap.size + 1) x0 x1 x2 x3 := by
    have h := Blk.new (w.alloc (.cells #[.int .i64 rk, .int .i64 rt, .int .i64 rc, .int .i64 rl, .int .i64 rh, .int .i64 rb, .int .i64 ro] 23)) 24 #[.int .i64 x0, .int .i64 x1, .int .i64 x2, .int .i64 x3]
    rw [World.size_alloc] at h
    exact h
  have H4 := Lib.hid h4
  have HF0 := Lib.hid F0
  have O0 := Lib.hid o0
  have O1 := Lib.hid o1
  have O2 := Lib.hid o2
  have O3 := Lib.hid o3
  clear hx o0 o1 o2 o3 F0 h4
  go_enter Try.func7, Try.ntmps7
  go_upto_region 4 with (first
    | (go_at_call 11; refine (sane6_any _).mono ?_; rintro e wa ⟨rfl, fa⟩; have FA := Lib.hid fa; clear fa)
    | (go_at_call 24; refine (state6_any A n cap _ hn hcap (HX.out.fr0 FA.out)).mono ?_; rintro e wb ⟨bs, m, out, rfl, hst, hok, hol, fb⟩; have HST0 := Lib.hid hst; have HCG := Lib.hid hok; have HOL := Lib.hid hol; have FB := Lib.hid (FA.out.trans fb); have H4b := Lib.hid (H4.out.fr FB.out (by simp)); have g0 := H4b.out.cells.1; have g1 := H4b.out.cells.2.1; have g2 := H4b.out.cells.2.2.1; have g3 := H4b.out.cells.2.2.2; clear hst hok hol fb)
    | (go_at_call 12; refine (query6_any _ x1 x2 x3 _ (by first | exact O0.out | exact okI_wrap64 _ | exact okI_wrap _) O1.out O2.out O3.out).mono ?_; rintro e w1 ⟨⟨qk, qt, qc, ql, qh, qb, qo⟩, rfl, hq, f1⟩; have HQ := Lib.hid hq; have F1 := Lib.hid f1; clear hq f1))
  clear g0 g1 g2 g3 H4 HX
  have HST := Lib.hid (HST0.out.fr0 F1.out)
  have FW := Lib.hid ((HF0.out.trans FB.out).trans F1.out)
  have HQ1 := Lib.hid (HQ0.out.fr (FB.out.trans F1.out) (by simp))
  have SN : Hid (Sn w1 (w1.alloc (.cells #[.int .i64 qk, .int .i64 qt, .int .i64 qc, .int .i64 ql, .int .i64 qh, .int .i64 qb, .int .i64 qo] 23)) w1.heap.size ⟨qk, qt, qc, ql, qh, qb, qo⟩) := Lib.hid ⟨(Fr.refl _ _).alloc _, QAt.new w1 ⟨qk, qt, qc, ql, qh, qb, qo⟩, Nat.le_refl _⟩
  have HSND := Lib.hid (Lg.run_sound out)
  have HSOK := Lib.hid (Lg.run_ok out)
  clear HST0 FB F1 H4b FA HF0 HQ0 O0 O1 O2 O3
  generalize hwa : w1.alloc (.cells #[.int .i64 qk, .int .i64 qt, .int .i64 qc, .int .i64 ql, .int .i64 qh, .int .i64 qb, .int .i64 qo] 23) = wa0 at *
  clear hwa
  generalize w1.heap.size = gq at *
  have hqc := HQ.out.c
  dsimp only at hqc
  have HV : Hid (Em.valid ⟨qk, qt, qc, ql, qh, qb, qo⟩ = true) := Lib.hid HQ.out.valid
  obtain ⟨R, HR⟩ : ∃ R, Hid (Em.sel (Lg.run out) qc (inRng qt qc ql qh) = R) := ⟨_, Lib.hid rfl⟩
  obtain ⟨T, HT⟩ : ∃ T, Hid (Em.tab (Lg.run out) qo = T) := ⟨_, Lib.hid rfl⟩
  have HRL : Hid (R.length ≤ 2000) := Lib.hid (by rw [← HR.out]; exact (Em.sel_picked _ _ _).len HSOK.out)
  have HTL : Hid (T.length ≤ 2000) := Lib.hid (by rw [← HT.out]; exact (Em.sel_picked _ _ _).len HSOK.out)
  have HRS : Hid (∀ r ∈ R, Rw.row r.t r.k r.x r.y r.z = true) := Lib.hid (fun r hr => by rw [← HR.out] at hr; exact (Em.sel_picked _ _ _).vals HSND.out hr)
  have HTS : Hid (∀ r ∈ T, Rw.row r.t r.k r.x r.y r.z = true) := Lib.hid (fun r hr => by rw [← HT.out] at hr; exact (Em.sel_picked _ _ _).vals HSND.out hr)
  obtain ⟨⟨zr, zv, zf⟩, HZ⟩ : ∃ r, Hid (Em.res ⟨qk, qt, qc, ql, qh, qb, qo⟩ R T = r) := ⟨_, Lib.hid rfl⟩
  have HOF : Hid (Em.of (Lg.run out) ⟨qk, qt, qc, ql, qh, qb, qo⟩ = ⟨zr, zv, zf⟩) := Lib.hid (by rw [← HZ.out, ← HR.out, ← HT.out]; rfl)
  have HZL : Hid (zr.length ≤ 4000) := Lib.hid (by have h := Em.of_len HSOK.out ⟨qk, qt, qc, ql, qh, qb, qo⟩; rw [HOF.out] at h; exact h)
  have HRNG := Lib.hid (fun W (h : StaAt W bs m (Lg.run out)) => srange_any bs m (Lg.run out) qt qc ql qh W h (by omega) (by omega))
  have HUQ : Hid (∀ R', Picked (Lg.run out) qc (inRng qt qc ql qh) R' → R' = R) := Lib.hid (fun R' h => by rw [← HR.out]; exact h.uniq (Em.sel_picked _ _ _) HSOK.out inRng_t)
  have HROW := Lib.hid (fun W (h : StaAt W bs m (Lg.run out)) => srows_any bs m (Lg.run out) qo W h)
  have HUT : Hid (∀ T', Picked (Lg.run out) 0 (inTab qo) T' → T' = T) := Lib.hid (fun R' h => by rw [← HT.out]; exact h.uniq (Em.sel_picked _ _ _) HSOK.out inTab_t)
  have HFRM : Hid (∀ (W : World) (A : Option Addr) (n c : Nat) (B : Option Addr) (m' c' : Nat), RowsAt W A R → n = R.length → RowsAt W B T → m' = T.length → Calls Try.prog 13 #[.agg #[.int .i64 qk, .int .i64 qt, .int .i64 qc, .int .i64 ql, .int .i64 qh, .int .i64 qb, .int .i64 qo], .slice A n c, .slice B m' c'] W fun e w' => ∃ v, e = .returned (.agg #[v, .int .i64 zv, .bool zf]) ∧ ResO W w' v zr) := Lib.hid (fun W A n c B m' c' h1 h2 h3 h4 => by
    have h := efrom_any ⟨qk, qt, qc, ql, qh, qb, qo⟩ A n c R B m' c' T W h1 h2 (by rw [h2]; have := HRL.out; omega) h3 h4 (by rw [h4]; have := HTL.out; omega) (fun _ r hr => by have := RowV.value_bounds (HRS.out r hr) qb; exact okI_mk (by dsimp only; omega) (by dsimp only; omega)) (fun r hr => by have := Rw.row_bounds (HTS.out r hr); exact okI_mk (by omega) (by omega)) (fun _ _ r hr => by have := RowV.value_bounds (HRS.out r hr) qb; dsimp only; omega)
    rw [HZ.out] at h
    exact h)
  obtain ⟨⟨dr, dv, df⟩, HD⟩ : ∃ r, Hid (Em.res ⟨rk, rt, rc, rl, rh, rb, ro⟩ R R = r) := ⟨_, Lib.hid rfl⟩
  have HFRD : Hid (∀ (W : World) (A : Option Addr) (n c : Nat), RowsAt W A R → n = R.length → Calls Try.prog 13 #[.agg #[.int .i64 rk, .int .i64 rt, .int .i64 rc, .int .i64 rl, .int .i64 rh, .int .i64 rb, .int .i64 ro], .slice A n c, .slice A n c] W fun e w' => ∃ v, e = .returned (.agg #[v, .int .i64 dv, .bool df]) ∧ ResO W w' v dr) := Lib.hid (fun W A n c h1 h2 => by
    have h := efrom_any ⟨rk, rt, rc, rl, rh, rb, ro⟩ A n c R A n c R W h1 h2 (by rw [h2]; have := HRL.out; omega) h1 h2 (by rw [h2]; have := HRL.out; omega) (fun _ r hr => by have := RowV.value_bounds (HRS.out r hr) rb; exact okI_mk (by dsimp only; omega) (by dsimp only; omega)) (fun r hr => by have := Rw.row_bounds (HRS.out r hr); exact okI_mk (by omega) (by omega)) (fun _ _ r hr => by have := RowV.value_bounds (HRS.out r hr) rb; dsimp only; omega)
    rw [HD.out] at h
    exact h)
  obtain ⟨i0, TR⟩ := etRow
  have c1 := SN.out.q.c1
  have c2 := SN.out.q.c2
  have c3 := SN.out.q.c3
  have c4 := SN.out.q.c4
  dsimp only at c1 c2 c3 c4
  go_upto_region 5 with (go_at_call 28; refine (HRNG.out _ (HST.out.fr0 SN.out.fr)).mono ?_; rintro e wx ⟨vr, R', rfl, ho, hp, fx, -⟩; have he := HUQ.out R' hp; subst he; obtain ⟨Ar, nr, kr, hv⟩ : ∃ A n c, vr = .slice A n c := (match ho.val with | ⟨_, _, hv⟩ => ⟨_, _, _, hv⟩); subst hv; have HRA := Lib.hid (OwnL.rowsAt ho); have FX := Lib.hid fx; clear ho hp fx)
  clear c1 c2 c3 c4
  have HNR := Lib.hid HRA.out.2
  have HRX := Lib.hid HRA.out.1
  have hRd := reads_of_rows (HRX.out.fr0 ((Fr.refl [] wx).alloc (.cells #[] 31)))
  rw [← HNR.out] at hRd
  have HRD := Lib.hid hRd
  clear hRd HRA
  go_upto_region 6 with (at_builtin; refine wpList_appendL rfl _ _ rfl TR RowV.cells_len RowV.cells_one rfl (own_empty wx) _ _ _ _ R' rfl HNR.out HRD.out (by have := HRL.out; simp only [maxLen, List.length_nil]; omega) (by have := HRL.out; simp only [List.length_nil]; omega) ?_; intro v5 w6 hown5 hg5 hat5; obtain ⟨Aw, nw, kw, hv5⟩ : ∃ A n c, v5 = .slice A n c := (match hown5.val with | ⟨_, _, hv⟩ => ⟨_, _, _, hv⟩); subst hv5; rw [List.nil_append] at hown5; have HWX := Lib.hid (OwnL.rowsAt hown5).1; have HNW := Lib.hid (OwnL.rowsAt hown5).2; have F5 := Lib.hid (((Fr.refl [] wx).alloc (.cells #[] 31)).grown hg5 (fun g hg => .inr (by injection hg with hg; rw [← hg]; exact Nat.le_refl _))); clear hown5 hg5 hat5)
  have FB6 := Lib.hid ((SN.out.fr.trans FX.out).trans F5.out)
  have SN6 := Lib.hid ((SN.out.fr0 FX.out).fr0 F5.out)
  have HR6 := Lib.hid (HRX.out.fr0 F5.out)
  have HW6 := HWX
  have HQ6 := Lib.hid (HQ1.out.fr FB6.out (by simp))
  clear HRD FX F5 SN HRX HWX HQ1 HRNG HUQ
  have FD6 := Lib.hid (Fr.refl [] w6).drew
  have c0 := (SN6.out.q.fr FD6.out (by simp)).c0
  have c1 := (SN6.out.q.fr FD6.out (by simp)).c1
  have c2 := (SN6.out.q.fr FD6.out (by simp)).c2
  have c3 := (SN6.out.q.fr FD6.out (by simp)).c3
  have c4 := (SN6.out.q.fr FD6.out (by simp)).c4
  have c5 := (SN6.out.q.fr FD6.out (by simp)).c5
  have c6 := (SN6.out.q.fr FD6.out (by simp)).c6
  dsimp only at c0 c1 c2 c3 c4 c5 c6
  have SNA := Lib.hid (SN6.out.q.fr ((Fr.refl [] w6).alloc (.cells #[.slice none 0 0, .int .i64 0, .bool false] 27)).drew (by simp))
  go_cut [12] (fun v wc => ∃ g, v = .pointer (some ⟨g, 0, none⟩) ∧ Hid (RsOut w6 wc g ⟨zr, zv, zf⟩))
  case first =>
    go_region_held3 (fun w' => w'.cell? ⟨gq, 0, none⟩ = some (.int .i64 qk) ∧ w'.cell? ⟨gq, 1, none⟩ = some (.int .i64 qt) ∧ w'.cell? ⟨gq, 2, none⟩ = some (.int .i64 qc) ∧ w'.cell? ⟨gq, 3, none⟩ = some (.int .i64 ql) ∧ w'.cell? ⟨gq, 4, none⟩ = some (.int .i64 qh) ∧ w'.cell? ⟨gq, 5, none⟩ = some (.int .i64 qb) ∧ w'.cell? ⟨gq, 6, none⟩ = some (.int .i64 qo))
      (first | exact ⟨c0, c1, c2, c3, c4, c5, c6⟩ | exact ⟨SNA.out.c0, SNA.out.c1, SNA.out.c2, SNA.out.c3, SNA.out.c4, SNA.out.c5, SNA.out.c6⟩ | exact ⟨SNY.out.c0, SNY.out.c1, SNY.out.c2, SNY.out.c3, SNY.out.c4, SNY.out.c5, SNY.out.c6⟩ | exact ⟨SNZ.out.c0, SNZ.out.c1, SNZ.out.c2, SNZ.out.c3, SNZ.out.c4, SNZ.out.c5, SNZ.out.c6⟩ | exact ⟨HSN9.out.c0, HSN9.out.c1, HSN9.out.c2, HSN9.out.c3, HSN9.out.c4, HSN9.out.c5, HSN9.out.c6⟩ | go_keep)
      (first
        | (go_at_call 29; refine (HROW.out _ (HST.out.fr0 (FB6.out.trans (by first | exact FD6.out | exact FD6.out.alloc _)))).mono ?_; rintro e wy ⟨v6, T', rfl, ho, hp, fy, -⟩; have he := HUT.out T' hp; subst he; obtain ⟨At, nt, kt, hv⟩ : ∃ A n c, v6 = .slice A n c := (match ho.val with | ⟨_, _, hv⟩ => ⟨_, _, _, hv⟩); subst hv; have HTA := Lib.hid (OwnL.rowsAt ho); have FY : Hid (Fr [] w6 wy) := Lib.hid (by first | exact FD6.out.trans fy | exact (FD6.out.alloc _).trans fy); (try (have RNY : Hid (RsAt wy (w6).heap.size (.slice none 0 0) 0 false) := Lib.hid ((RsAt.new (w6).drew (.slice none 0 0) 0 false).fr fy (by simp)))); have SNY := Lib.hid (SN6.out.q.fr FY.out (by simp)); have e0 := SNY.out.c0; have e1 := SNY.out.c1; have e2 := SNY.out.c2; have e3 := SNY.out.c3; have e4 := SNY.out.c4; have e5 := SNY.out.c5; have e6 := SNY.out.c6; clear ho hp fy)
        | (go_at_call 13; refine (HFRM.out _ Ar nr kr At nt kt (HR6.out.fr0 (by first | exact FY.out | exact FY.out.alloc _)) HNR.out (by first | exact HTA.out.1 | exact HTA.out.1.fr0 ((Fr.refl [] _).alloc _)) HTA.out.2).mono ?_; rintro e wz ⟨v7, rfl, hres⟩; obtain ⟨A7, n7, k7, hv7⟩ : ∃ A n c, v7 = .slice A n c := (match hres.own.val with | ⟨_, _, hv⟩ => ⟨_, _, _, hv⟩); subst hv7; have FZ : Hid (Fr [] w6 wz) := Lib.hid (by first | exact FY.out.trans hres.fr | exact (FY.out.alloc _).trans hres.fr); have OZ := Lib.hid hres.own; have NZ : Hid (∀ x, (Value.slice A7 n7 k7).ownBlock = some x → (w6).heap.size ≤ x) := Lib.hid (fun x hx => by have h1 := hres.new x hx; have h2 := FY.out.size; (try simp only [World.size_alloc] at h1); omega); (first | (have RNZ := Lib.hid (RNY.out.fr hres.fr (by simp))) | (have RNZ := Lib.hid ((RsAt.new wy (.slice none 0 0) 0 false).fr hres.fr (by simp))) | skip); (try (have y0 := RNZ.out.c0; have y1 := RNZ.out.c1; have y2 := RNZ.out.c2; have z0 := RNZ.out.z 0; have z1 := RNZ.out.z 1; have z2 := RNZ.out.z 2)); have SNZ := Lib.hid (SN6.out.q.fr FZ.out (by simp)); (try (obtain ⟨_, rfl, h9, f9⟩ := RNZ.out.fill (.slice A7 n7 k7) zv zf; have HSN9 := Lib.hid (SNZ.out.fr f9 (by simpa using Blk.ne SNZ.out RNZ.out (by decide))); have H9 := Lib.hid h9; have F9 := Lib.hid f9; have NG9 := Lib.hid (fun x (hx : (Value.slice A7 n7 k7).ownBlock = some x) => OwnL.ne hres.own RNZ.out (by decide) hx); clear h9 f9)); have h0 := SNZ.out.c0; have h1 := SNZ.out.c1; have h2 := SNZ.out.c2; have h3 := SNZ.out.c3; have h4 := SNZ.out.c4; have h5 := SNZ.out.c5; have h6 := SNZ.out.c6; clear hres))
    all_goals
      go_wp2_with fail
      go_meet
      first
        | exact ⟨_, rfl, Lib.hid ⟨⟨A7, n7, k7, H9.out, OZ.out.fr F9.out (fun x hx => by simpa using NG9.out x hx), NZ.out⟩, FZ.out.trans' F9.out (fun x hx => .inr (by simp only [List.mem_singleton] at hx; subst hx; first | exact Nat.le_refl _ | exact FY.out.size))⟩⟩
        | exact ⟨_, rfl, Lib.hid ⟨⟨A7, n7, k7, (RsAt.new wz (.slice A7 n7 k7) zv zf).fr (Fr.refl [] _) (by simp), OZ.out.fr ((Fr.refl [] wz).alloc _) (by simp), NZ.out⟩, FZ.out.alloc _⟩⟩
  case rest =>

  obtain ⟨ga, rfl, HRO⟩ := hcut
  clear c0 c1 c2 c3 c4 c5 c6 SNA FD6
  obtain ⟨Aa, na, ka, hra, hoa, hna⟩ := HRO.out.ex
  have K0 : Hid (OwSp w6 wc ga Aa na ka zv zf) := Lib.hid ⟨hra, ⟨zr, (OwnL.rowsAt hoa).2.symm, hoa⟩, HRO.out.fr, hna⟩
  have hna4 : na ≤ 4000 := by rw [(OwnL.rowsAt hoa).2]; exact HZL.out
  clear hra hoa hna HRO
  go_wp2_with fail
  go_loopw [13] (fun i wr => ∃ k : Nat, k ≤ na ∧ i = .int .i64 k ∧ Hid (OwSp w6 wr ga Aa na ka zv zf)) (fun i _ => na - (intOf i).toNat)
  case atStart => exact ⟨0, Nat.zero_le _, rfl, K0⟩
  case round =>
    clear K0
    obtain ⟨k, hk, rfl, K⟩ := hrel
    have a0 := K.out.res.c0
    by_cases hlt : k < na
    · obtain ⟨bo, hbo, ⟨uo, huo⟩, hfo, hsp⟩ := K.out.spoil hlt
      subst hbo
      have HSP := Lib.hid hsp
      clear hsp
      go_wp2_with fail
      go_roundw
      case rel => exact ⟨k + 1, by omega, by go_num, HSP⟩
      case measure => simp [intOf]; omega
    obtain rfl : k = na := by omega
    have FB11 := Lib.hid (FB6.out.trans K.out.fr)
    have SN11 := Lib.hid (SN6.out.fr0 K.out.fr)
    have HR11 := Lib.hid (HR6.out.fr0 K.out.fr)
    have HW11 := Lib.hid (HW6.out.fr0 K.out.fr)
    have HQ11 := Lib.hid (HQ6.out.fr K.out.fr (by simp))
    clear SN6 HR6 HW6 HQ6 K
    go_upto_region 11 with (fail)
    clear a0
    have FD11 := Lib.hid (Fr.refl [] wr).drew
    have c0 := (SN11.out.q.fr FD11.out (by simp)).c0
    have c1 := (SN11.out.q.fr FD11.out (by simp)).c1
    have c2 := (SN11.out.q.fr FD11.out (by simp)).c2
    have c3 := (SN11.out.q.fr FD11.out (by simp)).c3
    have c4 := (SN11.out.q.fr FD11.out (by simp)).c4
    have c5 := (SN11.out.q.fr FD11.out (by simp)).c5
    have c6 := (SN11.out.q.fr FD11.out (by simp)).c6
    dsimp only at c0 c1 c2 c3 c4 c5 c6
    have SNA := Lib.hid (SN11.out.q.fr ((Fr.refl [] wr).alloc (.cells #[.slice none 0 0, .int .i64 0, .bool false] 27)).drew (by simp))
    go_cut [14] (fun v wc => ∃ g, v = .pointer (some ⟨g, 0, none⟩) ∧ Hid (RsOut wr wc g ⟨zr, zv, zf⟩))
    case first =>
      go_region_held3 (fun w' => w'.cell? ⟨gq, 0, none⟩ = some (.int .i64 qk) ∧ w'.cell? ⟨gq, 1, none⟩ = some (.int .i64 qt) ∧ w'.cell? ⟨gq, 2, none⟩ = some (.int .i64 qc) ∧ w'.cell? ⟨gq, 3, none⟩ = some (.int .i64 ql) ∧ w'.cell? ⟨gq, 4, none⟩ = some (.int .i64 qh) ∧ w'.cell? ⟨gq, 5, none⟩ = some (.int .i64 qb) ∧ w'.cell? ⟨gq, 6, none⟩ = some (.int .i64 qo))
        (first | exact ⟨c0, c1, c2, c3, c4, c5, c6⟩ | exact ⟨SNA.out.c0, SNA.out.c1, SNA.out.c2, SNA.out.c3, SNA.out.c4, SNA.out.c5, SNA.out.c6⟩ | exact ⟨SNY.out.c0, SNY.out.c1, SNY.out.c2, SNY.out.c3, SNY.out.c4, SNY.out.c5, SNY.out.c6⟩ | exact ⟨SNZ.out.c0, SNZ.out.c1, SNZ.out.c2, SNZ.out.c3, SNZ.out.c4, SNZ.out.c5, SNZ.out.c6⟩ | exact ⟨HSN9.out.c0, HSN9.out.c1, HSN9.out.c2, HSN9.out.c3, HSN9.out.c4, HSN9.out.c5, HSN9.out.c6⟩ | go_keep)
        (first
          | (go_at_call 29; refine (HROW.out _ (HST.out.fr0 (FB11.out.trans (by first | exact FD11.out | exact FD11.out.alloc _)))).mono ?_; rintro e wy ⟨v6, T', rfl, ho, hp, fy, -⟩; have he := HUT.out T' hp; subst he; obtain ⟨At, nt, kt, hv⟩ : ∃ A n c, v6 = .slice A n c := (match ho.val with | ⟨_, _, hv⟩ => ⟨_, _, _, hv⟩); subst hv; have HTA := Lib.hid (OwnL.rowsAt ho); have FY : Hid (Fr [] wr wy) := Lib.hid (by first | exact FD11.out.trans fy | exact (FD11.out.alloc _).trans fy); (try (have RNY : Hid (RsAt wy (wr).heap.size (.slice none 0 0) 0 false) := Lib.hid ((RsAt.new (wr).drew (.slice none 0 0) 0 false).fr fy (by simp)))); have SNY := Lib.hid (SN11.out.q.fr FY.out (by simp)); have e0 := SNY.out.c0; have e1 := SNY.out.c1; have e2 := SNY.out.c2; have e3 := SNY.out.c3; have e4 := SNY.out.c4; have e5 := SNY.out.c5; have e6 := SNY.out.c6; clear ho hp fy)
          | (go_at_call 13; refine (HFRM.out _ Ar nr kr At nt kt (HR11.out.fr0 (by first | exact FY.out | exact FY.out.alloc _)) HNR.out (by first | exact HTA.out.1 | exact HTA.out.1.fr0 ((Fr.refl [] _).alloc _)) HTA.out.2).mono ?_; rintro e wz ⟨v7, rfl, hres⟩; obtain ⟨A7, n7, k7, hv7⟩ : ∃ A n c, v7 = .slice A n c := (match hres.own.val with | ⟨_, _, hv⟩ => ⟨_, _, _, hv⟩); subst hv7; have FZ : Hid (Fr [] wr wz) := Lib.hid (by first | exact FY.out.trans hres.fr | exact (FY.out.alloc _).trans hres.fr); have OZ := Lib.hid hres.own; have NZ : Hid (∀ x, (Value.slice A7 n7 k7).ownBlock = some x → (wr).heap.size ≤ x) := Lib.hid (fun x hx => by have h1 := hres.new x hx; have h2 := FY.out.size; (try simp only [World.size_alloc] at h1); omega); (first | (have RNZ := Lib.hid (RNY.out.fr hres.fr (by simp))) | (have RNZ := Lib.hid ((RsAt.new wy (.slice none 0 0) 0 false).fr hres.fr (by simp))) | skip); (try (have y0 := RNZ.out.c0; have y1 := RNZ.out.c1; have y2 := RNZ.out.c2; have z0 := RNZ.out.z 0; have z1 := RNZ.out.z 1; have z2 := RNZ.out.z 2)); have SNZ := Lib.hid (SN11.out.q.fr FZ.out (by simp)); (try (obtain ⟨_, rfl, h9, f9⟩ := RNZ.out.fill (.slice A7 n7 k7) zv zf; have HSN9 := Lib.hid (SNZ.out.fr f9 (by simpa using Blk.ne SNZ.out RNZ.out (by decide))); have H9 := Lib.hid h9; have F9 := Lib.hid f9; have NG9 := Lib.hid (fun x (hx : (Value.slice A7 n7 k7).ownBlock = some x) => OwnL.ne hres.own RNZ.out (by decide) hx); clear h9 f9)); have h0 := SNZ.out.c0; have h1 := SNZ.out.c1; have h2 := SNZ.out.c2; have h3 := SNZ.out.c3; have h4 := SNZ.out.c4; have h5 := SNZ.out.c5; have h6 := SNZ.out.c6; clear hres))
      all_goals
        go_wp2_with fail
        go_meet
        first
          | exact ⟨_, rfl, Lib.hid ⟨⟨A7, n7, k7, H9.out, OZ.out.fr F9.out (fun x hx => by simpa using NG9.out x hx), NZ.out⟩, FZ.out.trans' F9.out (fun x hx => .inr (by simp only [List.mem_singleton] at hx; subst hx; first | exact Nat.le_refl _ | exact FY.out.size))⟩⟩
          | exact ⟨_, rfl, Lib.hid ⟨⟨A7, n7, k7, (RsAt.new wz (.slice A7 n7 k7) zv zf).fr (Fr.refl [] _) (by simp), OZ.out.fr ((Fr.refl [] wz).alloc _) (by simp), NZ.out⟩, FZ.out.alloc _⟩⟩
    case rest =>

    obtain ⟨gb, rfl, HRO⟩ := hcut
    clear c0 c1 c2 c3 c4 c5 c6 SNA FD11
    obtain ⟨Ab, nb, kb, hrb, hob, -⟩ := HRO.out.ex
    have Rb : Hid (RsAt wc gb (.slice Ab nb kb) zv zf) := Lib.hid hrb
    have Lb := Lib.hid (OwnL.rowsAt hob).1
    have HNb := Lib.hid (OwnL.rowsAt hob).2
    have FT := Lib.hid HRO.out.fr
    have SN12 := Lib.hid (SN11.out.fr0 FT.out)
    have Lr := Lib.hid (HR11.out.fr0 FT.out)
    have Lw := Lib.hid (HW11.out.fr0 FT.out)
    clear hrb hob HRO HR11 HW11 SN11
    have c0 : wc.cell? ⟨gq, 0, none⟩ = some (.int .i64 (qk)) := SN12.out.q.c0
    have c1 : wc.cell? ⟨gq, 1, none⟩ = some (.int .i64 (qt)) := SN12.out.q.c1
    have c2 : wc.cell? ⟨gq, 2, none⟩ = some (.int .i64 (qc)) := SN12.out.q.c2
    have c3 : wc.cell? ⟨gq, 3, none⟩ = some (.int .i64 (ql)) := SN12.out.q.c3
    have c4 : wc.cell? ⟨gq, 4, none⟩ = some (.int .i64 (qh)) := SN12.out.q.c4
    have c5 : wc.cell? ⟨gq, 5, none⟩ = some (.int .i64 (qb)) := SN12.out.q.c5
    have c6 : wc.cell? ⟨gq, 6, none⟩ = some (.int .i64 (qo)) := SN12.out.q.c6
    go_upto_region 13 with (go_at_call 22; refine (eof_is (HST.out.fr0 SN12.out.fr) HSND.out (q := ⟨qk, qt, qc, ql, qh, qb, qo⟩) HV.out HOF.out).mono ?_; rintro e wx ⟨Ac, nc, kc, rfl, hnc, hl, fx, had⟩; have HNc := Lib.hid hnc; have FX := Lib.hid fx; have Lc := Lib.hid hl; have ND := Lib.hid had; clear fx hnc hl had)
    clear c0 c1 c2 c3 c4 c5 c6
    have FZ := FX.out.alloc (.cells #[.slice Ac nc kc, .int .i64 (zv), .bool zf] 27)
    replace FT := Lib.hid (FT.out.trans FZ)
    replace Rb := Lib.hid (Rb.out.fr FZ (by simp))
    replace Lb := Lib.hid (Lb.out.fr0 FZ)
    replace Lr := Lib.hid (Lr.out.fr0 FZ)
    replace Lw := Lib.hid (Lw.out.fr0 FZ)
    replace Lc := Lib.hid (Lc.out.fr0 ((Fr.refl [] wx).alloc (.cells #[.slice Ac nc kc, .int .i64 (zv), .bool zf] 27)))
    have Nc : Hid (∀ ad, Ac = some ad → gq < ad.block) := Lib.hid (fun ad e => Nat.lt_of_lt_of_le (Blk.lt SN12.out.q) (ND.out ad e))
    have Rc := Lib.hid (RsAt.new wx (.slice Ac nc kc) (zv) zf)
    have SN13 := Lib.hid (SN12.out.fr0 FZ)
    clear FZ FX ND 
    generalize hwz : wx.alloc (.cells #[.slice Ac nc kc, .int .i64 (zv), .bool zf] 27) = wc13 at *
    clear hwz SN12
    generalize wx.heap.size = gc at *
    have b0 := Rb.out.c0
    have b1 := Rb.out.c1
    have b2 := Rb.out.c2
    have c0 := Rc.out.c0
    have c1 := Rc.out.c1
    have c2 := Rc.out.c2
    have HSW : Hid (∀ W : World, Fr [] wc13 W → Calls Try.prog 27 #[.slice Ar nr kr, .slice Aw nw kw] W fun e w' => e = .returned (.bool true) ∧ Fr [] W w') := Lib.hid (fun W hf => same3_eq Ar nr kr R' Aw nw kw R' W (Lr.out.fr0 hf) HNR.out (Lw.out.fr0 hf) HNW.out (by rw [HNR.out]; have := HRL.out; omega) rfl (by rw [HNW.out]; have := HRL.out; omega))
    have HSM : Hid (∀ W : World, Fr [] wc13 W → Calls Try.prog 15 #[.agg #[.slice Ab nb kb, .int .i64 zv, .bool zf], .agg #[.slice Ac nc kc, .int .i64 zv, .bool zf]] W fun e w' => e = .returned (.bool true) ∧ Fr [] W w') := Lib.hid (fun W hf => by
      have h := rsame_any Ab nb kb zv zf zr Ac nc kc zv zf zr W (Lb.out.fr0 hf) HNb.out (Lc.out.fr0 hf) HNc.out (by rw [HNb.out]; exact HZL.out) (by rw [HNc.out]; exact HZL.out)
      rwa [decide_eq_true rfl] at h)
    go_upto_region 15 with (first
      | (go_at_call 27; (with_reducible refine (HSW.out _ (Fr.refl [] _)).mono ?_); rintro e wy ⟨rfl, fy⟩; have FY := Lib.hid fy; have RBY := Lib.hid (Rb.out.fr fy (by simp)); have RCY := Lib.hid (Rc.out.fr fy (by simp)); have b0 := RBY.out.c0; have b1 := RBY.out.c1; have b2 := RBY.out.c2; have c0 := RCY.out.c0; have c1 := RCY.out.c1; have c2 := RCY.out.c2; clear fy)
      | (go_at_call 15; (with_reducible refine (HSM.out _ FY.out).mono ?_); rintro e wz ⟨rfl, fz⟩; have FZ := Lib.hid (FY.out.trans fz); clear fz))
    have F15 := Lib.hid (FT.out.trans FZ.out)
    have q15 := HQ11.out.fr F15.out (by simp)
    have c0 := q15.c0
    have c1 := q15.c1
    have c2 := q15.c2
    have c3 := q15.c3
    have c4 := q15.c4
    have c5 := q15.c5
    have c6 := q15.c6
    dsimp only at c0 c1 c2 c3 c4 c5 c6
    have S15 := Lib.hid (HST.out.fr0 (SN13.out.fr.trans FZ.out))
    have FE15 := Lib.hid ((FW.out.trans SN13.out.fr).trans FZ.out)
    clear q15 b0 b1 b2
    go_upto_region 16 with (go_at_call 13; refine (HFRD.out _ Ar nr kr (Lr.out.fr0 FZ.out) HNR.out).mono ?_; rintro e wd ⟨vd, rfl, hres⟩; obtain ⟨Ad, nd, kd, hvd⟩ : ∃ A n c, vd = .slice A n c := (match hres.own.val with | ⟨_, _, hv⟩ => ⟨_, _, _, hv⟩); subst hvd; have FDD := Lib.hid hres.fr; have LD := Lib.hid (OwnL.rowsAt hres.own); clear hres)
    have F16 := Lib.hid (FDD.out.alloc (.cells #[.slice Ad nd kd, .int .i64 dv, .bool df] 27))
    have RD := Lib.hid (RsAt.new wd (.slice Ad nd kd) dv df)
    have LD6 := Lib.hid (LD.out.1.fr0 ((Fr.refl [] wd).alloc (.cells #[.slice Ad nd kd, .int .i64 dv, .bool df] 27)))
    generalize hw6 : wd.alloc (.cells #[.slice Ad nd kd, .int .i64 dv, .bool df] 27) = w16 at *
    clear hw6
    generalize wd.heap.size = gd at *
    have S16 := Lib.hid (S15.out.fr0 F16.out)
    have q16 := HQ11.out.fr (F15.out.trans F16.out) (by simp)
    have c0 := q16.c0
    have c1 := q16.c1
    have c2 := q16.c2
    have c3 := q16.c3
    have c4 := q16.c4
    have c5 := q16.c5
    have c6 := q16.c6
    dsimp only at c0 c1 c2 c3 c4 c5 c6
    clear q16
    have HOQ := Lib.hid (eof_any bs m (Lg.run out) ⟨rk, rt, rc, rl, rh, rb, ro⟩ w16 S16.out HSND.out)
    obtain ⟨⟨er, ev_, ef⟩, HE⟩ : ∃ r, Hid (Em.of (Lg.run out) ⟨rk, rt, rc, rl, rh, rb, ro⟩ = r) := ⟨_, Lib.hid rfl⟩
    rw [HE.out] at HOQ
    obtain ⟨ec, HEC⟩ : ∃ c, Hid (Em.code ⟨rk, rt, rc, rl, rh, rb, ro⟩ = c) := ⟨_, Lib.hid rfl⟩
    rw [HEC.out] at HOQ
    dsimp only at HOQ
    go_upto_region 17 with (go_at_call 22; refine HOQ.out.mono ?_; rintro e wo ⟨vo, rfl, hres⟩; obtain ⟨Ao, no, ko, hvo⟩ : ∃ A n c, vo = .slice A n c := (match hres.own.val with | ⟨_, _, hv⟩ => ⟨_, _, _, hv⟩); subst hvo; have FO := Lib.hid hres.fr; clear hres)
    have F17 := Lib.hid (F16.out.trans (FO.out.alloc (.cells #[.slice Ao no ko, .int .i64 ev_, .bool ef] 27)))
    have F167 := Lib.hid (FO.out.alloc (.cells #[.slice Ao no ko, .int .i64 ev_, .bool ef] 27))
    generalize hw7 : wo.alloc (.cells #[.slice Ao no ko, .int .i64 ev_, .bool ef] 27) = w17 at *
    clear hw7
    have q17 := HQ11.out.fr (F15.out.trans F17.out) (by simp)
    have c0 := q17.c0
    have c1 := q17.c1
    have c2 := q17.c2
    have c3 := q17.c3
    have c4 := q17.c4
    have c5 := q17.c5
    have c6 := q17.c6
    dsimp only at c0 c1 c2 c3 c4 c5 c6
    clear q17
    have HVD := Lib.hid (rvalid_any ⟨rk, rt, rc, rl, rh, rb, ro⟩ w17)
    cases hv : Em.valid ⟨rk, rt, rc, rl, rh, rb, ro⟩
    · rw [hv] at HVD
      have hec : ec = 50 := by rw [← HEC.out]; unfold Em.code; rw [hv]; rfl
      have hd := HD.out
      rw [Em.res_bad hv] at hd
      injection hd with hd1 hd2 hd3
      subst hec hd1 hd2 hd3
      have hnd : nd = 0 := LD.out.2
      have HND := Lib.hid hnd
      clear hnd hv
      go_upto_region 18 with (go_at_call 30; refine HVD.out.mono ?_; rintro e wv ⟨rfl, fv⟩; have FV := Lib.hid fv; clear fv)
      have RDV := Lib.hid (RD.out.fr (F167.out.trans FV.out) (by simp))
      have d0 := RDV.out.c0
      have d1 := RDV.out.c1
      have d2 := RDV.out.c2
      have HSD : Hid (Calls Try.prog 15 #[.agg #[.slice Ad nd kd, .int .i64 0, .bool false], .agg #[.slice none 0 0, .int .i64 0, .bool false]] wv fun e w' => e = .returned (.bool true) ∧ Fr [] wv w') := Lib.hid (by
        have h := rsame_any Ad nd kd 0 false [] none 0 0 0 false [] wv (fun h0 => absurd h0 (by simp)) HND.out (fun h0 => absurd h0 (by simp)) rfl (by rw [HND.out]; decide) (by decide)
        rwa [decide_eq_true rfl] at h)
      clear c0 c1 c2 c3 c4 c5 c6
      go_wp2_with (go_at_call 15; refine HSD.out.mono ?_; rintro e wu ⟨rfl, fu⟩; have FU := Lib.hid fu; clear fu)
      go_ret
      exact ⟨rfl, (((FE15.out.trans F17.out).trans FV.out).trans FU.out).below⟩
    · rw [hv] at HVD
      have hec : ec = 0 := by rw [← HEC.out]; unfold Em.code; rw [hv]; rfl
      subst hec
      clear hv
      go_upto_region 18 with (go_at_call 30; refine HVD.out.mono ?_; rintro e wv ⟨rfl, fv⟩; have FV := Lib.hid fv; clear fv)
      clear c0 c1 c2 c3 c4 c5 c6
      go_wp2_with fail
      go_ret
      exact ⟨rfl, ((FE15.out.trans F17.out).trans FV.out).below⟩
end Go.Proofs.Ytlicjokgcahmlaa
