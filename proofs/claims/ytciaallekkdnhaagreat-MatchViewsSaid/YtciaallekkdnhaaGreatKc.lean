/-
  When results are the same; their size.
-/
import Derived.Test.YtciaallekkdnhaaGreatKb
import Derived.Test.YtciaallekkdnhaaGreatKa
import Derived.Test.YtciaallekkdnhaaGreatJl
import Derived.Test.YtciaallekkdnhaaGreatJx
import Derived.Deep.QuietTactic
namespace Go.Proofs.YtciaallekkdnhaaGreat
open Go.RowKit

/-- Rows whose values are not far from 0. -/
def Sm.Sound (s : Sm.Sta) : Prop := ∀ e ∈ s.M, Rw.row e.2.t e.2.k e.2.x e.2.y e.2.z = true
theorem Sm.sound_new : Sm.Sound Sm.new := by simp [Sm.Sound, Sm.new]
theorem Sm.mem_put1 {M : List (IdK × RowV)} {c : Chg} {e : IdK × RowV} (h : e ∈ Sm.put1 M c) : e ∈ M ∨ (c.has = true ∧ e.2 = Sm.after c) := by
  unfold Sm.put1 at h
  split at h
  · rename_i hc
    unfold mput at h
    rcases List.mem_cons.1 h with rfl | h
    · exact .inr ⟨hc, rfl⟩
    · unfold mdel at h
      exact .inl (List.mem_filter.1 h).1
  · unfold mdel at h
    exact .inl (List.mem_filter.1 h).1
theorem Sm.after_row {c : Chg} (hc : Rw.chg c = true) (h : c.has = true) : Rw.row (Sm.after c).t (Sm.after c).k (Sm.after c).x (Sm.after c).y (Sm.after c).z = true := by
  unfold Rw.chg at hc
  simp only [Bool.and_eq_true] at hc
  have h2 := hc.2
  unfold Rw.sound at h2
  rw [if_pos h] at h2
  exact h2
theorem Sm.Sound.fold : ∀ (cs : List Chg) (M : List (IdK × RowV)), (∀ e ∈ M, Rw.row e.2.t e.2.k e.2.x e.2.y e.2.z = true) → (∀ c ∈ cs, Rw.chg c = true) → ∀ e ∈ cs.foldl Sm.put1 M, Rw.row e.2.t e.2.k e.2.x e.2.y e.2.z = true
  | [], _, h, _ => h
  | c :: cs, M, h, hc => by
    rw [List.foldl_cons]
    refine Sm.Sound.fold cs _ (fun e he => ?_) (fun d hd => hc d (by simp [hd]))
    rcases Sm.mem_put1 he with h1 | ⟨h1, h2⟩
    · exact h e h1
    · rw [h2]
      exact Sm.after_row (hc c (by simp)) h1
theorem Sm.Sound.applied {s : Sm.Sta} (h : Sm.Sound s) (r : Rec) : Sm.Sound (Sm.apply s r) := by
  unfold Sm.apply
  split
  · rename_i hf
    simp only [Sm.fits, Bool.and_eq_true] at hf
    exact Sm.Sound.fold r.cs s.M h (Rw.valid_all hf.1.1).1
  · exact h
theorem Lg.run_sound (l : List Rec) : Sm.Sound (Lg.run l) := by
  have key : ∀ (l : List Rec) (s : Sm.Sta), Sm.Sound s → Sm.Sound (l.foldl Sm.apply s) := by
    intro l
    induction l with
    | nil => exact fun s h => h
    | cons r l ih => exact fun s h => ih _ (h.applied r)
  exact key l _ Sm.sound_new
theorem Rw.row_bounds {t k x y z : Int} (h : Rw.row t k x y z = true) : (0 ≤ t ∧ t ≤ 3) ∧ (1 ≤ k ∧ k ≤ 1000000) ∧ (-1000000000 ≤ x ∧ x ≤ 1000000000) ∧ (-1000000000 ≤ y ∧ y ≤ 1000000000) ∧ (-1000000000 ≤ z ∧ z ≤ 1000000000) := by
  unfold Rw.row Rw.inI at h
  simp only [Bool.and_eq_true, decide_eq_true_eq] at h
  exact ⟨h.1.1, h.1.2, h.2.1.1, h.2.1.2, h.2.2⟩
theorem RowV.value_bounds {r : RowV} (h : Rw.row r.t r.k r.x r.y r.z = true) (c : Int) : -1000000000 ≤ r.value c ∧ r.value c ≤ 1000000000 := by
  have hb := Rw.row_bounds h
  unfold RowV.value
  repeat' split
  all_goals omega
namespace Em
def le2 (c : Int) (a b : RowV) : Bool := decide (a.value c < b.value c) || (decide (a.value c = b.value c) && decide (a.k ≤ b.k))
theorem le2_iff (c : Int) (a b : RowV) : le2 c a b = true ↔ ¬ ahead2 c b a := by
  unfold le2 ahead2
  simp only [Bool.or_eq_true, Bool.and_eq_true, decide_eq_true_eq]
  omega
/-- The rows of a choice, sorted by a column. -/
def sel (s : Sm.Sta) (c : Int) (p : RowV → Bool) : List RowV := ((s.M.map (·.2)).filter p).mergeSort (le2 c)
theorem sel_picked (s : Sm.Sta) (c : Int) (p : RowV → Bool) : Picked s c p (sel s c p) := by
  refine ⟨List.mergeSort_perm _ _, ?_⟩
  have h := List.pairwise_mergeSort (le := le2 c) (fun a b d h1 h2 => by
    rw [le2_iff] at *
    unfold ahead2 at *
    omega) (fun a b => by
    rw [Bool.or_eq_true, le2_iff, le2_iff]
    unfold ahead2
    omega) ((s.M.map (·.2)).filter p)
  exact h.imp (fun h1 => (le2_iff c _ _).1 h1)
def scan (s : Sm.Sta) (q : Qry) : List RowV := sel s q.column (inRng q.table q.column q.low q.high)
def tab (s : Sm.Sta) (t : Int) : List RowV := sel s 0 (inTab t)
def of (s : Sm.Sta) (q : Qry) : Res := res q (scan s q) (tab s q.other)
def code (q : Qry) : Int := if valid q = true then 0 else 50
theorem valid_base' {q : Qry} (h : valid q = true) : (0 ≤ q.table ∧ q.table ≤ 3) ∧ (0 ≤ q.column ∧ q.column ≤ 3) ∧ (-1000000000 ≤ q.low ∧ q.low ≤ q.high ∧ q.high ≤ 1000000000) := by
  have hb : base q = true := by
    cases hb : base q with
    | true => rfl
    | false => rw [Em.valid_base hb] at h; cases h
  unfold base within at hb
  simp only [Bool.and_eq_true, decide_eq_true_eq] at hb
  omega
end Em
theorem Picked.mem {s : Sm.Sta} {c : Int} {p : RowV → Bool} {R : List RowV} (h : Picked s c p R) {r : RowV} (hr : r ∈ R) : ∃ e ∈ s.M, e.2 = r ∧ p r = true := by
  have h1 := List.mem_filter.1 (h.perm.mem_iff.1 hr)
  obtain ⟨e, he, rfl⟩ := List.mem_map.1 h1.1
  exact ⟨e, he, rfl, h1.2⟩
theorem Picked.len {s : Sm.Sta} {c : Int} {p : RowV → Bool} {R : List RowV} (h : Picked s c p R) (ho : Sm.Ok s) : R.length ≤ 2000 := by
  have h1 := h.perm.length_eq
  have h2 := List.length_filter_le p (s.M.map (·.2))
  rw [List.length_map] at h2
  have := ho.len
  omega
theorem Picked.vals {s : Sm.Sta} {c : Int} {p : RowV → Bool} {R : List RowV} (h : Picked s c p R) (hs : Sm.Sound s) {r : RowV} (hr : r ∈ R) : Rw.row r.t r.k r.x r.y r.z = true := by
  obtain ⟨e, he, rfl, _⟩ := h.mem hr
  exact hs e he
theorem OwnL.rowsAt {w : World} {A : Option Addr} {n cap : Nat} {l : List RowV} (h : RowsOwn w (.slice A n cap) l) : RowsAt w A l ∧ n = l.length := h.at1 RowV.cells_len
set_option maxRecDepth 100000 in
set_option maxHeartbeats 4000000 in
theorem eof_any (bs m : Nat) (s : Sm.Sta) (q : Qry) (w : World) (h : StaAt w bs m s) (hs : Sm.Sound s) :
    Calls Tryz.prog 31 #[.pointer (some ⟨bs, 0, none⟩), q.val] w fun e w' => ∃ v, e = .returned (.tuple #[.agg #[v, .int .i64 (Em.of s q).value, .bool (Em.of s q).found], .int .i64 (Em.code q)]) ∧ ResO w w' v (Em.of s q).rows := by
  have H := Lib.hid h
  have HSN := Lib.hid hs
  clear h hs
  have R0 := Lib.hid (FrRel.new w q)
  obtain ⟨k, t, c, lo, hi, b, o⟩ := q
  unfold Qry.val
  dsimp only at *
  go_enter Tryz.func31, Tryz.ntmps31
  go_upto_region 1 with (fail)
  generalize (w.alloc (.cells #[.int .i64 k, .int .i64 t, .int .i64 c, .int .i64 lo, .int .i64 hi, .int .i64 b, .int .i64 o] 35)).alloc (.cells #[.slice none 0 0, .int .i64 0, .bool false] 71) = w2 at *
  have c0 : w2.cell? ⟨w.heap.size, 0, none⟩ = some (.int .i64 k) := R0.out.box.c0
  have c1 : w2.cell? ⟨w.heap.size, 1, none⟩ = some (.int .i64 t) := R0.out.box.c1
  have c2 : w2.cell? ⟨w.heap.size, 2, none⟩ = some (.int .i64 c) := R0.out.box.c2
  have c3 : w2.cell? ⟨w.heap.size, 3, none⟩ = some (.int .i64 lo) := R0.out.box.c3
  have c4 : w2.cell? ⟨w.heap.size, 4, none⟩ = some (.int .i64 hi) := R0.out.box.c4
  have c5 : w2.cell? ⟨w.heap.size, 5, none⟩ = some (.int .i64 b) := R0.out.box.c5
  have c6 : w2.cell? ⟨w.heap.size, 6, none⟩ = some (.int .i64 o) := R0.out.box.c6
  have HQV := Lib.hid (qvalid_any ⟨k, t, c, lo, hi, b, o⟩ w2)
  cases hv : Em.valid ⟨k, t, c, lo, hi, b, o⟩
  · rw [hv] at HQV
    go_upto_region 4 with (go_at_call 27; refine HQV.out.mono ?_; rintro e w3 ⟨rfl, f3⟩; have R3 := Lib.hid (R0.out.fr0 f3); clear f3)
    have z0 := R3.out.res.z 0
    have z1 := R3.out.res.z 1
    have z2 := R3.out.res.z 2
    have y0 := R3.out.res.c0
    have y1 := R3.out.res.c1
    have y2 := R3.out.res.c2
    clear HQV R0 c0 c1 c2 c3 c4 c5 c6
    go_wp2_with fail
    obtain ⟨w4, e4, q0, q1, q2, f4, -⟩ := R3.out.fin (.slice none 0 0) 0 false
    rw [e4]
    have e1 : Em.of s ⟨k, t, c, lo, hi, b, o⟩ = ⟨[], 0, false⟩ := Em.res_bad hv
    have e2 : Em.code ⟨k, t, c, lo, hi, b, o⟩ = 50 := by unfold Em.code; rw [hv]; rfl
    exact bodyPost_ret (v := .tuple #[.agg #[.slice none 0 0, .int .i64 0, .bool false], .int .i64 50]) (by simp [results, Tryz.results31, go_sem, q0, q1, q2]) rfl ⟨_, by rw [e1, e2], by rw [e1]; exact ⟨OwnL.nil, f4, by simp [Value.ownBlock]⟩⟩
  rw [hv] at HQV
  have HVV := Lib.hid hv
  have hvb := Em.valid_base' hv
  dsimp only at hvb
  have HB := Lib.hid hvb
  clear hv hvb
  go_upto_region 5 with (go_at_call 27; refine HQV.out.mono ?_; rintro e w3 ⟨rfl, f3⟩; have R3 := Lib.hid (R0.out.fr0 f3); clear f3)
  clear HQV R0 c0 c1 c2 c3 c4 c5 c6
  have Rd := Lib.hid (R3.out.fr0 (Fr.refl [] w3).drew)
  have c0 : w3.cell? ⟨w.heap.size, 0, none⟩ = some (.int .i64 k) := R3.out.box.c0
  have c1 : w3.cell? ⟨w.heap.size, 1, none⟩ = some (.int .i64 t) := R3.out.box.c1
  have c2 : w3.cell? ⟨w.heap.size, 2, none⟩ = some (.int .i64 c) := R3.out.box.c2
  have c3 : w3.cell? ⟨w.heap.size, 3, none⟩ = some (.int .i64 lo) := R3.out.box.c3
  have c4 : w3.cell? ⟨w.heap.size, 4, none⟩ = some (.int .i64 hi) := R3.out.box.c4
  have c5 : w3.cell? ⟨w.heap.size, 5, none⟩ = some (.int .i64 b) := R3.out.box.c5
  have c6 : w3.cell? ⟨w.heap.size, 6, none⟩ = some (.int .i64 o) := R3.out.box.c6
  obtain ⟨⟨vr, vn, vf⟩, HRES⟩ : ∃ r, Hid (Em.of s ⟨k, t, c, lo, hi, b, o⟩ = r) := ⟨_, Lib.hid rfl⟩
  go_region_held3 (fun w' => w'.cell? ⟨w.heap.size, 0, none⟩ = some (.int .i64 k) ∧ w'.cell? ⟨w.heap.size, 1, none⟩ = some (.int .i64 t) ∧ w'.cell? ⟨w.heap.size, 2, none⟩ = some (.int .i64 c) ∧ w'.cell? ⟨w.heap.size, 3, none⟩ = some (.int .i64 lo) ∧ w'.cell? ⟨w.heap.size, 4, none⟩ = some (.int .i64 hi) ∧ w'.cell? ⟨w.heap.size, 5, none⟩ = some (.int .i64 b) ∧ w'.cell? ⟨w.heap.size, 6, none⟩ = some (.int .i64 o))
    (first | exact ⟨Rd.out.box.c0, Rd.out.box.c1, Rd.out.box.c2, Rd.out.box.c3, Rd.out.box.c4, Rd.out.box.c5, Rd.out.box.c6⟩ | exact ⟨R5.out.box.c0, R5.out.box.c1, R5.out.box.c2, R5.out.box.c3, R5.out.box.c4, R5.out.box.c5, R5.out.box.c6⟩ | exact ⟨R6.out.box.c0, R6.out.box.c1, R6.out.box.c2, R6.out.box.c3, R6.out.box.c4, R6.out.box.c5, R6.out.box.c6⟩ | exact ⟨R7.out.box.c0, R7.out.box.c1, R7.out.box.c2, R7.out.box.c3, R7.out.box.c4, R7.out.box.c5, R7.out.box.c6⟩ | exact ⟨S8.out.c0, S8.out.c1, S8.out.c2, S8.out.c3, S8.out.c4, S8.out.c5, S8.out.c6⟩)
    (first
      | (go_at_call 52; refine (srange_any bs m s t c lo hi _ (H.out.fr0 Rd.out.fr) HB.out.2.1.1 (by have := HB.out.2.1.2; omega)).mono ?_; rintro e w5 ⟨v5, L5, rfl, ho5, hp5, f5, -⟩; obtain ⟨A5, n5, k5, hv5⟩ : ∃ A n c, v5 = .slice A n c := (match ho5.val with | ⟨_, _, hv⟩ => ⟨_, _, _, hv⟩); subst hv5; have R5 := Lib.hid (Rd.out.fr0 f5); have O5 := Lib.hid (OwnL.rowsAt ho5); have P5 := Lib.hid hp5; clear ho5 hp5 f5)
      | (go_at_call 53; refine (srows_any bs m s o _ (H.out.fr0 R5.out.fr)).mono ?_; rintro e w6 ⟨v6, L6, rfl, ho6, hp6, f6, -⟩; obtain ⟨A6, n6, k6, hv6⟩ : ∃ A n c, v6 = .slice A n c := (match ho6.val with | ⟨_, _, hv⟩ => ⟨_, _, _, hv⟩); subst hv6; have R6 := Lib.hid (R5.out.fr0 f6); have O6 := Lib.hid (OwnL.rowsAt ho6); have P6 := Lib.hid hp6; have X6 := Lib.hid (O5.out.1.fr f6 (by simp)); clear ho6 hp6 f6)
      | (go_at_call 51; refine (efrom_any ⟨k, t, c, lo, hi, b, o⟩ A5 n5 k5 L5 A6 n6 k6 L6 w6 X6.out O5.out.2 (by rw [O5.out.2]; have := P5.out.len H.out.ok; omega) O6.out.1 O6.out.2 (by rw [O6.out.2]; have := P6.out.len H.out.ok; omega) (fun _ r hr => by have := RowV.value_bounds (P5.out.vals HSN.out hr) b; exact okI_mk (by dsimp only; omega) (by dsimp only; omega)) (fun r hr => by have := Rw.row_bounds (P6.out.vals HSN.out hr); exact okI_mk (by omega) (by omega)) (fun _ _ r hr => by have := RowV.value_bounds (P5.out.vals HSN.out hr) b; dsimp only; omega)).mono ?_; rintro e w7 ⟨v7, rfl, hres⟩; have HEQ : Em.res ⟨k, t, c, lo, hi, b, o⟩ L5 L6 = ⟨vr, vn, vf⟩ := (by rw [← HRES.out]; unfold Em.of Em.scan Em.tab; rw [P5.out.uniq (Em.sel_picked s c (inRng t c lo hi)) H.out.ok inRng_t, P6.out.uniq (Em.sel_picked s 0 (inTab o)) H.out.ok inTab_t]); rw [HEQ] at hres ⊢; dsimp only at hres; dsimp only; obtain ⟨A7, n7, k7, hv7⟩ : ∃ A n c, v7 = .slice A n c := (match hres.own.val with | ⟨_, _, hv⟩ => ⟨_, _, _, hv⟩); subst hv7; have R7 := Lib.hid (R6.out.fr0 hres.fr); have HR7 := Lib.hid hres; have hs6 := R6.out.res; have HL6 := Lib.hid (Blk.lt hs6); clear hs6 hres HEQ; have z0 := R7.out.res.z 0; have z1 := R7.out.res.z 1; have z2 := R7.out.res.z 2; have y0 := R7.out.res.c0; have y1 := R7.out.res.c1; have y2 := R7.out.res.c2; obtain ⟨w8, e8, q0, q1, q2, f8, g8⟩ := R7.out.fin (.slice A7 n7 k7) vn vf; have B8 := R7.out.box.fr g8 (by simp); rw [← e8] at B8; have S8 := Lib.hid B8; clear B8; have E8 := Lib.hid e8; have Q8 := Lib.hid (And.intro q0 (And.intro q1 q2)); have F8 := Lib.hid f8; have G8 := Lib.hid g8; clear e8 q0 q1 q2 f8 g8))
  go_wp2_with fail
  have q0 := Q8.out.1
  have q1 := Q8.out.2.1
  have q2 := Q8.out.2.2
  rw [E8.out]
  have e2 : Em.code ⟨k, t, c, lo, hi, b, o⟩ = 0 := by unfold Em.code; rw [HVV.out]; rfl
  exact bodyPost_ret (v := .tuple #[.agg #[.slice A7 n7 k7, .int .i64 vn, .bool vf], .int .i64 0]) (by simp [results, Tryz.results31, go_sem, q0, q1, q2]) rfl ⟨_, by rw [HRES.out, e2], by
    rw [HRES.out]
    have h6 := R6.out.fr.size
    have hl := HL6.out
    refine ⟨HR7.out.own.fr G8.out (fun g hg => ?_), F8.out, fun g hg => Nat.le_trans h6 (HR7.out.new g hg)⟩
    have h7 := HR7.out.new g hg
    simp only [List.mem_singleton]
    omega⟩
end Go.Proofs.YtciaallekkdnhaaGreat
namespace Go.Proofs.YtciaallekkdnhaaGreat
open Go.RowKit

set_option maxRecDepth 100000 in
theorem equalRows_any (cs ds : List RowV) (A B : Option Addr) (ca cb : Nat) (w : World) (ha : RowsAt w A cs) (hb : RowsAt w B ds) (la : cs.length ≤ 4000) (lb : ds.length ≤ 4000) :
    Calls Tryz.prog 54 #[.slice A cs.length ca, .slice B ds.length cb] w fun e w' => e = .returned (.bool (decide (cs = ds))) ∧ Fr [] w w' := by
  by_cases hl : cs.length = ds.length
  · go_enter Tryz.func54, Tryz.ntmps54
    have HL := Lib.hid hl
    have hd : ((cs.length : Int) != (ds.length : Int)) = false := by simp [hl]
    clear hl
    go_wp2_with fail
    have hf0 : Fr [] w w := Fr.refl _ _
    go_loopw [13] (fun i wr => ∃ k : Nat, i = .int .i64 k ∧ (k ≤ cs.length ∧ cs.take k = ds.take k) ∧ Fr [] w wr) (fun i _ => cs.length - (intOf i).toNat)
    case atStart => exact ⟨0, rfl, ⟨Nat.zero_le _, by simp⟩, hf0⟩
    case round =>
      clear hf0
      obtain ⟨k, rfl, ⟨hk, htk⟩, hf⟩ := hrel
      have HTK := Lib.hid htk
      clear htk
      by_cases hlt : k < cs.length
      · obtain ⟨b1, o1, e1, hb1, hc1⟩ := (ha.fr hf (by simp)) (by omega)
        obtain ⟨b2, o2, e2, hb2, hc2⟩ := (hb.fr hf (by simp)) (by have := HL.out; omega)
        subst e1 e2
        have hlt2 : k < ds.length := by have := HL.out; omega
        replace hc1 := Lib.hid (hc1 k hlt)
        replace hc2 := Lib.hid (hc2 k hlt2)
        have htake : cs[k] = ds[k] → cs.take (k + 1) = ds.take (k + 1) := fun e => by rw [List.take_succ_eq_append_getElem hlt, List.take_succ_eq_append_getElem hlt2, HTK.out, e]
        have hdiff : cs[k] ≠ ds[k] → cs ≠ ds := fun h e => h (by simp only [e])
        have hq := neq_row cs[k] ds[k]
        generalize cs[k] = c at *
        generalize ds[k] = d at *
        obtain ⟨t, kk, p0, p1, p2⟩ := c
        obtain ⟨t', kk', p0', p1', p2'⟩ := d
        unfold RowV.val at hq
        dsimp only at hq
        have hc1_0 : wr.cell? ⟨b1, o1 + k * 5, none⟩ = some (.int .i64 t) := hc1.out 0 (by decide)
        have hc1_1 : wr.cell? ⟨b1, o1 + k * 5 + 1, none⟩ = some (.int .i64 kk) := hc1.out 1 (by decide)
        have hc1_2 : wr.cell? ⟨b1, o1 + k * 5 + 2, none⟩ = some (.int .i64 p0) := hc1.out 2 (by decide)
        have hc1_3 : wr.cell? ⟨b1, o1 + k * 5 + 3, none⟩ = some (.int .i64 p1) := hc1.out 3 (by decide)
        have hc1_4 : wr.cell? ⟨b1, o1 + k * 5 + 4, none⟩ = some (.int .i64 p2) := hc1.out 4 (by decide)
        have hc2_0 : wr.cell? ⟨b2, o2 + k * 5, none⟩ = some (.int .i64 t') := hc2.out 0 (by decide)
        have hc2_1 : wr.cell? ⟨b2, o2 + k * 5 + 1, none⟩ = some (.int .i64 kk') := hc2.out 1 (by decide)
        have hc2_2 : wr.cell? ⟨b2, o2 + k * 5 + 2, none⟩ = some (.int .i64 p0') := hc2.out 2 (by decide)
        have hc2_3 : wr.cell? ⟨b2, o2 + k * 5 + 3, none⟩ = some (.int .i64 p1') := hc2.out 3 (by decide)
        have hc2_4 : wr.cell? ⟨b2, o2 + k * 5 + 4, none⟩ = some (.int .i64 p2') := hc2.out 4 (by decide)
        have hg := eqGuard_row
        clear hc1 hc2
        by_cases he : (⟨t, kk, p0, p1, p2⟩ : RowV) = ⟨t', kk', p0', p1', p2'⟩
        · have HT := Lib.hid (htake he)
          rw [decide_eq_true he] at hq
          clear htake hdiff he
          go_wp2_with fail
          go_quiet (fail)
          go_wp2_with fail
          have f1 : Fr [] w (wr.drewN nq) := hf.drewN _
          go_roundw
          case rel => exact ⟨k + 1, by go_num, ⟨by omega, HT.out⟩, f1⟩
          case measure => simp [intOf]; omega
        · have HD := Lib.hid (hdiff he)
          rw [decide_eq_false he] at hq
          clear htake hdiff he
          go_wp2_with fail
          go_quiet (fail)
          go_wp2_with fail
          go_ret
          exact ⟨by rw [decide_eq_false HD.out]; rfl, hf.drewN _⟩
      · go_wp2_with fail
        go_ret
        have HF : cs = ds := by
          have e1 := HTK.out
          have e2 := HL.out
          rwa [List.take_of_length_le (by omega), List.take_of_length_le (by omega)] at e1
        exact ⟨by rw [decide_eq_true HF]; rfl, hf⟩
  · have HF : Hid (decide (cs = ds) = false) := Lib.hid (decide_eq_false fun e => hl (by rw [e]))
    have hd : decide (cs.length = ds.length) = false := by simpa using hl
    go_enter Tryz.func54, Tryz.ntmps54
    go_wp2_with fail
    go_ret
    exact ⟨by rw [HF.out]; rfl, Fr.refl _ _⟩

set_option maxRecDepth 100000 in
set_option maxHeartbeats 4000000 in
theorem esame_any (A : Option Addr) (n ca : Nat) (x : Int) (f : Bool) (l1 : List RowV) (B : Option Addr) (m cb : Nat) (y : Int) (g : Bool) (l2 : List RowV) (w : World) (ha : RowsAt w A l1) (hn : n = l1.length) (hb : RowsAt w B l2) (hm : m = l2.length) (la : n ≤ 4000) (_lb : m ≤ 4000) :
    Calls Tryz.prog 32 #[.agg #[.slice A n ca, .int .i64 x, .bool f], .agg #[.slice B m cb, .int .i64 y, .bool g]] w fun e w' => e = .returned (.bool (decide ((⟨l1, x, f⟩ : Res) = ⟨l2, y, g⟩))) ∧ Fr [] w w' := by
  have ra := (RsAt.new w (.slice A n ca) x f).fr ((Fr.refl [] _).alloc (.cells #[.slice B m cb, .int .i64 y, .bool g] 71)) (by simp)
  have rb := RsAt.new (w.alloc (.cells #[.slice A n ca, .int .i64 x, .bool f] 71)) (.slice B m cb) y g
  rw [World.size_alloc] at rb
  have F0 := Lib.hid (((Fr.refl [] w).alloc (.cells #[.slice A n ca, .int .i64 x, .bool f] 71)).alloc (.cells #[.slice B m cb, .int .i64 y, .bool g] 71))
  have HE := Lib.hid (equalRows_any l1 l2 A B ca cb ((w.alloc (.cells #[.slice A n ca, .int .i64 x, .bool f] 71)).alloc (.cells #[.slice B m cb, .int .i64 y, .bool g] 71)) (ha.fr F0.out (by simp)) (hb.fr F0.out (by simp)) (by omega) (by omega))
  rw [← hn, ← hm] at HE
  obtain ⟨p, HP⟩ : ∃ p, Hid (decide (l1 = l2) = p) := ⟨_, Lib.hid rfl⟩
  rw [HP.out] at HE
  obtain ⟨r, HR⟩ : ∃ r, Hid (decide ((⟨l1, x, f⟩ : Res) = ⟨l2, y, g⟩) = r) := ⟨_, Lib.hid rfl⟩
  rw [HR.out]
  have HPR : Hid (∀ v, (decide (x = y) && decide (f = g) && p) = v → r = v) := Lib.hid (fun v hv => by rw [← hv, ← HR.out, ← HP.out]; simp only [Res.mk.injEq, Bool.decide_and]; cases decide (l1 = l2) <;> cases decide (x = y) <;> cases decide (f = g) <;> rfl)
  clear ha hb hn hm la _lb
  go_enter Tryz.func32, Tryz.ntmps32
  go_upto_region 1 with (fail)
  generalize (w.alloc (.cells #[.slice A n ca, .int .i64 x, .bool f] 71)).alloc (.cells #[.slice B m cb, .int .i64 y, .bool g] 71) = w2 at *
  have a0 := ra.c0
  have a1 := ra.c1
  have a2 := ra.c2
  have b0 := rb.c0
  have b1 := rb.c1
  have b2 := rb.c2
  have HA := Lib.hid ra
  have HB := Lib.hid rb
  clear ra rb
  by_cases hxy : x = y
  · have HXY := Lib.hid hxy
    have e1 : (x == y) = true := by simpa using hxy
    clear hxy
    cases hf : f <;> cases hg : g <;> subst hf <;> subst hg
    all_goals
      go_wp2_with (go_at_call 54; refine HE.out.mono ?_; rintro e w3 ⟨rfl, f3⟩; have A3 := HA.out.fr f3 (by simp); have B3 := HB.out.fr f3 (by simp); have a1 := A3.c1; have a2 := A3.c2; have b1 := B3.c1; have b2 := B3.c2; have G3 := Lib.hid (F0.out.trans f3); clear f3 A3 B3)
      go_ret
      exact ⟨by rw [HPR.out _ rfl]; simp [HXY.out] <;> rfl, by first | exact G3.out | exact F0.out⟩
  · have HXY := Lib.hid hxy
    have e1 : (x == y) = false := by simpa using hxy
    clear hxy
    go_wp2_with (go_at_call 54; refine HE.out.mono ?_; rintro e w3 ⟨rfl, f3⟩; have A3 := HA.out.fr f3 (by simp); have B3 := HB.out.fr f3 (by simp); have a1 := A3.c1; have a2 := A3.c2; have b1 := B3.c1; have b2 := B3.c2; have G3 := Lib.hid (F0.out.trans f3); clear f3 A3 B3)
    go_ret
    exact ⟨by rw [HPR.out false (by simp [HXY.out])]; rfl, F0.out⟩

end Go.Proofs.YtciaallekkdnhaaGreat
