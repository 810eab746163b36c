/-
  What the laws of eval share: the base of a walk; results in plain Lean.
-/
import Derived.Test.YthiaaminkfkjpaaEbd
import Derived.Test.YthiaaminkfkjpaaEbc
import Derived.Test.YthiaaminkfkjpaaEbb
import Derived.Deep.QuietTactic
import Derived.Test.YthiaaminkfkjpaaEaa
import Derived.Test.YthiaaminkfkjpaaEac
import Derived.Deep.RegionHeld3
import Derived.Test.YthiaaminkfkjpaaEbe
import Derived.Test.YthiaaminkfkjpaaEar
import Derived.Deep.DeepCutAuto
import Derived.OpenShut
import Derived.Deep.Slices
import Derived.Laws.IdiomArrays
namespace Go.Proofs.Ythiaaminkfkjpaa
open Go.RowKit

/-- Rows whose values are not far from 0. -/
def Sm.Sound (s : Sm.Sta) : Prop := ∀ e ∈ s.M, Rw.row e.2.t e.2.k e.2.x e.2.y e.2.z = true
theorem Sm.sound_new : Sm.Sound Sm.new := by simp [Sm.Sound, Sm.new]
theorem Sm.mem_put1 {M : List (IdK × RowV)} {c : Chg} {e : IdK × RowV} (h : e ∈ Sm.put1 M c) : e ∈ M ∨ (c.has = true ∧ e.2 = Sm.after c) := by
  unfold Sm.put1 at h
  split at h
  · rename_i hc
    unfold mput at h
    rcases List.mem_cons.1 h with rfl | h
    · exact .inr ⟨hc, rfl⟩
    · unfold mdel at h
      exact .inl (List.mem_filter.1 h).1
  · unfold mdel at h
    exact .inl (List.mem_filter.1 h).1
theorem Sm.after_row {c : Chg} (hc : Rw.chg c = true) (h : c.has = true) : Rw.row (Sm.after c).t (Sm.after c).k (Sm.after c).x (Sm.after c).y (Sm.after c).z = true := by
  unfold Rw.chg at hc
  simp only [Bool.and_eq_true] at hc
  have h2 := hc.2
  unfold Rw.sound at h2
  rw [if_pos h] at h2
  exact h2
theorem Sm.Sound.fold : ∀ (cs : List Chg) (M : List (IdK × RowV)), (∀ e ∈ M, Rw.row e.2.t e.2.k e.2.x e.2.y e.2.z = true) → (∀ c ∈ cs, Rw.chg c = true) → ∀ e ∈ cs.foldl Sm.put1 M, Rw.row e.2.t e.2.k e.2.x e.2.y e.2.z = true
  | [], _, h, _ => h
  | c :: cs, M, h, hc => by
    rw [List.foldl_cons]
    refine Sm.Sound.fold cs _ (fun e he => ?_) (fun d hd => hc d (by simp [hd]))
    rcases Sm.mem_put1 he with h1 | ⟨h1, h2⟩
    · exact h e h1
    · rw [h2]
      exact Sm.after_row (hc c (by simp)) h1
theorem Sm.Sound.applied {s : Sm.Sta} (h : Sm.Sound s) (r : Rec) : Sm.Sound (Sm.apply s r) := by
  unfold Sm.apply
  split
  · rename_i hf
    simp only [Sm.fits, Bool.and_eq_true] at hf
    exact Sm.Sound.fold r.cs s.M h (Rw.valid_all hf.1.1).1
  · exact h
theorem Lg.run_sound (l : List Rec) : Sm.Sound (Lg.run l) := by
  have key : ∀ (l : List Rec) (s : Sm.Sta), Sm.Sound s → Sm.Sound (l.foldl Sm.apply s) := by
    intro l
    induction l with
    | nil => exact fun s h => h
    | cons r l ih => exact fun s h => ih _ (h.applied r)
  exact key l _ Sm.sound_new
theorem Rw.row_bounds {t k x y z : Int} (h : Rw.row t k x y z = true) : (0 ≤ t ∧ t ≤ 3) ∧ (1 ≤ k ∧ k ≤ 1000000) ∧ (-1000000000 ≤ x ∧ x ≤ 1000000000) ∧ (-1000000000 ≤ y ∧ y ≤ 1000000000) ∧ (-1000000000 ≤ z ∧ z ≤ 1000000000) := by
  unfold Rw.row Rw.inI at h
  simp only [Bool.and_eq_true, decide_eq_true_eq] at h
  exact ⟨h.1.1, h.1.2, h.2.1.1, h.2.1.2, h.2.2⟩
theorem RowV.value_bounds {r : RowV} (h : Rw.row r.t r.k r.x r.y r.z = true) (c : Int) : -1000000000 ≤ r.value c ∧ r.value c ≤ 1000000000 := by
  have hb := Rw.row_bounds h
  unfold RowV.value
  repeat' split
  all_goals omega
namespace Em
def le2 (c : Int) (a b : RowV) : Bool := decide (a.value c < b.value c) || (decide (a.value c = b.value c) && decide (a.k ≤ b.k))
theorem le2_iff (c : Int) (a b : RowV) : le2 c a b = true ↔ ¬ ahead2 c b a := by
  unfold le2 ahead2
  simp only [Bool.or_eq_true, Bool.and_eq_true, decide_eq_true_eq]
  omega
/-- The rows of a choice, sorted by a column. -/
def sel (s : Sm.Sta) (c : Int) (p : RowV → Bool) : List RowV := ((s.M.map (·.2)).filter p).mergeSort (le2 c)
theorem sel_picked (s : Sm.Sta) (c : Int) (p : RowV → Bool) : Picked s c p (sel s c p) := by
  refine ⟨List.mergeSort_perm _ _, ?_⟩
  have h := List.pairwise_mergeSort (le := le2 c) (fun a b d h1 h2 => by
    rw [le2_iff] at *
    unfold ahead2 at *
    omega) (fun a b => by
    rw [Bool.or_eq_true, le2_iff, le2_iff]
    unfold ahead2
    omega) ((s.M.map (·.2)).filter p)
  exact h.imp (fun h1 => (le2_iff c _ _).1 h1)
def scan (s : Sm.Sta) (q : Qry) : List RowV := sel s q.column (inRng q.table q.column q.low q.high)
def tab (s : Sm.Sta) (t : Int) : List RowV := sel s 0 (inTab t)
def of (s : Sm.Sta) (q : Qry) : Res := res q (scan s q) (tab s q.other)
def code (q : Qry) : Int := if valid q = true then 0 else 50
theorem valid_base' {q : Qry} (h : valid q = true) : (0 ≤ q.table ∧ q.table ≤ 3) ∧ (0 ≤ q.column ∧ q.column ≤ 3) ∧ (-1000000000 ≤ q.low ∧ q.low ≤ q.high ∧ q.high ≤ 1000000000) := by
  have hb : base q = true := by
    cases hb : base q with
    | true => rfl
    | false => rw [Em.valid_base hb] at h; cases h
  unfold base within at hb
  simp only [Bool.and_eq_true, decide_eq_true_eq] at hb
  omega
end Em
theorem Picked.mem {s : Sm.Sta} {c : Int} {p : RowV → Bool} {R : List RowV} (h : Picked s c p R) {r : RowV} (hr : r ∈ R) : ∃ e ∈ s.M, e.2 = r ∧ p r = true := by
  have h1 := List.mem_filter.1 (h.perm.mem_iff.1 hr)
  obtain ⟨e, he, rfl⟩ := List.mem_map.1 h1.1
  exact ⟨e, he, rfl, h1.2⟩
theorem Picked.len {s : Sm.Sta} {c : Int} {p : RowV → Bool} {R : List RowV} (h : Picked s c p R) (ho : Sm.Ok s) : R.length ≤ 2000 := by
  have h1 := h.perm.length_eq
  have h2 := List.length_filter_le p (s.M.map (·.2))
  rw [List.length_map] at h2
  have := ho.len
  omega
theorem Picked.vals {s : Sm.Sta} {c : Int} {p : RowV → Bool} {R : List RowV} (h : Picked s c p R) (hs : Sm.Sound s) {r : RowV} (hr : r ∈ R) : Rw.row r.t r.k r.x r.y r.z = true := by
  obtain ⟨e, he, rfl, _⟩ := h.mem hr
  exact hs e he
theorem OwnL.rowsAt {w : World} {A : Option Addr} {n cap : Nat} {l : List RowV} (h : RowsOwn w (.slice A n cap) l) : RowsAt w A l ∧ n = l.length := h.at1 RowV.cells_len
set_option maxRecDepth 100000 in
set_option maxHeartbeats 4000000 in
theorem eof_any (bs m : Nat) (s : Sm.Sta) (q : Qry) (w : World) (h : StaAt w bs m s) (hs : Sm.Sound s) :
    Calls Try.prog 10 #[.pointer (some ⟨bs, 0, none⟩), q.val] w fun e w' => ∃ v, e = .returned (.tuple #[.agg #[v, .int .i64 (Em.of s q).value, .bool (Em.of s q).found], .int .i64 (Em.code q)]) ∧ ResO w w' v (Em.of s q).rows := by
  have H := Lib.hid h
  have HSN := Lib.hid hs
  clear h hs
  have R0 := Lib.hid (FrRel.new w q)
  obtain ⟨k, t, c, lo, hi, b, o⟩ := q
  unfold Qry.val
  dsimp only at *
  go_enter Try.func10, Try.ntmps10
  go_upto_region 1 with (fail)
  generalize (w.alloc (.cells #[.int .i64 k, .int .i64 t, .int .i64 c, .int .i64 lo, .int .i64 hi, .int .i64 b, .int .i64 o] 29)).alloc (.cells #[.slice none 0 0, .int .i64 0, .bool false] 46) = w2 at *
  have c0 : w2.cell? ⟨w.heap.size, 0, none⟩ = some (.int .i64 k) := R0.out.box.c0
  have c1 : w2.cell? ⟨w.heap.size, 1, none⟩ = some (.int .i64 t) := R0.out.box.c1
  have c2 : w2.cell? ⟨w.heap.size, 2, none⟩ = some (.int .i64 c) := R0.out.box.c2
  have c3 : w2.cell? ⟨w.heap.size, 3, none⟩ = some (.int .i64 lo) := R0.out.box.c3
  have c4 : w2.cell? ⟨w.heap.size, 4, none⟩ = some (.int .i64 hi) := R0.out.box.c4
  have c5 : w2.cell? ⟨w.heap.size, 5, none⟩ = some (.int .i64 b) := R0.out.box.c5
  have c6 : w2.cell? ⟨w.heap.size, 6, none⟩ = some (.int .i64 o) := R0.out.box.c6
  have HQV := Lib.hid (qvalid_any ⟨k, t, c, lo, hi, b, o⟩ w2)
  cases hv : Em.valid ⟨k, t, c, lo, hi, b, o⟩
  · rw [hv] at HQV
    go_upto_region 4 with (go_at_call 20; refine HQV.out.mono ?_; rintro e w3 ⟨rfl, f3⟩; have R3 := Lib.hid (R0.out.fr0 f3); clear f3)
    have z0 := R3.out.res.z 0
    have z1 := R3.out.res.z 1
    have z2 := R3.out.res.z 2
    have y0 := R3.out.res.c0
    have y1 := R3.out.res.c1
    have y2 := R3.out.res.c2
    clear HQV R0 c0 c1 c2 c3 c4 c5 c6
    go_wp2_with fail
    obtain ⟨w4, e4, q0, q1, q2, f4, -⟩ := R3.out.fin (.slice none 0 0) 0 false
    rw [e4]
    have e1 : Em.of s ⟨k, t, c, lo, hi, b, o⟩ = ⟨[], 0, false⟩ := Em.res_bad hv
    have e2 : Em.code ⟨k, t, c, lo, hi, b, o⟩ = 50 := by unfold Em.code; rw [hv]; rfl
    exact bodyPost_ret (v := .tuple #[.agg #[.slice none 0 0, .int .i64 0, .bool false], .int .i64 50]) (by simp [results, Try.results10, go_sem, q0, q1, q2]) rfl ⟨_, by rw [e1, e2], by rw [e1]; exact ⟨OwnL.nil, f4, by simp [Value.ownBlock]⟩⟩
  rw [hv] at HQV
  have HVV := Lib.hid hv
  have hvb := Em.valid_base' hv
  dsimp only at hvb
  have HB := Lib.hid hvb
  clear hv hvb
  go_upto_region 5 with (go_at_call 20; refine HQV.out.mono ?_; rintro e w3 ⟨rfl, f3⟩; have R3 := Lib.hid (R0.out.fr0 f3); clear f3)
  clear HQV R0 c0 c1 c2 c3 c4 c5 c6
  have Rd := Lib.hid (R3.out.fr0 (Fr.refl [] w3).drew)
  have c0 : w3.cell? ⟨w.heap.size, 0, none⟩ = some (.int .i64 k) := R3.out.box.c0
  have c1 : w3.cell? ⟨w.heap.size, 1, none⟩ = some (.int .i64 t) := R3.out.box.c1
  have c2 : w3.cell? ⟨w.heap.size, 2, none⟩ = some (.int .i64 c) := R3.out.box.c2
  have c3 : w3.cell? ⟨w.heap.size, 3, none⟩ = some (.int .i64 lo) := R3.out.box.c3
  have c4 : w3.cell? ⟨w.heap.size, 4, none⟩ = some (.int .i64 hi) := R3.out.box.c4
  have c5 : w3.cell? ⟨w.heap.size, 5, none⟩ = some (.int .i64 b) := R3.out.box.c5
  have c6 : w3.cell? ⟨w.heap.size, 6, none⟩ = some (.int .i64 o) := R3.out.box.c6
  obtain ⟨⟨vr, vn, vf⟩, HRES⟩ : ∃ r, Hid (Em.of s ⟨k, t, c, lo, hi, b, o⟩ = r) := ⟨_, Lib.hid rfl⟩
  go_region_held3 (fun w' => w'.cell? ⟨w.heap.size, 0, none⟩ = some (.int .i64 k) ∧ w'.cell? ⟨w.heap.size, 1, none⟩ = some (.int .i64 t) ∧ w'.cell? ⟨w.heap.size, 2, none⟩ = some (.int .i64 c) ∧ w'.cell? ⟨w.heap.size, 3, none⟩ = some (.int .i64 lo) ∧ w'.cell? ⟨w.heap.size, 4, none⟩ = some (.int .i64 hi) ∧ w'.cell? ⟨w.heap.size, 5, none⟩ = some (.int .i64 b) ∧ w'.cell? ⟨w.heap.size, 6, none⟩ = some (.int .i64 o))
    (first | exact ⟨Rd.out.box.c0, Rd.out.box.c1, Rd.out.box.c2, Rd.out.box.c3, Rd.out.box.c4, Rd.out.box.c5, Rd.out.box.c6⟩ | exact ⟨R5.out.box.c0, R5.out.box.c1, R5.out.box.c2, R5.out.box.c3, R5.out.box.c4, R5.out.box.c5, R5.out.box.c6⟩ | exact ⟨R6.out.box.c0, R6.out.box.c1, R6.out.box.c2, R6.out.box.c3, R6.out.box.c4, R6.out.box.c5, R6.out.box.c6⟩ | exact ⟨R7.out.box.c0, R7.out.box.c1, R7.out.box.c2, R7.out.box.c3, R7.out.box.c4, R7.out.box.c5, R7.out.box.c6⟩ | exact ⟨S8.out.c0, S8.out.c1, S8.out.c2, S8.out.c3, S8.out.c4, S8.out.c5, S8.out.c6⟩)
    (first
      | (go_at_call 22; refine (srange_any bs m s t c lo hi _ (H.out.fr0 Rd.out.fr) HB.out.2.1.1 (by have := HB.out.2.1.2; omega)).mono ?_; rintro e w5 ⟨v5, L5, rfl, ho5, hp5, f5, -⟩; obtain ⟨A5, n5, k5, hv5⟩ : ∃ A n c, v5 = .slice A n c := (match ho5.val with | ⟨_, _, hv⟩ => ⟨_, _, _, hv⟩); subst hv5; have R5 := Lib.hid (Rd.out.fr0 f5); have O5 := Lib.hid (OwnL.rowsAt ho5); have P5 := Lib.hid hp5; clear ho5 hp5 f5)
      | (go_at_call 23; refine (srows_any bs m s o _ (H.out.fr0 R5.out.fr)).mono ?_; rintro e w6 ⟨v6, L6, rfl, ho6, hp6, f6, -⟩; obtain ⟨A6, n6, k6, hv6⟩ : ∃ A n c, v6 = .slice A n c := (match ho6.val with | ⟨_, _, hv⟩ => ⟨_, _, _, hv⟩); subst hv6; have R6 := Lib.hid (R5.out.fr0 f6); have O6 := Lib.hid (OwnL.rowsAt ho6); have P6 := Lib.hid hp6; have X6 := Lib.hid (O5.out.1.fr f6 (by simp)); clear ho6 hp6 f6)
      | (go_at_call 21; refine (efrom_any ⟨k, t, c, lo, hi, b, o⟩ A5 n5 k5 L5 A6 n6 k6 L6 w6 X6.out O5.out.2 (by rw [O5.out.2]; have := P5.out.len H.out.ok; omega) O6.out.1 O6.out.2 (by rw [O6.out.2]; have := P6.out.len H.out.ok; omega) (fun _ r hr => by have := RowV.value_bounds (P5.out.vals HSN.out hr) b; exact okI_mk (by dsimp only; omega) (by dsimp only; omega)) (fun r hr => by have := Rw.row_bounds (P6.out.vals HSN.out hr); exact okI_mk (by omega) (by omega)) (fun _ _ r hr => by have := RowV.value_bounds (P5.out.vals HSN.out hr) b; dsimp only; omega)).mono ?_; rintro e w7 ⟨v7, rfl, hres⟩; have HEQ : Em.res ⟨k, t, c, lo, hi, b, o⟩ L5 L6 = ⟨vr, vn, vf⟩ := (by rw [← HRES.out]; unfold Em.of Em.scan Em.tab; rw [P5.out.uniq (Em.sel_picked s c (inRng t c lo hi)) H.out.ok inRng_t, P6.out.uniq (Em.sel_picked s 0 (inTab o)) H.out.ok inTab_t]); rw [HEQ] at hres ⊢; dsimp only at hres; dsimp only; obtain ⟨A7, n7, k7, hv7⟩ : ∃ A n c, v7 = .slice A n c := (match hres.own.val with | ⟨_, _, hv⟩ => ⟨_, _, _, hv⟩); subst hv7; have R7 := Lib.hid (R6.out.fr0 hres.fr); have HR7 := Lib.hid hres; have hs6 := R6.out.res; have HL6 := Lib.hid (Blk.lt hs6); clear hs6 hres HEQ; have z0 := R7.out.res.z 0; have z1 := R7.out.res.z 1; have z2 := R7.out.res.z 2; have y0 := R7.out.res.c0; have y1 := R7.out.res.c1; have y2 := R7.out.res.c2; obtain ⟨w8, e8, q0, q1, q2, f8, g8⟩ := R7.out.fin (.slice A7 n7 k7) vn vf; have B8 := R7.out.box.fr g8 (by simp); rw [← e8] at B8; have S8 := Lib.hid B8; clear B8; have E8 := Lib.hid e8; have Q8 := Lib.hid (And.intro q0 (And.intro q1 q2)); have F8 := Lib.hid f8; have G8 := Lib.hid g8; clear e8 q0 q1 q2 f8 g8))
  go_wp2_with fail
  have q0 := Q8.out.1
  have q1 := Q8.out.2.1
  have q2 := Q8.out.2.2
  rw [E8.out]
  have e2 : Em.code ⟨k, t, c, lo, hi, b, o⟩ = 0 := by unfold Em.code; rw [HVV.out]; rfl
  exact bodyPost_ret (v := .tuple #[.agg #[.slice A7 n7 k7, .int .i64 vn, .bool vf], .int .i64 0]) (by simp [results, Try.results10, go_sem, q0, q1, q2]) rfl ⟨_, by rw [HRES.out, e2], by
    rw [HRES.out]
    have h6 := R6.out.fr.size
    have hl := HL6.out
    refine ⟨HR7.out.own.fr G8.out (fun g hg => ?_), F8.out, fun g hg => Nat.le_trans h6 (HR7.out.new g hg)⟩
    have h7 := HR7.out.new g hg
    simp only [List.mem_singleton]
    omega⟩
end Go.Proofs.Ythiaaminkfkjpaa
namespace Go.Proofs.Ythiaaminkfkjpaa
open Go.RowKit

set_option maxRecDepth 100000 in
theorem equalRows_any (cs ds : List RowV) (A B : Option Addr) (ca cb : Nat) (w : World) (ha : RowsAt w A cs) (hb : RowsAt w B ds) (la : cs.length ≤ 4000) (lb : ds.length ≤ 4000) :
    Calls Try.prog 24 #[.slice A cs.length ca, .slice B ds.length cb] w fun e w' => e = .returned (.bool (decide (cs = ds))) ∧ Fr [] w w' := by
  by_cases hl : cs.length = ds.length
  · go_enter Try.func24, Try.ntmps24
    have HL := Lib.hid hl
    have hd : ((cs.length : Int) != (ds.length : Int)) = false := by simp [hl]
    clear hl
    go_wp2_with fail
    have hf0 : Fr [] w w := Fr.refl _ _
    go_loopw [13] (fun i wr => ∃ k : Nat, i = .int .i64 k ∧ (k ≤ cs.length ∧ cs.take k = ds.take k) ∧ Fr [] w wr) (fun i _ => cs.length - (intOf i).toNat)
    case atStart => exact ⟨0, rfl, ⟨Nat.zero_le _, by simp⟩, hf0⟩
    case round =>
      clear hf0
      obtain ⟨k, rfl, ⟨hk, htk⟩, hf⟩ := hrel
      have HTK := Lib.hid htk
      clear htk
      by_cases hlt : k < cs.length
      · obtain ⟨b1, o1, e1, hb1, hc1⟩ := (ha.fr hf (by simp)) (by omega)
        obtain ⟨b2, o2, e2, hb2, hc2⟩ := (hb.fr hf (by simp)) (by have := HL.out; omega)
        subst e1 e2
        have hlt2 : k < ds.length := by have := HL.out; omega
        replace hc1 := Lib.hid (hc1 k hlt)
        replace hc2 := Lib.hid (hc2 k hlt2)
        have htake : cs[k] = ds[k] → cs.take (k + 1) = ds.take (k + 1) := fun e => by rw [List.take_succ_eq_append_getElem hlt, List.take_succ_eq_append_getElem hlt2, HTK.out, e]
        have hdiff : cs[k] ≠ ds[k] → cs ≠ ds := fun h e => h (by simp only [e])
        have hq := neq_row cs[k] ds[k]
        generalize cs[k] = c at *
        generalize ds[k] = d at *
        obtain ⟨t, kk, p0, p1, p2⟩ := c
        obtain ⟨t', kk', p0', p1', p2'⟩ := d
        unfold RowV.val at hq
        dsimp only at hq
        have hc1_0 : wr.cell? ⟨b1, o1 + k * 5, none⟩ = some (.int .i64 t) := hc1.out 0 (by decide)
        have hc1_1 : wr.cell? ⟨b1, o1 + k * 5 + 1, none⟩ = some (.int .i64 kk) := hc1.out 1 (by decide)
        have hc1_2 : wr.cell? ⟨b1, o1 + k * 5 + 2, none⟩ = some (.int .i64 p0) := hc1.out 2 (by decide)
        have hc1_3 : wr.cell? ⟨b1, o1 + k * 5 + 3, none⟩ = some (.int .i64 p1) := hc1.out 3 (by decide)
        have hc1_4 : wr.cell? ⟨b1, o1 + k * 5 + 4, none⟩ = some (.int .i64 p2) := hc1.out 4 (by decide)
        have hc2_0 : wr.cell? ⟨b2, o2 + k * 5, none⟩ = some (.int .i64 t') := hc2.out 0 (by decide)
        have hc2_1 : wr.cell? ⟨b2, o2 + k * 5 + 1, none⟩ = some (.int .i64 kk') := hc2.out 1 (by decide)
        have hc2_2 : wr.cell? ⟨b2, o2 + k * 5 + 2, none⟩ = some (.int .i64 p0') := hc2.out 2 (by decide)
        have hc2_3 : wr.cell? ⟨b2, o2 + k * 5 + 3, none⟩ = some (.int .i64 p1') := hc2.out 3 (by decide)
        have hc2_4 : wr.cell? ⟨b2, o2 + k * 5 + 4, none⟩ = some (.int .i64 p2') := hc2.out 4 (by decide)
        have hg := eqGuard_row
        clear hc1 hc2
        by_cases he : (⟨t, kk, p0, p1, p2⟩ : RowV) = ⟨t', kk', p0', p1', p2'⟩
        · have HT := Lib.hid (htake he)
          rw [decide_eq_true he] at hq
          clear htake hdiff he
          go_wp2_with fail
          go_quiet (fail)
          go_wp2_with fail
          have f1 : Fr [] w (wr.drewN nq) := hf.drewN _
          go_roundw
          case rel => exact ⟨k + 1, by go_num, ⟨by omega, HT.out⟩, f1⟩
          case measure => simp [intOf]; omega
        · have HD := Lib.hid (hdiff he)
          rw [decide_eq_false he] at hq
          clear htake hdiff he
          go_wp2_with fail
          go_quiet (fail)
          go_wp2_with fail
          go_ret
          exact ⟨by rw [decide_eq_false HD.out]; rfl, hf.drewN _⟩
      · go_wp2_with fail
        go_ret
        have HF : cs = ds := by
          have e1 := HTK.out
          have e2 := HL.out
          rwa [List.take_of_length_le (by omega), List.take_of_length_le (by omega)] at e1
        exact ⟨by rw [decide_eq_true HF]; rfl, hf⟩
  · have HF : Hid (decide (cs = ds) = false) := Lib.hid (decide_eq_false fun e => hl (by rw [e]))
    have hd : decide (cs.length = ds.length) = false := by simpa using hl
    go_enter Try.func24, Try.ntmps24
    go_wp2_with fail
    go_ret
    exact ⟨by rw [HF.out]; rfl, Fr.refl _ _⟩

set_option maxRecDepth 100000 in
set_option maxHeartbeats 4000000 in
theorem esame_any (A : Option Addr) (n ca : Nat) (x : Int) (f : Bool) (l1 : List RowV) (B : Option Addr) (m cb : Nat) (y : Int) (g : Bool) (l2 : List RowV) (w : World) (ha : RowsAt w A l1) (hn : n = l1.length) (hb : RowsAt w B l2) (hm : m = l2.length) (la : n ≤ 4000) (_lb : m ≤ 4000) :
    Calls Try.prog 14 #[.agg #[.slice A n ca, .int .i64 x, .bool f], .agg #[.slice B m cb, .int .i64 y, .bool g]] w fun e w' => e = .returned (.bool (decide ((⟨l1, x, f⟩ : Res) = ⟨l2, y, g⟩))) ∧ Fr [] w w' := by
  have ra := (RsAt.new w (.slice A n ca) x f).fr ((Fr.refl [] _).alloc (.cells #[.slice B m cb, .int .i64 y, .bool g] 46)) (by simp)
  have rb := RsAt.new (w.alloc (.cells #[.slice A n ca, .int .i64 x, .bool f] 46)) (.slice B m cb) y g
  rw [World.size_alloc] at rb
  have F0 := Lib.hid (((Fr.refl [] w).alloc (.cells #[.slice A n ca, .int .i64 x, .bool f] 46)).alloc (.cells #[.slice B m cb, .int .i64 y, .bool g] 46))
  have HE := Lib.hid (equalRows_any l1 l2 A B ca cb ((w.alloc (.cells #[.slice A n ca, .int .i64 x, .bool f] 46)).alloc (.cells #[.slice B m cb, .int .i64 y, .bool g] 46)) (ha.fr F0.out (by simp)) (hb.fr F0.out (by simp)) (by omega) (by omega))
  rw [← hn, ← hm] at HE
  obtain ⟨p, HP⟩ : ∃ p, Hid (decide (l1 = l2) = p) := ⟨_, Lib.hid rfl⟩
  rw [HP.out] at HE
  obtain ⟨r, HR⟩ : ∃ r, Hid (decide ((⟨l1, x, f⟩ : Res) = ⟨l2, y, g⟩) = r) := ⟨_, Lib.hid rfl⟩
  rw [HR.out]
  have HPR : Hid (∀ v, (decide (x = y) && decide (f = g) && p) = v → r = v) := Lib.hid (fun v hv => by rw [← hv, ← HR.out, ← HP.out]; simp only [Res.mk.injEq, Bool.decide_and]; cases decide (l1 = l2) <;> cases decide (x = y) <;> cases decide (f = g) <;> rfl)
  clear ha hb hn hm la _lb
  go_enter Try.func14, Try.ntmps14
  go_upto_region 1 with (fail)
  generalize (w.alloc (.cells #[.slice A n ca, .int .i64 x, .bool f] 46)).alloc (.cells #[.slice B m cb, .int .i64 y, .bool g] 46) = w2 at *
  have a0 := ra.c0
  have a1 := ra.c1
  have a2 := ra.c2
  have b0 := rb.c0
  have b1 := rb.c1
  have b2 := rb.c2
  have HA := Lib.hid ra
  have HB := Lib.hid rb
  clear ra rb
  by_cases hxy : x = y
  · have HXY := Lib.hid hxy
    have e1 : (x == y) = true := by simpa using hxy
    clear hxy
    cases hf : f <;> cases hg : g <;> subst hf <;> subst hg
    all_goals
      go_wp2_with (go_at_call 24; refine HE.out.mono ?_; rintro e w3 ⟨rfl, f3⟩; have A3 := HA.out.fr f3 (by simp); have B3 := HB.out.fr f3 (by simp); have a1 := A3.c1; have a2 := A3.c2; have b1 := B3.c1; have b2 := B3.c2; have G3 := Lib.hid (F0.out.trans f3); clear f3 A3 B3)
      go_ret
      exact ⟨by rw [HPR.out _ rfl]; simp [HXY.out] <;> rfl, by first | exact G3.out | exact F0.out⟩
  · have HXY := Lib.hid hxy
    have e1 : (x == y) = false := by simpa using hxy
    clear hxy
    go_wp2_with (go_at_call 24; refine HE.out.mono ?_; rintro e w3 ⟨rfl, f3⟩; have A3 := HA.out.fr f3 (by simp); have B3 := HB.out.fr f3 (by simp); have a1 := A3.c1; have a2 := A3.c2; have b1 := B3.c1; have b2 := B3.c2; have G3 := Lib.hid (F0.out.trans f3); clear f3 A3 B3)
    go_ret
    exact ⟨by rw [HPR.out false (by simp [HXY.out])]; rfl, F0.out⟩

theorem esize_any (A : Option Addr) (n ca : Nat) (x : Int) (f : Bool) (w : World) (la : n ≤ 4000) :
    Calls Try.prog 13 #[.agg #[.slice A n ca, .int .i64 x, .bool f]] w fun e w' => e = .returned (.int .i64 (1 + n)) ∧ Fr [] w w' := by
  have ra := RsAt.new w (.slice A n ca) x f
  have a0 := ra.c0
  have F0 := Lib.hid ((Fr.refl [] w).alloc (.cells #[.slice A n ca, .int .i64 x, .bool f] 46))
  go_enter Try.func13, Try.ntmps13
  go_wp2
  go_ret
  refine ⟨?_, F0.out⟩
  first | rfl | (congr 2; exact IntWalk.wrap64_in _ ⟨by omega, by omega⟩) | simp
end Go.Proofs.Ythiaaminkfkjpaa
namespace Go.Proofs.Ythiaaminkfkjpaa
open Go.RowKit

/-- 'pick'. -/
def pickI (c n : Int) : Int := (if c < 0 then -(c + 1) else c) % n
theorem pickI_nonneg (c : Int) {n : Int} (h : 1 ≤ n) : 0 ≤ pickI c n := Int.emod_nonneg _ (by omega)
theorem pickI_lt (c : Int) {n : Int} (h : 1 ≤ n) : pickI c n < n := Int.emod_lt_of_pos _ (by omega)
theorem pick_any (c n : Int) (w : World) (hc : okI c) (h3 : 1 ≤ n) (h4 : n ≤ 1000000000) :
    Calls Try.prog 7 #[.int .i64 c, .int .i64 n] w fun e w' => e = .returned (.int .i64 (pickI c n)) ∧ w = w' := by
  obtain ⟨h1, h2⟩ := okI_bounds hc
  have hn : (n == 0) = false := by simp; omega
  have hn' : ¬ n = 0 := by omega
  by_cases hc : c < 0
  · go_enter Try.func7, Try.ntmps7
    go_wp2
    go_ret
    have e1 : pickI c n = -(c + 1) % n := by unfold pickI; rw [if_pos hc]
    rw [e1]
    refine ⟨?_, rfl⟩
    show Ending.returned (.int .i64 (-((c + 1).tmod n))) = _
    rw [← Int.neg_tmod, Int.tmod_eq_emod_of_nonneg (by omega)]
  · go_enter Try.func7, Try.ntmps7
    go_wp2
    go_ret
    have e1 : pickI c n = c % n := by unfold pickI; rw [if_neg (by omega)]
    rw [e1]
    refine ⟨by simp, rfl⟩
/-- Four integers in memory. -/
def Four (w : World) (g : Nat) (x0 x1 x2 x3 : Int) : Prop := Blk w g 23 #[.int .i64 x0, .int .i64 x1, .int .i64 x2, .int .i64 x3]
theorem Four.cells {w : World} {g : Nat} {x0 x1 x2 x3 : Int} (h : Four w g x0 x1 x2 x3) : w.cell? ⟨g, 0, none⟩ = some (.int .i64 x0) ∧ w.cell? ⟨g, 1, none⟩ = some (.int .i64 x1) ∧ w.cell? ⟨g, 2, none⟩ = some (.int .i64 x2) ∧ w.cell? ⟨g, 3, none⟩ = some (.int .i64 x3) :=
  ⟨Blk.cell h 0, Blk.cell h 1, Blk.cell h 2, Blk.cell h 3⟩
theorem Four.fr {w w' : World} {g : Nat} {x0 x1 x2 x3 : Int} {S : List Nat} (h : Four w g x0 x1 x2 x3) (hf : Fr S w w') (hs : g ∉ S) : Four w' g x0 x1 x2 x3 := Blk.fr h hf hs
/-- What pick hands out, by a letter. -/
abbrev PickIs (c n p : Int) : Prop := ∀ W : World, Calls Try.prog 7 #[.int .i64 c, .int .i64 n] W fun e w' => e = .returned (.int .i64 p) ∧ Fr [] W w'
theorem pick_is {c n : Int} (hc : okI c) (h3 : 1 ≤ n) (h4 : n ≤ 1000000000) : ∃ p, (0 ≤ p ∧ p < n) ∧ Hid (pickI c n = p) ∧ Hid (PickIs c n p) :=
  ⟨_, ⟨pickI_nonneg c h3, pickI_lt c h3⟩, Lib.hid rfl, Lib.hid (fun W => (pick_any c n W hc h3 h4).mono fun _ _ h => ⟨h.1, h.2 ▸ Fr.refl _ _⟩)⟩
abbrev PickEq (c n p : Int) : Prop := ∀ W : World, Calls Try.prog 7 #[.int .i64 c, .int .i64 n] W fun e w' => e = .returned (.int .i64 p) ∧ W = w'
theorem pick_is2 {c n : Int} (hc : okI c) (h3 : 1 ≤ n) (h4 : n ≤ 1000000000) : ∃ p, (0 ≤ p ∧ p < n) ∧ Hid (pickI c n = p) ∧ Hid (PickEq c n p) :=
  ⟨_, ⟨pickI_nonneg c h3, pickI_lt c h3⟩, Lib.hid rfl, Lib.hid (fun W => pick_any c n W hc h3 h4)⟩
theorem okI_tdiv {x : Int} (h : okI x) {n : Int} (hn : 2 ≤ n) : okI (x.tdiv n) := by
  obtain ⟨h1, h2⟩ := okI_bounds h
  rcases Int.le_total 0 x with h0 | h0
  · rw [Int.tdiv_eq_ediv_of_nonneg h0]
    have a1 : 0 ≤ x / n := Int.ediv_nonneg h0 (by omega)
    have a2 : x / n ≤ x := Int.ediv_le_self n h0
    exact okI_mk (by omega) (by omega)
  · have e : x.tdiv n = -((-x) / n) := by
      rw [← Int.tdiv_eq_ediv_of_nonneg (by omega), Int.neg_tdiv, Int.neg_neg]
    have a1 : 0 ≤ (-x) / n := Int.ediv_nonneg (by omega) (by omega)
    have a2 : (-x) / n < 9223372036854775808 := Int.ediv_lt_of_lt_mul (by omega) (by omega)
    rw [e]
    exact okI_mk (by omega) (by omega)
def rowI (x0 x1 x2 x3 : Int) : RowV := ⟨pickI x0 2, 1 + pickI (x0.tdiv 2) 12, pickI x1 20, pickI x2 14, pickI x3 40 - 10⟩
set_option maxRecDepth 100000 in
set_option maxHeartbeats 4000000 in
theorem row6_any (x0 x1 x2 x3 : Int) (w : World) (h0 : okI x0) (h1 : okI x1) (h2 : okI x2) (h3 : okI x3) :
    Calls Try.prog 15 #[.agg #[.int .i64 x0, .int .i64 x1, .int .i64 x2, .int .i64 x3]] w fun e w' => e = .returned (rowI x0 x1 x2 x3).val ∧ Fr [] w w' := by
  have F0 := Lib.hid (((Fr.refl [] w).alloc (.cells #[.int .i64 x0, .int .i64 x1, .int .i64 x2, .int .i64 x3] 23)).alloc (.cells #[.int .i64 0, .int .i64 0, .int .i64 0, .int .i64 0, .int .i64 0] 33))
  have HB : Hid (Four ((w.alloc (.cells #[.int .i64 x0, .int .i64 x1, .int .i64 x2, .int .i64 x3] 23)).alloc (.cells #[.int .i64 0, .int .i64 0, .int .i64 0, .int .i64 0, .int .i64 0] 33)) w.heap.size x0 x1 x2 x3) := Lib.hid (Blk.fr (Blk.new w _ _) ((Fr.refl [] _).alloc _) (by simp))
  have hr := Blk.new (w.alloc (.cells #[.int .i64 x0, .int .i64 x1, .int .i64 x2, .int .i64 x3] 23)) 33 #[.int .i64 0, .int .i64 0, .int .i64 0, .int .i64 0, .int .i64 0]
  rw [World.size_alloc] at hr
  have HR := Lib.hid hr
  clear hr
  obtain ⟨p0, b0, E0, K0⟩ := pick_is h0 (n := 2) (by decide) (by decide)
  obtain ⟨p1, b1, E1, K1⟩ := pick_is (okI_tdiv h0 (n := 2) (by decide)) (n := 12) (by decide) (by decide)
  obtain ⟨p2, b2, E2, K2⟩ := pick_is h1 (n := 20) (by decide) (by decide)
  obtain ⟨p3, b3, E3, K3⟩ := pick_is h2 (n := 14) (by decide) (by decide)
  obtain ⟨p4, b4, E4, K4⟩ := pick_is h3 (n := 40) (by decide) (by decide)
  have EV : Hid ((rowI x0 x1 x2 x3).val = .agg #[.int .i64 p0, .int .i64 (1 + p1), .int .i64 p2, .int .i64 p3, .int .i64 (p4 - 10)]) := Lib.hid (by unfold rowI RowV.val; dsimp only; rw [E0.out, E1.out, E2.out, E3.out, E4.out])
  have hq := okI_bounds (okI_tdiv h0 (n := 2) (by decide))
  have HQ := Lib.hid (IntWalk.wrap64_in (x0.tdiv 2) hq)
  rw [← HQ.out] at K1
  clear h0 h1 h2 h3 hq
  go_enter Try.func15, Try.ntmps15
  go_upto_region 1 with (fail)
  generalize hw2 : (w.alloc (.cells #[.int .i64 x0, .int .i64 x1, .int .i64 x2, .int .i64 x3] 23)).alloc (.cells #[.int .i64 0, .int .i64 0, .int .i64 0, .int .i64 0, .int .i64 0] 33) = w2 at *
  clear hw2
  have hl := Blk.lt HB.out
  have a0 : ∀ p : Later w2, p.w.cell? ⟨w.heap.size, 0, none⟩ = some (.int .i64 x0) := fun p => p.cell hl HB.out.cells.1
  have a1 : ∀ p : Later w2, p.w.cell? ⟨w.heap.size, 1, none⟩ = some (.int .i64 x1) := fun p => p.cell hl HB.out.cells.2.1
  have a2 : ∀ p : Later w2, p.w.cell? ⟨w.heap.size, 2, none⟩ = some (.int .i64 x2) := fun p => p.cell hl HB.out.cells.2.2.1
  have a3 : ∀ p : Later w2, p.w.cell? ⟨w.heap.size, 3, none⟩ = some (.int .i64 x3) := fun p => p.cell hl HB.out.cells.2.2.2
  clear hl
  refine wp_region_quiet_tail (C := fun w' => ∃ p : Later w2, w' = p.w) 20 (by kernel_rfl) (by kernel_rfl) ⟨⟨_, (Fr.refl [] w2).drew⟩, rfl⟩ ?_
  simp only [List.take_succ_cons, List.take_zero, List.drop_succ_cons, List.drop_zero]
  repeat (go_big_quiet_step (first | (with_reducible exact Later.calls (K0.out _)) | (with_reducible exact Later.calls (K1.out _)) | (with_reducible exact Later.calls (K2.out _)) | (with_reducible exact Later.calls (K3.out _)) | (with_reducible exact Later.calls (K4.out _))))
  refine wpQuiet_nil ?_
  rintro wq ⟨p, hp⟩
  have fq : Fr [] w2 wq := hp ▸ p.fr
  clear hp p
  have HRQ := Lib.hid (HR.out.fr fq (by simp))
  have FQ := Lib.hid (F0.out.trans fq)
  clear a0 a1 a2 a3 fq HB HR F0
  have z0 := HRQ.out.frozen 0
  have z1 := HRQ.out.frozen 1
  have z2 := HRQ.out.frozen 2
  have z3 := HRQ.out.frozen 3
  have z4 := HRQ.out.frozen 4
  have y0 : wq.cell? ⟨w.heap.size + 1, 0, none⟩ = some (.int .i64 0) := HRQ.out.cell 0
  have y1 : wq.cell? ⟨w.heap.size + 1, 1, none⟩ = some (.int .i64 0) := HRQ.out.cell 1
  have y2 : wq.cell? ⟨w.heap.size + 1, 2, none⟩ = some (.int .i64 0) := HRQ.out.cell 2
  have y3 : wq.cell? ⟨w.heap.size + 1, 3, none⟩ = some (.int .i64 0) := HRQ.out.cell 3
  have y4 : wq.cell? ⟨w.heap.size + 1, 4, none⟩ = some (.int .i64 0) := HRQ.out.cell 4
  go_wp2_with fail
  have HB2 := ((((HRQ.out.set_ 0 (.int .i64 p0)).set_ 1 (.int .i64 (1 + p1))).set_ 2 (.int .i64 p2)).set_ 3 (.int .i64 p3)).set_ 4 (.int .i64 (p4 - 10))
  have hf2 : Fr [w.heap.size + 1] wq (((((wq.setCell ⟨w.heap.size + 1, 0, none⟩ (.int .i64 p0)).setCell ⟨w.heap.size + 1, 1, none⟩ (.int .i64 (1 + p1))).setCell ⟨w.heap.size + 1, 2, none⟩ (.int .i64 p2)).setCell ⟨w.heap.size + 1, 3, none⟩ (.int .i64 p3)).setCell ⟨w.heap.size + 1, 4, none⟩ (.int .i64 (p4 - 10))) := (((((Fr.refl _ _).setCell (.inl (by simp)) _).setCell (.inl (by simp)) _).setCell (.inl (by simp)) _).setCell (.inl (by simp)) _).setCell (.inl (by simp)) _
  have hF := FQ.out.trans' hf2 (by simp)
  generalize ((((wq.setCell ⟨w.heap.size + 1, 0, none⟩ (.int .i64 p0)).setCell ⟨w.heap.size + 1, 1, none⟩ (.int .i64 (1 + p1))).setCell ⟨w.heap.size + 1, 2, none⟩ (.int .i64 p2)).setCell ⟨w.heap.size + 1, 3, none⟩ (.int .i64 p3)).setCell ⟨w.heap.size + 1, 4, none⟩ (.int .i64 (p4 - 10)) = w9 at *
  have r0 : w9.cell? ⟨w.heap.size + 1, 0, none⟩ = _ := HB2.cell 0
  have r1 : w9.cell? ⟨w.heap.size + 1, 1, none⟩ = _ := HB2.cell 1
  have r2 : w9.cell? ⟨w.heap.size + 1, 2, none⟩ = _ := HB2.cell 2
  have r3 : w9.cell? ⟨w.heap.size + 1, 3, none⟩ = _ := HB2.cell 3
  have r4 : w9.cell? ⟨w.heap.size + 1, 4, none⟩ = _ := HB2.cell 4
  simp only [List.getElem?_toArray, Array.getElem?_setIfInBounds] at r0 r1 r2 r3 r4
  exact bodyPost_ret (v := .agg #[.int .i64 p0, .int .i64 (1 + p1), .int .i64 p2, .int .i64 p3, .int .i64 (p4 - 10)]) (by simp [results, Try.results15, go_sem, r0, r1, r2, r3, r4]) rfl ⟨by rw [EV.out], hF⟩
end Go.Proofs.Ythiaaminkfkjpaa
namespace Go.Proofs.Ythiaaminkfkjpaa
open Go.RowKit

/-- What stands between the parts of Query. -/
structure QwRel (w wc : World) (g : Nat) (x0 x1 x2 x3 : Int) (q : Qry) : Prop where
  four : Four wc w.heap.size x0 x1 x2 x3
  res : QAt wc (w.heap.size + 1) ⟨0, 0, 0, 0, 0, 0, 0⟩
  q : QAt wc g q
  fr : Fr [] w wc
  lt : w.heap.size + 1 < g
section
variable {w wc w' : World} {g : Nat} {x0 x1 x2 x3 : Int} {q q' : Qry}
theorem QAt.z (h : QAt w g q) (k : Nat) : w.frozen? ⟨g, k, none⟩ = false := Blk.frozen h k
theorem QwRel.fr0 (h : QwRel w wc g x0 x1 x2 x3 q) (hf : Fr [] wc w') : QwRel w w' g x0 x1 x2 x3 q := ⟨h.four.fr hf (by simp), h.res.fr hf (by simp), h.q.fr hf (by simp), h.fr.trans hf, h.lt⟩
theorem QwRel.set {k : Nat} {v : Value} (h : QwRel w wc g x0 x1 x2 x3 q) (hq : QAt (wc.setCell ⟨g, k, none⟩ v) g q') : QwRel w (wc.setCell ⟨g, k, none⟩ v) g x0 x1 x2 x3 q' := by
  have hf : Fr [g] wc (wc.setCell ⟨g, k, none⟩ v) := (Fr.refl _ _).setCell (.inl (by simp)) _
  have := h.lt
  exact ⟨h.four.fr hf (by simp; omega), h.res.fr hf (by simp; omega), hq, h.fr.trans' hf (by simp; omega), h.lt⟩
theorem QwRel.set2 (h : QwRel w wc g x0 x1 x2 x3 q) (v : Int) : QwRel w (wc.setCell ⟨g, 2, none⟩ (.int .i64 v)) g x0 x1 x2 x3 ⟨q.kind, q.table, v, q.low, q.high, q.by_, q.other⟩ := h.set (Blk.set_ h.q 2 _)
theorem QwRel.set3 (h : QwRel w wc g x0 x1 x2 x3 q) (v : Int) : QwRel w (wc.setCell ⟨g, 3, none⟩ (.int .i64 v)) g x0 x1 x2 x3 ⟨q.kind, q.table, q.column, v, q.high, q.by_, q.other⟩ := h.set (Blk.set_ h.q 3 _)
theorem QwRel.set4 (h : QwRel w wc g x0 x1 x2 x3 q) (v : Int) : QwRel w (wc.setCell ⟨g, 4, none⟩ (.int .i64 v)) g x0 x1 x2 x3 ⟨q.kind, q.table, q.column, q.low, v, q.by_, q.other⟩ := h.set (Blk.set_ h.q 4 _)
theorem QwRel.set5 (h : QwRel w wc g x0 x1 x2 x3 q) (v : Int) : QwRel w (wc.setCell ⟨g, 5, none⟩ (.int .i64 v)) g x0 x1 x2 x3 ⟨q.kind, q.table, q.column, q.low, q.high, v, q.other⟩ := h.set (Blk.set_ h.q 5 _)
theorem QwRel.set6 (h : QwRel w wc g x0 x1 x2 x3 q) (v : Int) : QwRel w (wc.setCell ⟨g, 6, none⟩ (.int .i64 v)) g x0 x1 x2 x3 ⟨q.kind, q.table, q.column, q.low, q.high, q.by_, v⟩ := h.set (Blk.set_ h.q 6 _)
def lay7 (w : World) (g : Nat) (q : Qry) : World := ((((((w.setCell ⟨g, 0, none⟩ (.int .i64 q.kind)).setCell ⟨g, 1, none⟩ (.int .i64 q.table)).setCell ⟨g, 2, none⟩ (.int .i64 q.column)).setCell ⟨g, 3, none⟩ (.int .i64 q.low)).setCell ⟨g, 4, none⟩ (.int .i64 q.high)).setCell ⟨g, 5, none⟩ (.int .i64 q.by_)).setCell ⟨g, 6, none⟩ (.int .i64 q.other)
theorem QwRel.fin (h : QwRel w wc g x0 x1 x2 x3 q) : ∃ w4, lay7 wc (w.heap.size + 1) q = w4 ∧ QAt w4 (w.heap.size + 1) q ∧ Fr [] w w4 := by
  have h2 := ((((((Blk.set_ h.res 0 (.int .i64 q.kind)).set_ 1 (.int .i64 q.table)).set_ 2 (.int .i64 q.column)).set_ 3 (.int .i64 q.low)).set_ 4 (.int .i64 q.high)).set_ 5 (.int .i64 q.by_)).set_ 6 (.int .i64 q.other)
  exact ⟨_, rfl, h2, ((((((h.fr.setCell (.inr (Nat.le_succ _)) _).setCell (.inr (Nat.le_succ _)) _).setCell (.inr (Nat.le_succ _)) _).setCell (.inr (Nat.le_succ _)) _).setCell (.inr (Nat.le_succ _)) _).setCell (.inr (Nat.le_succ _)) _).setCell (.inr (Nat.le_succ _)) _⟩
end
/-- What the law's queries keep to. -/
structure QrOk (q : Qry) : Prop where
  valid : Em.valid q = true
  t : 0 ≤ q.table ∧ q.table ≤ 1
  c : 0 ≤ q.column ∧ q.column ≤ 3
  k : 1 ≤ q.kind ∧ q.kind ≤ 7
  lo : -3 ≤ q.low ∧ q.low ≤ q.high ∧ q.high ≤ 40
  o : 0 ≤ q.other ∧ q.other ≤ 1
  b : 0 ≤ q.by_ ∧ q.by_ ≤ 3

set_option maxRecDepth 100000 in
set_option maxHeartbeats 4000000 in
theorem query6_any (x0 x1 x2 x3 : Int) (w : World) (h0 : okI x0) (h1 : okI x1) (h2 : okI x2) (h3 : okI x3) :
    Calls Try.prog 6 #[.agg #[.int .i64 x0, .int .i64 x1, .int .i64 x2, .int .i64 x3]] w fun e w' => ∃ q : Qry, e = .returned q.val ∧ QrOk q ∧ Fr [] w w' := by
  have F0 := ((Fr.refl [] w).alloc (.cells #[.int .i64 x0, .int .i64 x1, .int .i64 x2, .int .i64 x3] 23)).alloc (.cells #[.int .i64 0, .int .i64 0, .int .i64 0, .int .i64 0, .int .i64 0, .int .i64 0, .int .i64 0] 29)
  have HB : Hid (Four ((w.alloc (.cells #[.int .i64 x0, .int .i64 x1, .int .i64 x2, .int .i64 x3] 23)).alloc (.cells #[.int .i64 0, .int .i64 0, .int .i64 0, .int .i64 0, .int .i64 0, .int .i64 0, .int .i64 0] 29)) w.heap.size x0 x1 x2 x3) := Lib.hid (Blk.fr (Blk.new w _ _) ((Fr.refl [] _).alloc _) (by simp))
  have hr := QAt.new (w.alloc (.cells #[.int .i64 x0, .int .i64 x1, .int .i64 x2, .int .i64 x3] 23)) ⟨0, 0, 0, 0, 0, 0, 0⟩
  rw [World.size_alloc] at hr
  have hs : ((w.alloc (.cells #[.int .i64 x0, .int .i64 x1, .int .i64 x2, .int .i64 x3] 23)).alloc (.cells #[.int .i64 0, .int .i64 0, .int .i64 0, .int .i64 0, .int .i64 0, .int .i64 0, .int .i64 0] 29)).heap.size = w.heap.size + 1 + 1 := by rw [World.size_alloc, World.size_alloc]
  have HS := Lib.hid hs
  have HR := Lib.hid hr
  have HF0 := Lib.hid F0
  clear hr F0 hs
  obtain ⟨p0, b0, -, K0⟩ := pick_is2 h0 (n := 7) (by decide) (by decide)
  obtain ⟨p1, b1, -, K1⟩ := pick_is2 (okI_tdiv h0 (n := 7) (by decide)) (n := 2) (by decide) (by decide)
  obtain ⟨p2, b2, -, K2⟩ := pick_is2 h1 (n := 12) (by decide) (by decide)
  obtain ⟨p3, b3, -, K3⟩ := pick_is2 h1 (n := 4) (by decide) (by decide)
  obtain ⟨p4, b4, -, K4⟩ := pick_is2 h2 (n := 20) (by decide) (by decide)
  obtain ⟨p5, b5, -, K5⟩ := pick_is (okI_tdiv h2 (n := 20) (by decide)) (n := 15) (by decide) (by decide)
  obtain ⟨p6, b6, -, K6⟩ := pick_is2 h3 (n := 3) (by decide) (by decide)
  obtain ⟨p7, b7, -, K7⟩ := pick_is2 (okI_tdiv h3 (n := 3) (by decide)) (n := 2) (by decide) (by decide)
  have HQ := Lib.hid (IntWalk.i64_in (x0.tdiv 7) (okI_bounds (okI_tdiv h0 (n := 7) (by decide))))
  rw [← HQ.out] at K1
  have HQ5 := Lib.hid (IntWalk.wrap64_in (x2.tdiv 20) (okI_bounds (okI_tdiv h2 (n := 20) (by decide))))
  rw [← HQ5.out] at K5
  have HQ7 := Lib.hid (IntWalk.wrap64_in (x3.tdiv 3) (okI_bounds (okI_tdiv h3 (n := 3) (by decide))))
  have K7' := K7
  rw [← HQ7.out] at K7
  have HW0 : Hid (IntKind.i64.wrap (1 + p0) = 1 + p0) := Lib.hid (IntWalk.i64_in _ ⟨by omega, by omega⟩)
  clear h0 h1 h2 h3
  go_enter Try.func6, Try.ntmps6
  go_upto_region 1 with (fail)
  generalize hw2 : (w.alloc (.cells #[.int .i64 x0, .int .i64 x1, .int .i64 x2, .int .i64 x3] 23)).alloc (.cells #[.int .i64 0, .int .i64 0, .int .i64 0, .int .i64 0, .int .i64 0, .int .i64 0, .int .i64 0] 29) = w2 at *
  clear hw2
  have a0 : w2.cell? ⟨w.heap.size, 0, none⟩ = some (.int .i64 x0) := HB.out.cells.1
  go_cut [3] (fun v wc => v = .pointer (some ⟨w2.heap.size, 0, none⟩) ∧ Hid (QwRel w wc w2.heap.size x0 x1 x2 x3 ⟨1 + p0, p1, 0, 0, 0, 0, 0⟩))
  case first =>
    go_region_held3 (fun w' => w'.cell? ⟨w.heap.size, 0, none⟩ = some (.int .i64 x0))
      (first | exact a0 | go_keep)
      (first
        | (go_at_call 7; (with_reducible refine (K0.out _).mono ?_); rintro e w' ⟨rfl, rfl⟩)
        | (go_at_call 7; (with_reducible refine (K1.out _).mono ?_); rintro e w' ⟨rfl, rfl⟩))
    all_goals
      go_wp2_with fail
      go_meet
      refine ⟨rfl, Lib.hid ?_⟩
      rw [HW0.out]
      have hn := QAt.new w2 ⟨1 + p0, p1, 0, 0, 0, 0, 0⟩
      have hf : Fr [] w2 (w2.alloc (.cells #[.int .i64 (1 + p0), .int .i64 p1, .int .i64 0, .int .i64 0, .int .i64 0, .int .i64 0, .int .i64 0] 29)).drew := ((Fr.refl [] w2).alloc _).drew
      exact ⟨HB.out.fr hf (by simp), HR.out.fr hf (by simp), hn.fr (Fr.refl [] _).drew (by simp), HF0.out.trans hf, by rw [HS.out]; omega⟩
  case rest =>
    obtain ⟨rfl, R1⟩ := hcut
    clear HB HR HF0 a0 HW0
    generalize w2.heap.size = g at *
    have g0 := R1.out.four.cells.1
    have g1 := R1.out.four.cells.2.1
    have g2 := R1.out.four.cells.2.2.1
    have g3 := R1.out.four.cells.2.2.2

    by_cases hk : p0 = 0
    · subst hk
      have ek : ((1 + 0 : Int) == 1) = true := by decide

      have c0 := R1.out.q.c0
      have z0 := R1.out.q.z 0
      have c1 := R1.out.q.c1
      have z1 := R1.out.q.z 1
      have c2 := R1.out.q.c2
      have z2 := R1.out.q.z 2
      have c3 := R1.out.q.c3
      have z3 := R1.out.q.z 3
      have c4 := R1.out.q.c4
      have z4 := R1.out.q.z 4
      have c5 := R1.out.q.c5
      have z5 := R1.out.q.z 5
      have c6 := R1.out.q.c6
      have z6 := R1.out.q.z 6

      go_upto_region 3 with (fail)
      go_cut [] (fun wc => Hid (QwRel w wc g x0 x1 x2 x3 ⟨1, p1, 0, 1 + p2, 0, 0, 0⟩))
      case first =>
        go_wp2_with (go_at_call 7; refine (K2.out _).mono ?_; rintro e w' ⟨rfl, rfl⟩)
        go_meet
        exact Lib.hid (R1.out.set3 _)
      case rest =>
        clear c0 c1 c2 c3 c4 c5 c6 z0 z1 z2 z3 z4 z5 z6 g0 g1 g2 g3
        have R2 := hcut
        clear hcut R1
        have c3 := R2.out.q.c3
        have c4 := R2.out.q.c4
        have z4 := R2.out.q.z 4
        go_upto_region 4 with (fail)
        go_cut [] (fun wc => Hid (QwRel w wc g x0 x1 x2 x3 ⟨1, p1, 0, 1 + p2, 1 + p2, 0, 0⟩))
        case first =>
          go_wp2_with fail
          go_meet
          exact Lib.hid (R2.out.set4 _)
        case rest =>
          have R3 := hcut
          clear hcut R2 c3 c4 z4

          have c0 := R3.out.q.c0
          have z0 := R3.out.q.z 0
          have c1 := R3.out.q.c1
          have z1 := R3.out.q.z 1
          have c2 := R3.out.q.c2
          have z2 := R3.out.q.z 2
          have c3 := R3.out.q.c3
          have z3 := R3.out.q.z 3
          have c4 := R3.out.q.c4
          have z4 := R3.out.q.z 4
          have c5 := R3.out.q.c5
          have z5 := R3.out.q.z 5
          have c6 := R3.out.q.c6
          have z6 := R3.out.q.z 6
          have y0 := R3.out.res.c0
          have v0 := R3.out.res.z 0
          have y1 := R3.out.res.c1
          have v1 := R3.out.res.z 1
          have y2 := R3.out.res.c2
          have v2 := R3.out.res.z 2
          have y3 := R3.out.res.c3
          have v3 := R3.out.res.z 3
          have y4 := R3.out.res.c4
          have v4 := R3.out.res.z 4
          have y5 := R3.out.res.c5
          have v5 := R3.out.res.z 5
          have y6 := R3.out.res.c6
          have v6 := R3.out.res.z 6
          go_wp2_with fail
          obtain ⟨w9, e9, h9, f9⟩ := R3.out.fin
          unfold lay7 at e9
          dsimp only at e9
          rw [e9]
          have r0 := h9.c0
          have r1 := h9.c1
          have r2 := h9.c2
          have r3 := h9.c3
          have r4 := h9.c4
          have r5 := h9.c5
          have r6 := h9.c6
          dsimp only at r0 r1 r2 r3 r4 r5 r6
          refine bodyPost_ret (v := .agg #[.int .i64 (1), .int .i64 (p1), .int .i64 (0), .int .i64 (1 + p2), .int .i64 (1 + p2), .int .i64 (0), .int .i64 (0)]) (by simp [results, Try.results6, go_sem, r0, r1, r2, r3, r4, r5, r6]) rfl ⟨⟨1, p1, 0, 1 + p2, 1 + p2, 0, 0⟩, rfl, ?_, f9⟩
          refine ⟨?_, by dsimp only; omega, by dsimp only; omega, by dsimp only; omega, by dsimp only; omega, by dsimp only; omega, by dsimp only; omega⟩
          unfold Em.valid Em.base Em.within
          dsimp only
          simp; omega

    have hk1 : ((1 + p0 : Int) == 1) = false := by simp; omega
    have c0 := R1.out.q.c0
    have z0 := R1.out.q.z 0
    have c1 := R1.out.q.c1
    have z1 := R1.out.q.z 1
    have c2 := R1.out.q.c2
    have z2 := R1.out.q.z 2
    have c3 := R1.out.q.c3
    have z3 := R1.out.q.z 3
    have c4 := R1.out.q.c4
    have z4 := R1.out.q.z 4
    have c5 := R1.out.q.c5
    have z5 := R1.out.q.z 5
    have c6 := R1.out.q.c6
    have z6 := R1.out.q.z 6

    go_upto_region 6 with (fail)
    go_cut [] (fun wc => Hid (QwRel w wc g x0 x1 x2 x3 ⟨1 + p0, p1, p3, 0, 0, 0, 0⟩))
    case first =>
      go_wp2_with (go_at_call 7; refine (K3.out _).mono ?_; rintro e w' ⟨rfl, rfl⟩)
      go_meet
      exact Lib.hid (R1.out.set2 _)
    case rest =>
    have R2 := hcut
    clear hcut R1 c0 c1 c2 c3 c4 c5 c6 z0 z1 z2 z3 z4 z5 z6 g0 g1 g2 g3
    have g2 := R2.out.four.cells.2.2.1
    have c3 := R2.out.q.c3
    have z3 := R2.out.q.z 3
    go_upto_region 7 with (fail)
    go_cut [] (fun wc => Hid (QwRel w wc g x0 x1 x2 x3 ⟨1 + p0, p1, p3, p4 - 3, 0, 0, 0⟩))
    case first =>
      go_wp2_with (go_at_call 7; refine (K4.out _).mono ?_; rintro e w' ⟨rfl, rfl⟩)
      go_meet
      exact Lib.hid (R2.out.set3 _)
    case rest =>
    have R3 := hcut
    clear hcut R2 g2 c3 z3
    go_upto_region 8 with (fail)
    go_cut [] (fun wc => Hid (QwRel w wc g x0 x1 x2 x3 ⟨1 + p0, p1, p3, p4 - 3, p4 - 3 + p5, 0, 0⟩))
    case first =>
      have hl2 := Blk.lt R3.out.four
      have hl3 := Blk.lt R3.out.q
      have a2 : ∀ p : Later wc, p.w.cell? ⟨w.heap.size, 2, none⟩ = some (.int .i64 x2) := fun p => p.cell hl2 R3.out.four.cells.2.2.1
      have a3 : ∀ p : Later wc, p.w.cell? ⟨g, 3, none⟩ = some (.int .i64 (p4 - 3)) := fun p => p.cell hl3 R3.out.q.c3
      clear hl2 hl3
      refine wp_region_quiet_tail (C := fun w' => ∃ p : Later wc, w' = p.w) 8 (by kernel_rfl) (by kernel_rfl) ⟨⟨_, (Fr.refl [] wc).drew⟩, rfl⟩ ?_
      simp only [List.take_succ_cons, List.take_zero, List.drop_succ_cons, List.drop_zero]
      repeat (go_big_quiet_step (with_reducible exact Later.calls (K5.out _)))
      refine wpQuiet_nil ?_
      rintro wq ⟨p, hp⟩
      have fq : Fr [] wc wq := hp ▸ p.fr
      clear hp p a2 a3
      have RQ := Lib.hid (R3.out.fr0 fq)
      clear fq R3
      have c4 := RQ.out.q.c4
      have z4 := RQ.out.q.z 4
      go_wp2_with fail
      go_meet
      exact Lib.hid (RQ.out.set4 _)
    case rest =>
    have R4 := hcut
    clear hcut R3
    have c0 := R4.out.q.c0
    have z0 := R4.out.q.z 0
    have c1 := R4.out.q.c1
    have z1 := R4.out.q.z 1
    have c2 := R4.out.q.c2
    have z2 := R4.out.q.z 2
    have c3 := R4.out.q.c3
    have z3 := R4.out.q.z 3
    have c4 := R4.out.q.c4
    have z4 := R4.out.q.z 4
    have c5 := R4.out.q.c5
    have z5 := R4.out.q.z 5
    have c6 := R4.out.q.c6
    have z6 := R4.out.q.z 6
    have y0 := R4.out.res.c0
    have v0 := R4.out.res.z 0
    have y1 := R4.out.res.c1
    have v1 := R4.out.res.z 1
    have y2 := R4.out.res.c2
    have v2 := R4.out.res.z 2
    have y3 := R4.out.res.c3
    have v3 := R4.out.res.z 3
    have y4 := R4.out.res.c4
    have v4 := R4.out.res.z 4
    have y5 := R4.out.res.c5
    have v5 := R4.out.res.z 5
    have y6 := R4.out.res.c6
    have v6 := R4.out.res.z 6
    have g3 := R4.out.four.cells.2.2.2
    by_cases h3 : 3 ≤ p0
    · by_cases h6 : p0 = 6
      · subst h6
        have R5 : Hid (QwRel w ((wc.setCell ⟨g, 5, none⟩ (.int .i64 (1 + p6))).setCell ⟨g, 6, none⟩ (.int .i64 p7)) g x0 x1 x2 x3 ⟨7, p1, p3, p4 - 3, p4 - 3 + p5, 1 + p6, p7⟩) := Lib.hid ((R4.out.set5 (1 + p6)).set6 p7)
        go_upto_region 13 with (first | (go_at_call 7; (with_reducible refine (K6.out _).mono ?_); rintro e w' ⟨rfl, rfl⟩) | (go_at_call 7; (with_reducible refine (K7.out _).mono ?_); rintro e w' ⟨rfl, rfl⟩) | (go_at_call 7; (with_reducible refine (K7'.out _).mono ?_); rintro e w' ⟨rfl, rfl⟩))
        generalize hw5 : (wc.setCell ⟨g, 5, none⟩ (.int .i64 (1 + p6))).setCell ⟨g, 6, none⟩ (.int .i64 p7) = w5 at *
        clear hw5 g3 c0 c1 c2 c3 c4 c5 c6 z0 z1 z2 z3 z4 z5 z6 y0 y1 y2 y3 y4 y5 y6 v0 v1 v2 v3 v4 v5 v6
        have c0 := R5.out.q.c0
        have z0 := R5.out.q.z 0
        have c1 := R5.out.q.c1
        have z1 := R5.out.q.z 1
        have c2 := R5.out.q.c2
        have z2 := R5.out.q.z 2
        have c3 := R5.out.q.c3
        have z3 := R5.out.q.z 3
        have c4 := R5.out.q.c4
        have z4 := R5.out.q.z 4
        have c5 := R5.out.q.c5
        have z5 := R5.out.q.z 5
        have c6 := R5.out.q.c6
        have z6 := R5.out.q.z 6
        have y0 := R5.out.res.c0
        have v0 := R5.out.res.z 0
        have y1 := R5.out.res.c1
        have v1 := R5.out.res.z 1
        have y2 := R5.out.res.c2
        have v2 := R5.out.res.z 2
        have y3 := R5.out.res.c3
        have v3 := R5.out.res.z 3
        have y4 := R5.out.res.c4
        have v4 := R5.out.res.z 4
        have y5 := R5.out.res.c5
        have v5 := R5.out.res.z 5
        have y6 := R5.out.res.c6
        have v6 := R5.out.res.z 6
        go_wp2_with fail
        obtain ⟨w9, e9, h9, f9⟩ := R5.out.fin
        unfold lay7 at e9
        dsimp only at e9
        rw [e9]
        have r0 := h9.c0
        have r1 := h9.c1
        have r2 := h9.c2
        have r3 := h9.c3
        have r4 := h9.c4
        have r5 := h9.c5
        have r6 := h9.c6
        dsimp only at r0 r1 r2 r3 r4 r5 r6
        refine bodyPost_ret (v := .agg #[.int .i64 (7), .int .i64 (p1), .int .i64 (p3), .int .i64 (p4 - 3), .int .i64 (p4 - 3 + p5), .int .i64 (1 + p6), .int .i64 (p7)]) (by simp [results, Try.results6, go_sem, r0, r1, r2, r3, r4, r5, r6]) rfl ⟨⟨7, p1, p3, p4 - 3, p4 - 3 + p5, 1 + p6, p7⟩, rfl, ?_, f9⟩
        refine ⟨?_, by dsimp only; omega, by dsimp only; omega, by dsimp only; omega, by dsimp only; omega, by dsimp only; omega, by dsimp only; omega⟩
        unfold Em.valid Em.base Em.within
        dsimp only
        simp; omega
      · have e7 : ((1 + p0 : Int) == 7) = false := by simp; omega
        have R5 := Lib.hid (R4.out.set5 (1 + p6))
        go_upto_region 13 with (go_at_call 7; (with_reducible refine (K6.out _).mono ?_); rintro e w' ⟨rfl, rfl⟩)
        generalize hw5 : wc.setCell ⟨g, 5, none⟩ (.int .i64 (1 + p6)) = w5 at *
        clear hw5 g3 c0 c1 c2 c3 c4 c5 c6 z0 z1 z2 z3 z4 z5 z6 y0 y1 y2 y3 y4 y5 y6 v0 v1 v2 v3 v4 v5 v6
        have c0 := R5.out.q.c0
        have z0 := R5.out.q.z 0
        have c1 := R5.out.q.c1
        have z1 := R5.out.q.z 1
        have c2 := R5.out.q.c2
        have z2 := R5.out.q.z 2
        have c3 := R5.out.q.c3
        have z3 := R5.out.q.z 3
        have c4 := R5.out.q.c4
        have z4 := R5.out.q.z 4
        have c5 := R5.out.q.c5
        have z5 := R5.out.q.z 5
        have c6 := R5.out.q.c6
        have z6 := R5.out.q.z 6
        have y0 := R5.out.res.c0
        have v0 := R5.out.res.z 0
        have y1 := R5.out.res.c1
        have v1 := R5.out.res.z 1
        have y2 := R5.out.res.c2
        have v2 := R5.out.res.z 2
        have y3 := R5.out.res.c3
        have v3 := R5.out.res.z 3
        have y4 := R5.out.res.c4
        have v4 := R5.out.res.z 4
        have y5 := R5.out.res.c5
        have v5 := R5.out.res.z 5
        have y6 := R5.out.res.c6
        have v6 := R5.out.res.z 6
        go_wp2_with fail
        obtain ⟨w9, e9, h9, f9⟩ := R5.out.fin
        unfold lay7 at e9
        dsimp only at e9
        rw [e9]
        have r0 := h9.c0
        have r1 := h9.c1
        have r2 := h9.c2
        have r3 := h9.c3
        have r4 := h9.c4
        have r5 := h9.c5
        have r6 := h9.c6
        dsimp only at r0 r1 r2 r3 r4 r5 r6
        refine bodyPost_ret (v := .agg #[.int .i64 (1 + p0), .int .i64 (p1), .int .i64 (p3), .int .i64 (p4 - 3), .int .i64 (p4 - 3 + p5), .int .i64 (1 + p6), .int .i64 (0)]) (by simp [results, Try.results6, go_sem, r0, r1, r2, r3, r4, r5, r6]) rfl ⟨⟨1 + p0, p1, p3, p4 - 3, p4 - 3 + p5, 1 + p6, 0⟩, rfl, ?_, f9⟩
        refine ⟨?_, by dsimp only; omega, by dsimp only; omega, by dsimp only; omega, by dsimp only; omega, by dsimp only; omega, by dsimp only; omega⟩
        unfold Em.valid Em.base Em.within
        dsimp only
        have hx : p0 = 3 ∨ p0 = 4 ∨ p0 = 5 := by omega
        rcases hx with rfl | rfl | rfl <;> simp <;> omega
    · have e7 : ((1 + p0 : Int) == 7) = false := by simp; omega
      have R5 := Lib.hid R4.out
      go_wp2_with fail
      obtain ⟨w9, e9, h9, f9⟩ := R5.out.fin
      unfold lay7 at e9
      dsimp only at e9
      rw [e9]
      have r0 := h9.c0
      have r1 := h9.c1
      have r2 := h9.c2
      have r3 := h9.c3
      have r4 := h9.c4
      have r5 := h9.c5
      have r6 := h9.c6
      dsimp only at r0 r1 r2 r3 r4 r5 r6
      refine bodyPost_ret (v := .agg #[.int .i64 (1 + p0), .int .i64 (p1), .int .i64 (p3), .int .i64 (p4 - 3), .int .i64 (p4 - 3 + p5), .int .i64 (0), .int .i64 (0)]) (by simp [results, Try.results6, go_sem, r0, r1, r2, r3, r4, r5, r6]) rfl ⟨⟨1 + p0, p1, p3, p4 - 3, p4 - 3 + p5, 0, 0⟩, rfl, ?_, f9⟩
      refine ⟨?_, by dsimp only; omega, by dsimp only; omega, by dsimp only; omega, by dsimp only; omega, by dsimp only; omega, by dsimp only; omega⟩
      unfold Em.valid Em.base Em.within
      dsimp only
      have hx : p0 = 1 ∨ p0 = 2 := by omega
      rcases hx with rfl | rfl <;> simp <;> omega
end Go.Proofs.Ythiaaminkfkjpaa
namespace Go.Proofs.Ythiaaminkfkjpaa
open Go.RowKit

/-- n elements of four integers each. -/
structure FourAt (w : World) (b off n : Nat) : Prop where
  cell : ∀ i, i < n → ∀ j, j < 4 → ∃ z, w.cell? ⟨b, off + i * 4 + j, none⟩ = some (.int .i64 z) ∧ okI z
  lt : b < w.heap.size
theorem FourAt.fr0 {w w' : World} {b off n : Nat} (h : FourAt w b off n) (hf : Fr [] w w') : FourAt w' b off n :=
  ⟨fun i hi j hj => by
    obtain ⟨z, h1, h2⟩ := h.cell i hi j hj
    exact ⟨z, (hf.rules.1 b _ h.lt).trans h1, h2⟩, Nat.lt_of_lt_of_le h.lt hf.size⟩
/-- A change of the law's lists. -/
structure CgC (c : Chg) : Prop where
  t : 0 ≤ c.t ∧ c.t ≤ 1
  k : 1 ≤ c.k ∧ c.k ≤ 12
  new : c.has = true → (0 ≤ c.n0 ∧ c.n0 ≤ 19) ∧ (0 ≤ c.n1 ∧ c.n1 ≤ 13) ∧ (-10 ≤ c.n2 ∧ c.n2 ≤ 29)
structure CgOk (l : List Rec) : Prop where
  fits : ∀ i (h : i < l.length), Sm.fits (Lg.run (l.take i)) l[i] = true
  one : ∀ r ∈ l, ∃ c, r.cs = [c] ∧ CgC c
theorem CgOk.nil : CgOk [] := ⟨fun i h => absurd h (by simp), by simp⟩
theorem CgOk.snoc {l : List Rec} {p : Int} {c : Chg} (h : CgOk l) (hf : Sm.fits (Lg.run l) ⟨p, [c]⟩ = true) (hc : CgC c) : CgOk (l ++ [⟨p, [c]⟩]) := by
  refine ⟨fun i hi => ?_, fun q hq => ?_⟩
  · rw [List.length_append, List.length_singleton] at hi
    rcases Nat.lt_or_ge i l.length with h1 | h1
    · rw [List.take_append_of_le_length (by omega), List.getElem_append_left h1]
      exact h.fits i h1
    · have : i = l.length := by omega
      subst this
      rw [List.take_left, List.getElem_append_right (Nat.le_refl _)]
      simpa using hf
  · rcases List.mem_append.1 hq with h1 | h1
    · exact h.one q h1
    · rw [List.mem_singleton] at h1
      subst h1
      exact ⟨c, rfl, hc⟩
/-- Between two rounds. -/
structure CgRel (w wr : World) (b : Nat) (v : Value) (L : List RowV) (vo : Value) (out : List Rec) : Prop where
  rf : RfAt wr b v L (Lg.run out)
  own : OwnR wr vo out
  fr : Fr [] w wr
  nb : w.heap.size ≤ b
  nw : ∀ g, vo.ownBlock = some g → w.heap.size ≤ g
  ok : CgOk out
section
variable {w wr w' : World} {b : Nat} {v : Value} {L : List RowV} {vo : Value} {out : List Rec}
theorem CgRel.fr0 (h : CgRel w wr b v L vo out) (hf : Fr [] wr w') : CgRel w w' b v L vo out := ⟨h.rf.fr0 hf, h.own.keep0 hf, h.fr.trans hf, h.nb, h.nw, h.ok⟩
theorem CgRel.ne (h : CgRel w wr b v L vo out) : ∀ g, vo.ownBlock = some g → g ≠ b := by
  obtain ⟨us, h1, _, _⟩ := h.own
  exact fun g hg => h1.ne h.rf.blk (by decide) hg
theorem CgRel.far (h : CgRel w wr b v L vo out) : ∀ g, vo.ownBlock = some g → g ∉ fpRf b v := by
  obtain ⟨us, h1, _, _⟩ := h.own
  intro g hg hm
  unfold fpRf at hm
  rcases List.mem_cons.1 hm with rfl | hm
  · exact h.ne _ hg rfl
  · exact h1.ne2 h.rf.row (by decide) hg (Option.mem_toList.1 hm)
theorem noC_one {w : World} {s ty : Nat} {cs : Array Value} (h : Blk w s ty cs) (hne : ty ≠ 35) : NoC w [s] := NoC.cons (noC_blk h hne) NoC.nil
/-- A record that does not fit. -/
theorem CgRel.kept {v' : Value} {L' : List RowV} {r : Rec} (h : CgRel w wr b v L vo out) (hr : RfAt w' b v' L' (Sm.apply (Lg.run out) r)) (hf : Fr [b] wr w') (hn : Sm.fits (Lg.run out) r = false) : CgRel w w' b v' L' vo out := by
  have e : Sm.apply (Lg.run out) r = Lg.run out := by unfold Sm.apply; rw [if_neg (by simp [hn])]
  rw [e] at hr
  exact ⟨hr, h.own.fr hf (fun g hg => by simpa using h.ne g hg) (noC_one h.rf.blk (by decide)), h.fr.trans' hf (fun x hx => .inr (by simp only [List.mem_singleton] at hx; have := h.nb; omega)), h.nb, h.nw, h.ok⟩
/-- Behind Apply, ahead of the append. -/
structure CgMid (w wr : World) (b : Nat) (v : Value) (L : List RowV) (vo : Value) (us : List WRec) (r : Rec) : Prop where
  rf : RfAt wr b v L (Lg.run (us.map (·.r) ++ [r]))
  own : OwnL 38 2 WRec.cells wr vo us
  recs : ∀ u ∈ us, HoldsC wr u.A u.r.cs ∧ u.r.cs.length ≤ 8
  fr : Fr [] w wr
  nb : w.heap.size ≤ b
  nw : ∀ g, vo.ownBlock = some g → w.heap.size ≤ g
  ok : CgOk (us.map (·.r) ++ [r])
theorem CgRel.mid {v' : Value} {L' : List RowV} {p : Int} {c : Chg} (h : CgRel w wr b v L vo out) (hr : RfAt w' b v' L' (Sm.apply (Lg.run out) ⟨p, [c]⟩)) (hf : Fr [b] wr w') (hn : Sm.fits (Lg.run out) ⟨p, [c]⟩ = true) (hc : CgC c) : ∃ us, us.map (·.r) = out ∧ CgMid w w' b v' L' vo us ⟨p, [c]⟩ := by
  obtain ⟨us, h1, h2, h3⟩ := h.own
  refine ⟨us, h2, ?_, h1.fr hf (fun g hg => by simpa using h.ne g hg), fun u hu => ⟨(h3 u hu).1.fr hf (noC_one h.rf.blk (by decide)), (h3 u hu).2⟩, h.fr.trans' hf (fun x hx => .inr (by simp only [List.mem_singleton] at hx; have := h.nb; omega)), h.nb, h.nw, by rw [h2]; exact h.ok.snoc hn hc⟩
  rw [h2, Lg.run_snoc]
  exact hr
theorem CgMid.fr0 {us : List WRec} {r : Rec} (h : CgMid w wr b v L vo us r) (hf : Fr [] wr w') : CgMid w w' b v L vo us r :=
  ⟨h.rf.fr0 hf, h.own.fr hf (by simp), fun u hu => ⟨(h.recs u hu).1.fr hf NoC.nil, (h.recs u hu).2⟩, h.fr.trans hf, h.nb, h.nw, h.ok⟩
theorem CgMid.grown {us : List WRec} {r : Rec} {A : Option Addr} {cap : Nat} {vo' : Value} (h : CgMid w wr b v L vo us r) (hA : HoldsC wr A r.cs) (hl : r.cs.length ≤ 8) (ho : OwnL 38 2 WRec.cells w' vo' (us ++ [⟨r, A, cap⟩])) (hg : wr.grownBy w' vo.ownBlock) (hat : vo'.ownBlock = vo.ownBlock ∨ vo'.ownBlock = some wr.heap.size) :
    CgRel w w' b v L vo' (us.map (·.r) ++ [r]) := by
  have hf : Fr vo.ownBlock.toList wr w' := (Fr.refl _ _).grown hg (fun g hg => .inl (Option.mem_toList.2 hg))
  have hnc : NoC wr vo.ownBlock.toList := h.own.noC (by decide)
  refine ⟨h.rf.fr hf (fun i hi hm => ?_), ⟨us ++ [⟨r, A, cap⟩], ho, by simp, fun u hu => ?_⟩, h.fr.trans' hf (fun g hm => .inr (h.nw g (Option.mem_toList.1 hm))), h.nb, fun g hgg => ?_, h.ok⟩
  · have hg' := Option.mem_toList.1 hm
    unfold fpRf at hi
    rcases List.mem_cons.1 hi with rfl | hi
    · exact h.own.ne h.rf.blk (by decide) hg' rfl
    · exact h.own.ne2 h.rf.row (by decide) hg' (Option.mem_toList.1 hi)
  · rcases List.mem_append.1 hu with h1 | h1
    · exact ⟨(h.recs u h1).1.fr hf hnc, (h.recs u h1).2⟩
    · rw [List.mem_singleton] at h1
      subst h1
      exact ⟨hA.fr hf hnc, hl⟩
  · rcases hat with e | e
    · exact h.nw g (e ▸ hgg)
    · rw [hgg] at e
      injection e with e
      have := h.fr.size
      omega
end
theorem holds_blk {w : World} {g : Nat} {arr : Array Value} {cs : List Chg} {A : Option Addr} (hA : A = some ⟨g, 0, none⟩) (hB : Blk w g 35 arr) (h : cs.flatMap Chg.cells = arr.toList) : HoldsC w A cs := by
  subst hA
  refine ⟨fun hl => ⟨g, 0, rfl, hB.lt, fun i hi j hj => ?_⟩, fun hl ad e => ?_⟩
  · have e1 := flat_get Chg.len cs i hi j hj
    rw [← e1, h, Nat.zero_add, hB.cell]
    simp
  · cases e
    exact ⟨_, _, hB⟩
theorem rowI_bounds (x0 x1 x2 x3 : Int) : ∃ t k a b c, rowI x0 x1 x2 x3 = ⟨t, k, a, b, c⟩ ∧ (0 ≤ t ∧ t ≤ 1) ∧ (1 ≤ k ∧ k ≤ 12) ∧ (0 ≤ a ∧ a ≤ 19) ∧ (0 ≤ b ∧ b ≤ 13) ∧ (-10 ≤ c ∧ c ≤ 29) := by
  refine ⟨_, _, _, _, _, rfl, ?_, ?_, ?_, ?_, ?_⟩
  · have h1 := pickI_nonneg x0 (n := 2) (by decide)
    have h2 := pickI_lt x0 (n := 2) (by decide)
    omega
  · have h1 := pickI_nonneg (x0.tdiv 2) (n := 12) (by decide)
    have h2 := pickI_lt (x0.tdiv 2) (n := 12) (by decide)
    omega
  · have h1 := pickI_nonneg x1 (n := 20) (by decide)
    have h2 := pickI_lt x1 (n := 20) (by decide)
    omega
  · have h1 := pickI_nonneg x2 (n := 14) (by decide)
    have h2 := pickI_lt x2 (n := 14) (by decide)
    omega
  · have h1 := pickI_nonneg x3 (n := 40) (by decide)
    have h2 := pickI_lt x3 (n := 40) (by decide)
    omega
end Go.Proofs.Ythiaaminkfkjpaa
namespace Go.Proofs.Ythiaaminkfkjpaa
open Go.RowKit

theorem chg_cells (c : Chg) : c.cells.toArray = #[.int .i64 c.t, .int .i64 c.k, .bool c.had, .int .i64 c.o0, .int .i64 c.o1, .int .i64 c.o2, .bool c.has, .int .i64 c.n0, .int .i64 c.n1, .int .i64 c.n2] := rfl
set_option maxRecDepth 100000 in
set_option maxHeartbeats 8000000 in
theorem changes_any (A : Option Addr) (n cap : Nat) (w : World) (hn : n ≤ cap) (hcap : cap ≤ maxLen) (hx : n = 0 ∨ ∃ bx ox, A = some ⟨bx, ox, none⟩ ∧ FourAt w bx ox n) :
    Calls Try.prog 5 #[.slice A n cap] w fun e w' => ∃ (A2 : Option Addr) (n2 c2 : Nat) (out : List Rec), e = .returned (.slice A2 n2 c2) ∧ OwnR w' (.slice A2 n2 c2) out ∧ n2 = out.length ∧ CgOk out ∧ out.length ≤ 40 ∧ Fr [] w w' ∧ ∀ g, (Value.slice A2 n2 c2).ownBlock = some g → w.heap.size ≤ g := by
  have HX := Lib.hid hx
  have hb9 : n < 9223372036854775808 := by simp only [maxLen] at hcap; omega
  clear hx
  have R0 : Hid (CgRel w (w.alloc (.cells #[.slice none 0 0, .int .i64 0] 57)) w.heap.size (.slice none 0 0) [] (.slice none 0 0) []) := Lib.hid ⟨⟨Blk.new _ _ _, OwnL.nil, Sm.Sim.nil, Sm.ok_new⟩, OwnR.nil _, (Fr.refl _ _).alloc _, Nat.le_refl _, by simp [Value.ownBlock], CgOk.nil⟩
  obtain ⟨i0, TR⟩ := etRec
  go_enter Try.func5, Try.ntmps5
  go_wp2_with fail
  generalize w.heap.size = b at *
  go_loopw [4, 5] (fun vo i wr => ∃ (k : Nat) (A2 : Option Addr) (n2 c2 : Nat) (v : Value) (L : List RowV) (out : List Rec), (k ≤ n ∧ k ≤ 40) ∧ i = .int .i64 k ∧ vo = .slice A2 n2 c2 ∧ Hid (n2 = out.length) ∧ n2 ≤ k ∧ Hid (CgRel w wr b v L (.slice A2 n2 c2) out)) (fun _ i _ => n - (intOf i).toNat)
  case atStart => exact ⟨0, none, 0, 0, _, _, [], ⟨Nat.zero_le _, Nat.zero_le _⟩, rfl, rfl, Lib.hid rfl, Nat.le_refl _, R0⟩
  case round =>
    clear R0
    obtain ⟨k, A2, n2, c2, v, L, out, ⟨hk, hk40⟩, rfl, rfl, HN2, hn2, R⟩ := hrel
    by_cases hlt : k < n
    · by_cases h40 : k < 40
      · obtain ⟨bx, ox, rfl, hfour⟩ : ∃ bx ox, A = some ⟨bx, ox, none⟩ ∧ FourAt w bx ox n := by
          rcases HX.out with h | h
          · omega
          · exact h
        have hf4 := hfour.fr0 R.out.fr
        obtain ⟨x0, d0, o0⟩ := hf4.cell k hlt 0 (by decide)
        obtain ⟨x1, d1, o1⟩ := hf4.cell k hlt 1 (by decide)
        obtain ⟨x2, d2, o2⟩ := hf4.cell k hlt 2 (by decide)
        obtain ⟨x3, d3, o3⟩ := hf4.cell k hlt 3 (by decide)
        rw [Nat.add_zero] at d0
        have hbx := hf4.lt
        have HROW := Lib.hid (row6_any x0 x1 x2 x3 wr o0 o1 o2 o3)
        obtain ⟨t, kk, a, b1, c, hrow, ht, hkk, ha, hb1, hc⟩ := rowI_bounds x0 x1 x2 x3
        obtain ⟨pp, bp, -, KP⟩ := pick_is2 o3 (n := 4) (by decide) (by decide)
        rw [hrow] at HROW
        have HT := Lib.hid ht
        have HKK := Lib.hid hkk
        have HAB := Lib.hid (And.intro ha (And.intro hb1 hc))
        clear hf4 hrow ht hkk ha hb1 hc o0 o1 o2 o3
        have HD3 := Lib.hid d3
        have HBX := Lib.hid hbx
        clear hbx
        go_upto_region 7 with (go_at_call 15; refine HROW.out.mono ?_; rintro e w1 ⟨rfl, f1⟩; have F1 := Lib.hid f1; clear f1)
        have G1 := Lib.hid (F1.out.alloc (.cells #[.int .i64 t, .int .i64 kk, .int .i64 a, .int .i64 b1, .int .i64 c] 33))
        have BR := Lib.hid (Blk.new w1 33 #[.int .i64 t, .int .i64 kk, .int .i64 a, .int .i64 b1, .int .i64 c])
        clear HROW d0 d1 d2 d3
        generalize hw2 : w1.alloc (.cells #[.int .i64 t, .int .i64 kk, .int .i64 a, .int .i64 b1, .int .i64 c] 33) = w2 at *
        clear hw2
        generalize w1.heap.size = gr at *
        have R2 := Lib.hid (R.out.fr0 G1.out)
        have r0 : w2.cell? ⟨gr, 0, none⟩ = some (.int .i64 t) := BR.out.cell 0
        have r1 : w2.cell? ⟨gr, 1, none⟩ = some (.int .i64 kk) := BR.out.cell 1
        have r2 : w2.cell? ⟨gr, 2, none⟩ = some (.int .i64 a) := BR.out.cell 2
        have r3 : w2.cell? ⟨gr, 3, none⟩ = some (.int .i64 b1) := BR.out.cell 3
        have r4 : w2.cell? ⟨gr, 4, none⟩ = some (.int .i64 c) := BR.out.cell 4
        have D3 := Lib.hid ((G1.out.rules.1 bx _ HBX.out).trans HD3.out)
        have BX2 : Hid (bx < w2.heap.size) := Lib.hid (Nat.lt_of_lt_of_le HBX.out G1.out.size)
        go_upto_region 8 with (fail)
        clear r0 r1 r2 r3 r4
        have G2 := Lib.hid ((Fr.refl [] w2).alloc (.cells #[.int .i64 t, .int .i64 kk, .bool false, .int .i64 0, .int .i64 0, .int .i64 0, .bool true, .int .i64 a, .int .i64 b1, .int .i64 c] 35))
        have BC := Lib.hid (Blk.new w2 35 #[.int .i64 t, .int .i64 kk, .bool false, .int .i64 0, .int .i64 0, .int .i64 0, .bool true, .int .i64 a, .int .i64 b1, .int .i64 c])
        generalize hw3 : w2.alloc (.cells #[.int .i64 t, .int .i64 kk, .bool false, .int .i64 0, .int .i64 0, .int .i64 0, .bool true, .int .i64 a, .int .i64 b1, .int .i64 c] 35) = w3 at *
        clear hw3
        obtain ⟨gc, hgc⟩ : ∃ g, w2.heap.size = g := ⟨_, rfl⟩
        rw [hgc] at BC ⊢
        have HGC := Lib.hid hgc
        clear hgc
        have r0 : w3.cell? ⟨gr, 0, none⟩ = some (.int .i64 t) := (BR.out.fr G2.out (by simp)).cell 0
        have r1 : w3.cell? ⟨gr, 1, none⟩ = some (.int .i64 kk) := (BR.out.fr G2.out (by simp)).cell 1
        have hget := rfget_any b v L (Lg.run out) t kk w3 (R2.out.fr0 G2.out).rf (by have := HT.out; exact okI_mk (by omega) (by omega)) (by have := HKK.out; exact okI_mk (by omega) (by omega))
        obtain ⟨ga, gb, gx, gy, gz, had, hgot⟩ := got_shape (mget (Lg.run out).M (idOf t kk))
        rw [hgot] at hget
        have HGET := Lib.hid hget
        clear hget hgot
        go_upto_region 9 with (go_at_call 16; refine HGET.out.mono ?_; rintro e w4 ⟨rfl, f4⟩; have F4 := Lib.hid f4; clear f4)
        clear HGET r0 r1
        have G4 := Lib.hid ((G2.out.trans F4.out).alloc (.cells #[.int .i64 ga, .int .i64 gb, .int .i64 gx, .int .i64 gy, .int .i64 gz] 33))
        have BC4 := Lib.hid ((BC.out.fr F4.out (by simp)).alloc (.cells #[.int .i64 ga, .int .i64 gb, .int .i64 gx, .int .i64 gy, .int .i64 gz] 33))
        have BO := Lib.hid (Blk.new w4 33 #[.int .i64 ga, .int .i64 gb, .int .i64 gx, .int .i64 gy, .int .i64 gz])
        generalize hw5 : w4.alloc (.cells #[.int .i64 ga, .int .i64 gb, .int .i64 gx, .int .i64 gy, .int .i64 gz] 33) = w5 at *
        clear hw5 G2 BC F4
        have hne1 := Blk.ne BC4.out BO.out (by decide)
        have hne2 : ¬ w4.heap.size = gc := fun e => hne1 e.symm
        generalize w4.heap.size = go at *
        have hne3 : ¬ gc = bx := by have h1 := BX2.out; have h2 := HGC.out; omega
        have hne4 : ¬ bx = gc := fun e => hne3 e.symm
        have HGL : Hid (w2.heap.size ≤ gc) := Lib.hid (Nat.le_of_eq HGC.out)
        go_upto_if 44 with fail
        go_cut [] (fun wc => ∃ ch : Chg, Hid (Fr [] w2 wc) ∧ Hid (Blk wc gc 35 ch.cells.toArray) ∧ Hid (CgC ch))
        case first =>
          cases hhad : had
          · subst hhad
            go_wp2_with fail
            go_meet
            exact ⟨⟨t, kk, false, 0, 0, 0, true, a, b1, c⟩, G4, BC4, Lib.hid ⟨HT.out, HKK.out, fun _ => HAB.out⟩⟩
          · subst hhad
            have o2 : w5.cell? ⟨go, 2, none⟩ = some (.int .i64 gx) := BO.out.cell 2
            have o3 : w5.cell? ⟨go, 3, none⟩ = some (.int .i64 gy) := BO.out.cell 3
            have o4 : w5.cell? ⟨go, 4, none⟩ = some (.int .i64 gz) := BO.out.cell 4
            have z2 := BC4.out.frozen 2
            have z3 := BC4.out.frozen 3
            have z4 := BC4.out.frozen 4
            have z5 := BC4.out.frozen 5
            have y2 : w5.cell? ⟨gc, 2, none⟩ = some (.bool false) := BC4.out.cell 2
            have y3 : w5.cell? ⟨gc, 3, none⟩ = some (.int .i64 0) := BC4.out.cell 3
            have y4 : w5.cell? ⟨gc, 4, none⟩ = some (.int .i64 0) := BC4.out.cell 4
            have y5 : w5.cell? ⟨gc, 5, none⟩ = some (.int .i64 0) := BC4.out.cell 5
            go_upto_region 12 with (fail)
            have BC5 : Hid (Blk ((((w5.setCell ⟨gc, 2, none⟩ (.bool true)).setCell ⟨gc, 3, none⟩ (.int .i64 gx)).setCell ⟨gc, 4, none⟩ (.int .i64 gy)).setCell ⟨gc, 5, none⟩ (.int .i64 gz)) gc 35 #[.int .i64 t, .int .i64 kk, .bool true, .int .i64 gx, .int .i64 gy, .int .i64 gz, .bool true, .int .i64 a, .int .i64 b1, .int .i64 c]) := Lib.hid (by have h := ((((BC4.out.set_ 2 (.bool true)).set_ 3 (.int .i64 gx)).set_ 4 (.int .i64 gy)).set_ 5 (.int .i64 gz)); simpa only [List.setIfInBounds_toArray, List.set_cons_zero, List.set_cons_succ] using h)
            have G5 := Lib.hid (((((G4.out.setCell (p := ⟨gc, 2, none⟩) (.inr HGL.out) (.bool true)).setCell (p := ⟨gc, 3, none⟩) (.inr HGL.out) (.int .i64 gx)).setCell (p := ⟨gc, 4, none⟩) (.inr HGL.out) (.int .i64 gy)).setCell (p := ⟨gc, 5, none⟩) (.inr HGL.out) (.int .i64 gz)))
            clear o2 o3 o4 z2 z3 z4 z5 y2 y3 y4 y5
            generalize hw6 : (((w5.setCell ⟨gc, 2, none⟩ (.bool true)).setCell ⟨gc, 3, none⟩ (.int .i64 gx)).setCell ⟨gc, 4, none⟩ (.int .i64 gy)).setCell ⟨gc, 5, none⟩ (.int .i64 gz) = w6 at *
            clear hw6
            have d3 : w6.cell? ⟨bx, ox + k * 4 + 3, none⟩ = some (.int .i64 x3) := (G5.out.rules.1 bx _ BX2.out).trans D3.out
            have z6 := BC5.out.frozen 6
            have z7 := BC5.out.frozen 7
            have z8 := BC5.out.frozen 8
            have z9 := BC5.out.frozen 9
            have y6 : w6.cell? ⟨gc, 6, none⟩ = some (.bool true) := BC5.out.cell 6
            have y7 : w6.cell? ⟨gc, 7, none⟩ = some (.int .i64 a) := BC5.out.cell 7
            have y8 : w6.cell? ⟨gc, 8, none⟩ = some (.int .i64 b1) := BC5.out.cell 8
            have y9 : w6.cell? ⟨gc, 9, none⟩ = some (.int .i64 c) := BC5.out.cell 9
            by_cases hp0 : pp = 0
            · have e0 : (pp == 0) = true := by simp [hp0]
              have HP0 := Lib.hid hp0
              clear hp0
              go_wp2_with (go_at_call 7; refine (KP.out _).mono ?_; rintro e w' ⟨rfl, rfl⟩)
              go_meet
              exact ⟨⟨t, kk, true, gx, gy, gz, false, 0, 0, 0⟩, Lib.hid (((((G5.out.setCell (p := ⟨gc, 6, none⟩) (.inr HGL.out) (.bool false)).setCell (p := ⟨gc, 7, none⟩) (.inr HGL.out) (.int .i64 0)).setCell (p := ⟨gc, 8, none⟩) (.inr HGL.out) (.int .i64 0)).setCell (p := ⟨gc, 9, none⟩) (.inr HGL.out) (.int .i64 0))), Lib.hid (show Blk ((((w6.setCell ⟨gc, 6, none⟩ (.bool false)).setCell ⟨gc, 7, none⟩ (.int .i64 0)).setCell ⟨gc, 8, none⟩ (.int .i64 0)).setCell ⟨gc, 9, none⟩ (.int .i64 0)) gc 35 #[.int .i64 t, .int .i64 kk, .bool true, .int .i64 gx, .int .i64 gy, .int .i64 gz, .bool false, .int .i64 0, .int .i64 0, .int .i64 0] from by have h := ((((BC5.out.set_ 6 (.bool false)).set_ 7 (.int .i64 0)).set_ 8 (.int .i64 0)).set_ 9 (.int .i64 0)); simpa only [List.setIfInBounds_toArray, List.set_cons_zero, List.set_cons_succ] using h), Lib.hid ⟨HT.out, HKK.out, fun h => by cases h⟩⟩
            · have e0 : (pp == 0) = false := by simp [hp0]
              have HP0 := Lib.hid hp0
              clear hp0
              go_wp2_with (go_at_call 7; refine (KP.out _).mono ?_; rintro e w' ⟨rfl, rfl⟩)
              go_meet
              exact ⟨⟨t, kk, true, gx, gy, gz, true, a, b1, c⟩, G5, BC5, Lib.hid ⟨HT.out, HKK.out, fun _ => HAB.out⟩⟩
        case rest =>
        obtain ⟨⟨ct, ck, chad, q0, q1, q2, chas, m0, m1, m2⟩, F6, B6, HCH⟩ := hcut
        rw [chg_cells] at B6
        dsimp only at B6
        have R6 := Lib.hid (R2.out.fr0 F6.out)
        clear G4 BC4 BO BR R R2 G1 hne1 hne2 hne3 hne4 HD3 D3
        have c0 : wc.cell? ⟨gc, 0, none⟩ = some (.int .i64 ct) := B6.out.cell 0
        have c1 : wc.cell? ⟨gc, 1, none⟩ = some (.int .i64 ck) := B6.out.cell 1
        have c2 : wc.cell? ⟨gc, 2, none⟩ = some (.bool chad) := B6.out.cell 2
        have c3 : wc.cell? ⟨gc, 3, none⟩ = some (.int .i64 q0) := B6.out.cell 3
        have c4 : wc.cell? ⟨gc, 4, none⟩ = some (.int .i64 q1) := B6.out.cell 4
        have c5 : wc.cell? ⟨gc, 5, none⟩ = some (.int .i64 q2) := B6.out.cell 5
        have c6 : wc.cell? ⟨gc, 6, none⟩ = some (.bool chas) := B6.out.cell 6
        have c7 : wc.cell? ⟨gc, 7, none⟩ = some (.int .i64 m0) := B6.out.cell 7
        have c8 : wc.cell? ⟨gc, 8, none⟩ = some (.int .i64 m1) := B6.out.cell 8
        have c9 : wc.cell? ⟨gc, 9, none⟩ = some (.int .i64 m2) := B6.out.cell 9
        go_upto_region 16 with (fail)
        clear c0 c1 c2 c3 c4 c5 c6 c7 c8 c9 B6 F6
        have BS := (Blk.new wc 35 #[.int .i64 ct, .int .i64 ck, .bool chad, .int .i64 q0, .int .i64 q1, .int .i64 q2, .bool chas, .int .i64 m0, .int .i64 m1, .int .i64 m2]).alloc (.cells #[.int .i64 (n2 + 1), .slice (some ⟨wc.heap.size, 0, none⟩) 1 1] 38)
        have BY := Blk.new (wc.alloc (.cells #[.int .i64 ct, .int .i64 ck, .bool chad, .int .i64 q0, .int .i64 q1, .int .i64 q2, .bool chas, .int .i64 m0, .int .i64 m1, .int .i64 m2] 35)) 38 #[.int .i64 (n2 + 1), .slice (some ⟨wc.heap.size, 0, none⟩) 1 1]
        rw [World.size_alloc] at BY
        have R7 := Lib.hid (R6.out.fr0 (((Fr.refl [] wc).alloc (.cells #[.int .i64 ct, .int .i64 ck, .bool chad, .int .i64 q0, .int .i64 q1, .int .i64 q2, .bool chas, .int .i64 m0, .int .i64 m1, .int .i64 m2] 35)).alloc (.cells #[.int .i64 (n2 + 1), .slice (some ⟨wc.heap.size, 0, none⟩) 1 1] 38)))
        have HBS := Lib.hid BS
        have HBY := Lib.hid BY
        clear BS BY R6
        generalize hw7 : (wc.alloc (.cells #[.int .i64 ct, .int .i64 ck, .bool chad, .int .i64 q0, .int .i64 q1, .int .i64 q2, .bool chas, .int .i64 m0, .int .i64 m1, .int .i64 m2] 35)).alloc (.cells #[.int .i64 (n2 + 1), .slice (some ⟨wc.heap.size, 0, none⟩) 1 1] 38) = w7 at *
        clear hw7
        obtain ⟨gy, hgy⟩ : ∃ g, wc.heap.size + 1 = g := ⟨_, rfl⟩
        rw [hgy] at HBY ⊢
        clear hgy
        generalize wc.heap.size = gs at *
        have y0 : w7.cell? ⟨gy, 0, none⟩ = some (.int .i64 (n2 + 1)) := HBY.out.cell 0
        have y1 : w7.cell? ⟨gy, 1, none⟩ = some (.slice (some ⟨gs, 0, none⟩) 1 1) := HBY.out.cell 1
        obtain ⟨r, HR⟩ : ∃ r : Rec, Hid (r = ⟨n2 + 1, [⟨ct, ck, chad, q0, q1, q2, chas, m0, m1, m2⟩]⟩) := ⟨_, Lib.hid rfl⟩
        have HHC : Hid (HoldsC w7 (some ⟨gs, 0, none⟩) [⟨ct, ck, chad, q0, q1, q2, chas, m0, m1, m2⟩]) := Lib.hid (holds_blk rfl HBS.out rfl)
        have hap : Calls Try.prog 17 #[.pointer (some ⟨b, 0, none⟩), .agg #[.int .i64 (n2 + 1), .slice (some ⟨gs, 0, none⟩) 1 1]] w7 fun e w' => e = .returned (.int .i64 (Sm.code (Lg.run out) r)) ∧ ∃ v' L', RfAt w' b v' L' (Sm.apply (Lg.run out) r) ∧ Fr [b] w7 w' ∧ ∀ g, v'.ownBlock = some g → v.ownBlock = some g ∨ w7.heap.size ≤ g := by
          rw [HR.out]
          exact rfapply_any b v L (Lg.run out) ⟨n2 + 1, [⟨ct, ck, chad, q0, q1, q2, chas, m0, m1, m2⟩]⟩ (some ⟨gs, 0, none⟩) 1 w7 R7.out.rf HHC.out (show 1 ≤ maxLen by decide)
        have hbgs : NoC w7 [b] := noC_one R7.out.rf.blk (by decide)
        have hbgy := Blk.ne HBY.out R7.out.rf.blk (by decide)
        have HNO := Lib.hid (And.intro hbgs hbgy)
        clear hbgs hbgy HBS
        cases hfit : Sm.fits (Lg.run out) r
        · have hco : Sm.code (Lg.run out) r = 40 := by unfold Sm.code; rw [hfit]; rfl
          rw [hco] at hap
          have HAP := Lib.hid hap
          have HFIT := Lib.hid hfit
          clear hap hfit hco
          go_wp2_with (go_at_call 17; refine HAP.out.mono ?_; rintro e w8 ⟨rfl, v8, L8, hr8, hf8, -⟩; have R8 := Lib.hid (R7.out.kept hr8 hf8 HFIT.out); clear hr8 hf8)
          go_roundw
          case rel => exact ⟨k + 1, A2, n2, c2, v8, L8, out, ⟨by omega, by omega⟩, by go_num, rfl, HN2, by omega, R8⟩
          case measure => simp [intOf]; omega
        · have hco : Sm.code (Lg.run out) r = 0 := by unfold Sm.code; rw [hfit]; rfl
          rw [hco] at hap
          have HAP := Lib.hid hap
          have HFIT := Lib.hid hfit
          clear hap hfit hco
          go_upto_region 17 with (go_at_call 17; refine HAP.out.mono ?_; rintro e w8 ⟨rfl, v8, L8, hr8, hf8, -⟩; rw [HR.out] at hr8; have HM0 := R7.out.mid hr8 hf8 (by rw [← HR.out]; exact HFIT.out) HCH.out; have HY8 := Lib.hid (HBY.out.fr hf8 (by simpa using HNO.out.2)); have HC8 := Lib.hid (HHC.out.fr hf8 HNO.out.1); have HM := Lib.hid HM0; clear hr8 hf8 HM0)
          obtain ⟨us, hus, hmid⟩ := HM.out
          clear HM y0 y1
          have y0 : w8.cell? ⟨gy, 0, none⟩ = some (.int .i64 (n2 + 1)) := HY8.out.cell 0
          have y1 : w8.cell? ⟨gy, 1, none⟩ = some (.slice (some ⟨gs, 0, none⟩) 1 1) := HY8.out.cell 1
          have hul : us.length = n2 := by rw [HN2.out, ← hus, List.length_map]
          have HUL : Hid (us.length ≤ 40) := Lib.hid (by omega)
          have HUL2 := Lib.hid hul
          have HUS := Lib.hid hus
          have M9 := Lib.hid (hmid.fr0 ((Fr.refl [] w8).alloc (.cells #[.int .i64 (n2 + 1), .slice (some ⟨gs, 0, none⟩) 1 1] 38)))
          have C9 := Lib.hid (HC8.out.fr ((Fr.refl [] w8).alloc (.cells #[.int .i64 (n2 + 1), .slice (some ⟨gs, 0, none⟩) 1 1] 38)) NoC.nil)
          clear hmid hus hul
          go_wp2_with (at_builtin; refine wpList_appendL rfl _ _ rfl TR WRec.len WRec.one rfl M9.out.own (w8.heap.size + 1) _ _ _ [(⟨⟨n2 + 1, [⟨ct, ck, chad, q0, q1, q2, chas, m0, m1, m2⟩]⟩, some ⟨gs, 0, none⟩, 1⟩ : WRec)] rfl rfl (reads_new (enc := WRec.cells) w8 38 ⟨⟨n2 + 1, [⟨ct, ck, chad, q0, q1, q2, chas, m0, m1, m2⟩]⟩, some ⟨gs, 0, none⟩, 1⟩ rfl) (by have := HUL.out; simp only [maxLen, List.length_singleton]; omega) (by have := HUL.out; simp only [List.length_singleton]; omega) ?_; intro v5 w9 hown5 hg5 hat5; have R9 := Lib.hid (M9.out.grown C9.out (show 1 ≤ 8 by decide) hown5 hg5 hat5); obtain ⟨A5, n5, c5, hv5⟩ : ∃ A n c, v5 = .slice A n c := (match hown5.val with | ⟨_, _, hv⟩ => ⟨_, _, _, hv⟩); subst hv5; have HN5 := Lib.hid (hown5.at1 WRec.len).2; clear hown5 hg5 hat5)
          go_roundw
          case rel => exact ⟨k + 1, A5, n5, c5, v8, L8, out ++ [⟨n2 + 1, [⟨ct, ck, chad, q0, q1, q2, chas, m0, m1, m2⟩]⟩], ⟨by omega, by omega⟩, by go_num, rfl, Lib.hid (by rw [HN5.out, List.length_append, List.length_append, HUL2.out, HN2.out]; rfl), by rw [HN5.out, List.length_append, HUL2.out]; simp only [List.length_singleton]; omega, by rw [← HUS.out]; exact R9⟩
          case measure => simp [intOf]; omega
      · obtain rfl : k = 40 := by omega
        go_wp2_with fail
        go_ret
        exact ⟨A2, n2, c2, out, rfl, R.out.own, HN2.out, R.out.ok, by rw [← HN2.out]; omega, R.out.fr, R.out.nw⟩
    · obtain rfl : k = n := by omega
      go_wp2_with fail
      go_ret
      exact ⟨A2, n2, c2, out, rfl, R.out.own, HN2.out, R.out.ok, by rw [← HN2.out]; omega, R.out.fr, R.out.nw⟩
end Go.Proofs.Ythiaaminkfkjpaa
namespace Go.Proofs.Ythiaaminkfkjpaa
open Go.RowKit

set_option maxRecDepth 100000 in
theorem put6_any (t k a b c : Int) (w : World) :
    Calls Try.prog 12 #[.int .i64 t, .int .i64 k, .int .i64 a, .int .i64 b, .int .i64 c] w fun e w' => e = .returned (.agg #[.int .i64 t, .int .i64 k, .bool false, .int .i64 0, .int .i64 0, .int .i64 0, .bool true, .int .i64 a, .int .i64 b, .int .i64 c]) ∧ Fr [] w w' := by
  have F0 : Fr [] w (w.alloc (.cells #[.int .i64 t, .int .i64 k, .bool false, .int .i64 0, .int .i64 0, .int .i64 0, .bool true, .int .i64 a, .int .i64 b, .int .i64 c] 35)) := (Fr.refl _ _).alloc _
  go_enter Try.func12, Try.ntmps12
  go_wp2_with fail
  exact bodyPost_ret (v := .agg #[.int .i64 t, .int .i64 k, .bool false, .int .i64 0, .int .i64 0, .int .i64 0, .bool true, .int .i64 a, .int .i64 b, .int .i64 c]) (by simp [results, Try.results12, go_sem]) rfl ⟨rfl, F0⟩
set_option maxRecDepth 100000 in
theorem eof_nil (q : Qry) (w : World) :
    Calls Try.prog 10 #[.pointer none, q.val] w fun e w' => e = .returned (.tuple #[.agg #[.slice none 0 0, .int .i64 0, .bool false], .int .i64 1]) ∧ Fr [] w w' := by
  have R0 := Lib.hid (FrRel.new w q)
  obtain ⟨k, t, c, lo, hi, b, o⟩ := q
  unfold Qry.val
  dsimp only at *
  go_enter Try.func10, Try.ntmps10
  go_upto_region 1 with (fail)
  generalize (w.alloc (.cells #[.int .i64 k, .int .i64 t, .int .i64 c, .int .i64 lo, .int .i64 hi, .int .i64 b, .int .i64 o] 29)).alloc (.cells #[.slice none 0 0, .int .i64 0, .bool false] 46) = w2 at *
  have z0 := R0.out.res.z 0
  have z1 := R0.out.res.z 1
  have z2 := R0.out.res.z 2
  have y0 := R0.out.res.c0
  have y1 := R0.out.res.c1
  have y2 := R0.out.res.c2
  go_wp2_with fail
  obtain ⟨w4, e4, q0, q1, q2, f4, -⟩ := R0.out.fin (.slice none 0 0) 0 false
  rw [e4]
  exact bodyPost_ret (v := .tuple #[.agg #[.slice none 0 0, .int .i64 0, .bool false], .int .i64 1]) (by simp [results, Try.results10, go_sem, q0, q1, q2]) rfl ⟨rfl, f4⟩
end Go.Proofs.Ythiaaminkfkjpaa
namespace Go.Proofs.Ythiaaminkfkjpaa
open Go.RowKit

theorem eof_is {rows : List RowV} {vn : Int} {vf : Bool} {bs m : Nat} {s : Sm.Sta} {q : Qry} {w : World} (h : StaAt w bs m s) (hs : Sm.Sound s) (hv : Em.valid q = true) (hof : Em.of s q = ⟨rows, vn, vf⟩) :
    Calls Try.prog 10 #[.pointer (some ⟨bs, 0, none⟩), q.val] w fun e w' => ∃ A n c, e = .returned (.tuple #[.agg #[.slice A n c, .int .i64 vn, .bool vf], .int .i64 0]) ∧ n = rows.length ∧ RowsAt w' A rows ∧ Fr [] w w' ∧ ∀ ad, A = some ad → w.heap.size ≤ ad.block := by
  refine (eof_any bs m s q w h hs).mono ?_
  rintro e w' ⟨v, rfl, hr⟩
  rw [hof] at hr ⊢
  have hc : Em.code q = 0 := by unfold Em.code; rw [hv]; rfl
  obtain ⟨A, n, c, hv5⟩ : ∃ A n c, v = .slice A n c := (match hr.own.val with | ⟨_, _, hv⟩ => ⟨_, _, _, hv⟩)
  subst hv5
  have h1 := OwnL.rowsAt hr.own
  refine ⟨A, n, c, by rw [hc], h1.2, h1.1, hr.fr, fun ad e => ?_⟩
  subst e
  exact hr.new ad.block rfl
theorem eof_not {bs m : Nat} {s : Sm.Sta} {q : Qry} {w : World} (h : StaAt w bs m s) (hs : Sm.Sound s) (hv : Em.valid q = false) :
    Calls Try.prog 10 #[.pointer (some ⟨bs, 0, none⟩), q.val] w fun e w' => ∃ A n c, e = .returned (.tuple #[.agg #[.slice A n c, .int .i64 0, .bool false], .int .i64 50]) ∧ n = 0 ∧ Fr [] w w' := by
  refine (eof_any bs m s q w h hs).mono ?_
  rintro e w' ⟨v, rfl, hr⟩
  have e1 : Em.of s q = ⟨[], 0, false⟩ := Em.res_bad hv
  rw [e1] at hr ⊢
  have hc : Em.code q = 50 := by unfold Em.code; rw [hv]; rfl
  obtain ⟨A, n, c, hv5⟩ : ∃ A n c, v = .slice A n c := (match hr.own.val with | ⟨_, _, hv⟩ => ⟨_, _, _, hv⟩)
  subst hv5
  exact ⟨A, n, c, by rw [hc], (OwnL.rowsAt hr.own).2, hr.fr⟩
theorem RsAt.frq {w w' : World} {g gq : Nat} {v : Value} {n : Int} {f : Bool} {q : Qry} (h : RsAt w g v n f) (hq : QAt w gq q) (hf : Fr [gq] w w') : RsAt w' g v n f := h.fr hf (by simpa using Blk.ne h hq (by decide))
theorem AtL.frq {w w' : World} {A : Option Addr} {l : List RowV} {gq : Nat} (h : RowsAt w A l) (ha : ∀ ad, A = some ad → gq < ad.block) (hf : Fr [gq] w w') : RowsAt w' A l := h.fr hf (fun ad e => by have := ha ad e; simp only [List.mem_singleton]; omega)
/-- Where sane stands: the state's world, the query's block. -/
structure Sn (w1 wc : World) (gq : Nat) (q : Qry) : Prop where
  fr : Fr [] w1 wc
  q : QAt wc gq q
  lt : w1.heap.size ≤ gq
theorem Sn.fr0 {w1 wc w' : World} {gq : Nat} {q : Qry} (h : Sn w1 wc gq q) (hf : Fr [] wc w') : Sn w1 w' gq q := ⟨h.fr.trans hf, h.q.fr hf (by simp), h.lt⟩
theorem Sn.set0 {w1 wc : World} {gq : Nat} {q : Qry} (h : Sn w1 wc gq q) (v : Int) : Sn w1 (wc.setCell ⟨gq, 0, none⟩ (.int .i64 v)) gq ⟨v, q.table, q.column, q.low, q.high, q.by_, q.other⟩ := ⟨h.fr.setCell (.inr h.lt) _, Blk.set_ h.q 0 _, h.lt⟩
theorem Sn.set5 {w1 wc : World} {gq : Nat} {q : Qry} (h : Sn w1 wc gq q) (v : Int) : Sn w1 (wc.setCell ⟨gq, 5, none⟩ (.int .i64 v)) gq ⟨q.kind, q.table, q.column, q.low, q.high, v, q.other⟩ := ⟨h.fr.setCell (.inr h.lt) _, Blk.set_ h.q 5 _, h.lt⟩
theorem frq_set {wc : World} {gq k : Nat} {v : Value} : Fr [gq] wc (wc.setCell ⟨gq, k, none⟩ v) := (Fr.refl _ _).setCell (.inl (by simp)) _
namespace Sane6
def cs : List Chg := [⟨0, 5, false, 0, 0, 0, true, 10, 2, 7⟩, ⟨0, 6, false, 0, 0, 0, true, 10, 9, 7⟩, ⟨0, 7, false, 0, 0, 0, true, 12, 1, 8⟩, ⟨1, 2, false, 0, 0, 0, true, 30, 31, 32⟩, ⟨1, 9, false, 0, 0, 0, true, 40, 41, 42⟩]
def r : Rec := ⟨1, cs⟩
def s : Sm.Sta := Lg.run [r]
theorem fits : ∀ i (h : i < [r].length), i < 1 → Sm.fits (Lg.run ([r].take i)) [r][i] = true
  | 0, _, _ => by kernel_rfl
  | _ + 1, _, h => absurd h (by omega)
theorem sound : Sm.Sound s := Lg.run_sound [r]
theorem ok : Sm.Ok s := Lg.run_ok [r]
theorem rows : (s.M.map (·.2)) = [⟨1, 9, 40, 41, 42⟩, ⟨1, 2, 30, 31, 32⟩, ⟨0, 7, 12, 1, 8⟩, ⟨0, 6, 10, 9, 7⟩, ⟨0, 5, 10, 2, 7⟩] := by kernel_rfl
theorem scan1 (q : Qry) (h : q.table = 0 ∧ q.column = 1 ∧ q.low = 10 ∧ q.high = 11) : Em.scan s q = [⟨0, 5, 10, 2, 7⟩, ⟨0, 6, 10, 9, 7⟩] := by
  unfold Em.scan
  rw [h.1, h.2.1, h.2.2.1, h.2.2.2]
  exact (Em.sel_picked s 1 (inRng 0 1 10 11)).uniq ⟨by rw [rows]; exact List.Perm.swap _ _ _, by simp [ahead2, RowV.value]⟩ ok inRng_t
theorem scan2 : Em.scan s ⟨7, 0, 1, 10, 12, 2, 1⟩ = [⟨0, 5, 10, 2, 7⟩, ⟨0, 6, 10, 9, 7⟩, ⟨0, 7, 12, 1, 8⟩] := by
  unfold Em.scan
  refine (Em.sel_picked s 1 (inRng 0 1 10 12)).uniq ⟨?_, by simp [ahead2, RowV.value]⟩ ok inRng_t
  rw [rows]
  show List.Perm ([⟨0, 5, 10, 2, 7⟩, ⟨0, 6, 10, 9, 7⟩, ⟨0, 7, 12, 1, 8⟩] : List RowV) [⟨0, 7, 12, 1, 8⟩, ⟨0, 6, 10, 9, 7⟩, ⟨0, 5, 10, 2, 7⟩]
  exact (List.reverse_perm _).symm
theorem tab1 : Em.tab s 1 = [⟨1, 2, 30, 31, 32⟩, ⟨1, 9, 40, 41, 42⟩] := by
  unfold Em.tab
  exact (Em.sel_picked s 0 (inTab 1)).uniq ⟨by rw [rows]; exact List.Perm.swap _ _ _, by simp [ahead2, RowV.value]⟩ ok inTab_t
theorem of_a : Em.of s ⟨2, 0, 1, 10, 11, 0, 0⟩ = ⟨[⟨0, 5, 10, 2, 7⟩, ⟨0, 6, 10, 9, 7⟩], 0, false⟩ := by
  unfold Em.of
  rw [scan1 _ ⟨rfl, rfl, rfl, rfl⟩]
  rfl
theorem of_b : Em.of s ⟨3, 0, 1, 10, 11, 0, 0⟩ = ⟨[], 2, false⟩ := by
  unfold Em.of
  rw [scan1 _ ⟨rfl, rfl, rfl, rfl⟩]
  rfl
theorem of_c : Em.of s ⟨4, 0, 1, 10, 11, 2, 0⟩ = ⟨[], 11, false⟩ := by
  unfold Em.of
  rw [scan1 _ ⟨rfl, rfl, rfl, rfl⟩]
  rfl
theorem of_d : Em.of s ⟨5, 0, 1, 10, 11, 2, 0⟩ = ⟨[], 2, true⟩ := by
  unfold Em.of
  rw [scan1 _ ⟨rfl, rfl, rfl, rfl⟩]
  rfl
theorem of_f : Em.of s ⟨6, 0, 1, 10, 11, 2, 0⟩ = ⟨[], 9, true⟩ := by
  unfold Em.of
  rw [scan1 _ ⟨rfl, rfl, rfl, rfl⟩]
  rfl
theorem of_j : Em.of s ⟨7, 0, 1, 10, 12, 2, 1⟩ = ⟨[⟨0, 5, 10, 2, 7⟩, ⟨1, 2, 30, 31, 32⟩, ⟨0, 6, 10, 9, 7⟩, ⟨1, 9, 40, 41, 42⟩], 0, false⟩ := by
  unfold Em.of
  rw [scan2, tab1]
  rfl
theorem recs (u : World) : RecsAt ((u.alloc (.cells #[.int .i64 0, .int .i64 5, .bool false, .int .i64 0, .int .i64 0, .int .i64 0, .bool true, .int .i64 10, .int .i64 2, .int .i64 7, .int .i64 0, .int .i64 6, .bool false, .int .i64 0, .int .i64 0, .int .i64 0, .bool true, .int .i64 10, .int .i64 9, .int .i64 7, .int .i64 0, .int .i64 7, .bool false, .int .i64 0, .int .i64 0, .int .i64 0, .bool true, .int .i64 12, .int .i64 1, .int .i64 8, .int .i64 1, .int .i64 2, .bool false, .int .i64 0, .int .i64 0, .int .i64 0, .bool true, .int .i64 30, .int .i64 31, .int .i64 32, .int .i64 1, .int .i64 9, .bool false, .int .i64 0, .int .i64 0, .int .i64 0, .bool true, .int .i64 40, .int .i64 41, .int .i64 42] 35)).alloc (.cells #[.int .i64 1, .slice (some ⟨u.heap.size, 0, none⟩) 5 5] 38)) (some ⟨u.heap.size + 1, 0, none⟩) [r] := by
  have h1 := (Blk.new u 35 #[.int .i64 0, .int .i64 5, .bool false, .int .i64 0, .int .i64 0, .int .i64 0, .bool true, .int .i64 10, .int .i64 2, .int .i64 7, .int .i64 0, .int .i64 6, .bool false, .int .i64 0, .int .i64 0, .int .i64 0, .bool true, .int .i64 10, .int .i64 9, .int .i64 7, .int .i64 0, .int .i64 7, .bool false, .int .i64 0, .int .i64 0, .int .i64 0, .bool true, .int .i64 12, .int .i64 1, .int .i64 8, .int .i64 1, .int .i64 2, .bool false, .int .i64 0, .int .i64 0, .int .i64 0, .bool true, .int .i64 30, .int .i64 31, .int .i64 32, .int .i64 1, .int .i64 9, .bool false, .int .i64 0, .int .i64 0, .int .i64 0, .bool true, .int .i64 40, .int .i64 41, .int .i64 42]).alloc (.cells #[.int .i64 1, .slice (some ⟨u.heap.size, 0, none⟩) 5 5] 38)
  have h2 := Blk.new (u.alloc (.cells #[.int .i64 0, .int .i64 5, .bool false, .int .i64 0, .int .i64 0, .int .i64 0, .bool true, .int .i64 10, .int .i64 2, .int .i64 7, .int .i64 0, .int .i64 6, .bool false, .int .i64 0, .int .i64 0, .int .i64 0, .bool true, .int .i64 10, .int .i64 9, .int .i64 7, .int .i64 0, .int .i64 7, .bool false, .int .i64 0, .int .i64 0, .int .i64 0, .bool true, .int .i64 12, .int .i64 1, .int .i64 8, .int .i64 1, .int .i64 2, .bool false, .int .i64 0, .int .i64 0, .int .i64 0, .bool true, .int .i64 30, .int .i64 31, .int .i64 32, .int .i64 1, .int .i64 9, .bool false, .int .i64 0, .int .i64 0, .int .i64 0, .bool true, .int .i64 40, .int .i64 41, .int .i64 42] 35)) 38 #[.int .i64 1, .slice (some ⟨u.heap.size, 0, none⟩) 5 5]
  rw [World.size_alloc] at h2
  generalize ((u.alloc (.cells #[.int .i64 0, .int .i64 5, .bool false, .int .i64 0, .int .i64 0, .int .i64 0, .bool true, .int .i64 10, .int .i64 2, .int .i64 7, .int .i64 0, .int .i64 6, .bool false, .int .i64 0, .int .i64 0, .int .i64 0, .bool true, .int .i64 10, .int .i64 9, .int .i64 7, .int .i64 0, .int .i64 7, .bool false, .int .i64 0, .int .i64 0, .int .i64 0, .bool true, .int .i64 12, .int .i64 1, .int .i64 8, .int .i64 1, .int .i64 2, .bool false, .int .i64 0, .int .i64 0, .int .i64 0, .bool true, .int .i64 30, .int .i64 31, .int .i64 32, .int .i64 1, .int .i64 9, .bool false, .int .i64 0, .int .i64 0, .int .i64 0, .bool true, .int .i64 40, .int .i64 41, .int .i64 42] 35)).alloc (.cells #[.int .i64 1, .slice (some ⟨u.heap.size, 0, none⟩) 5 5] 38)) = W at *
  refine ⟨[⟨r, some ⟨u.heap.size, 0, none⟩, 5⟩], AtL.of_blk WRec.len h2 rfl, rfl, ?_⟩
  intro x hx
  simp only [List.mem_cons, List.not_mem_nil, or_false] at hx
  subst hx
  exact ⟨holds_blk rfl h1 rfl, show 5 ≤ 8 by decide⟩
end Sane6
set_option maxRecDepth 100000 in
set_option maxHeartbeats 8000000 in
open Sane6 in
theorem sane6_any (w : World) : Calls Try.prog 4 #[] w fun e w' => e = .returned (.bool true) ∧ Fr [] w w' := by
  have FU := Lib.hid (Fr.refl [] w)
  have HSND := Lib.hid Sane6.sound
  go_enter Try.func4, Try.ntmps4
  go_upto_region 2 with (first
    | (go_at_call 12; refine (put6_any _ _ _ _ _ _).mono ?_; rintro e u ⟨rfl, fu⟩; replace FU := Lib.hid (FU.out.trans fu); clear fu)
    | (go_at_call 8; refine (sat_ok (some ⟨u.heap.size + 1, 0, none⟩) 1 [r] 1 _ (Sane6.recs u) (by decide) (by decide) (by decide) Sane6.fits).mono ?_; rintro e w1 ⟨b, m, rfl, hst, f1, -, -⟩; have HST : Hid (StaAt w1 b m s) := Lib.hid hst; have FW := Lib.hid (((FU.out.alloc _).alloc _).trans f1); clear hst f1))
  go_upto_region 5 with (fail)
  have SN0 : Hid (Sn w1 (w1.alloc (.cells #[.int .i64 2, .int .i64 0, .int .i64 1, .int .i64 10, .int .i64 11, .int .i64 0, .int .i64 0] 29)) w1.heap.size ⟨2, 0, 1, 10, 11, 0, 0⟩) := Lib.hid ⟨(Fr.refl _ _).alloc _, QAt.new w1 ⟨2, 0, 1, 10, 11, 0, 0⟩, Nat.le_refl _⟩
  generalize hwa : w1.alloc (.cells #[.int .i64 2, .int .i64 0, .int .i64 1, .int .i64 10, .int .i64 11, .int .i64 0, .int .i64 0] 29) = wa0 at *
  clear hwa
  generalize w1.heap.size = gq at *
  have c0 : wa0.cell? ⟨gq, 0, none⟩ = some (.int .i64 2) := SN0.out.q.c0
  have c1 : wa0.cell? ⟨gq, 1, none⟩ = some (.int .i64 0) := SN0.out.q.c1
  have c2 : wa0.cell? ⟨gq, 2, none⟩ = some (.int .i64 1) := SN0.out.q.c2
  have c3 : wa0.cell? ⟨gq, 3, none⟩ = some (.int .i64 10) := SN0.out.q.c3
  have c4 : wa0.cell? ⟨gq, 4, none⟩ = some (.int .i64 11) := SN0.out.q.c4
  have c5 : wa0.cell? ⟨gq, 5, none⟩ = some (.int .i64 0) := SN0.out.q.c5
  have c6 : wa0.cell? ⟨gq, 6, none⟩ = some (.int .i64 0) := SN0.out.q.c6
  go_upto_region 6 with (go_at_call 10; refine (eof_is (HST.out.fr0 SN0.out.fr) HSND.out (q := ⟨2, 0, 1, 10, 11, 0, 0⟩) (by kernel_rfl) Sane6.of_a).mono ?_; rintro e wx ⟨Aa, na, ka, rfl, hna, hl, fx, had⟩; have HNa := Lib.hid hna; have FX := Lib.hid fx; have La := Lib.hid hl; have ND := Lib.hid had; clear fx hna hl had)
  clear c0 c1 c2 c3 c4 c5 c6
  have FZ := FX.out.alloc (.cells #[.slice Aa na ka, .int .i64 0, .bool false] 46)
  have La := Lib.hid (La.out.fr0 ((Fr.refl [] wx).alloc (.cells #[.slice Aa na ka, .int .i64 0, .bool false] 46)))
  have Na : Hid (∀ ad, Aa = some ad → gq < ad.block) := Lib.hid (fun ad e => Nat.lt_of_lt_of_le (Blk.lt SN0.out.q) (ND.out ad e))
  have Ra := Lib.hid (RsAt.new wx (.slice Aa na ka) 0 false)
  have SN1 := Lib.hid (SN0.out.fr0 FZ)
  clear FZ FX ND
  generalize hwz : wx.alloc (.cells #[.slice Aa na ka, .int .i64 0, .bool false] 46) = wa1 at *
  clear hwz SN0
  generalize wx.heap.size = ga at *
  have z0 := SN1.out.q.z 0
  have c0 : wa1.cell? ⟨gq, 0, none⟩ = some (.int .i64 2) := SN1.out.q.c0
  go_upto_region 7 with (fail)
  clear z0 c0
  have FZ : Fr [gq] wa1 (wa1.setCell ⟨gq, 0, none⟩ (.int .i64 3)) := frq_set
  have Ra := Lib.hid (Ra.out.frq SN1.out.q FZ)
  have La := Lib.hid (AtL.frq La.out Na.out FZ)
  have SN2 : Hid (Sn w1 (wa1.setCell ⟨gq, 0, none⟩ (.int .i64 3)) gq ⟨3, 0, 1, 10, 11, 0, 0⟩) := Lib.hid (SN1.out.set0 3)
  clear FZ
  generalize hwz : wa1.setCell ⟨gq, 0, none⟩ (.int .i64 3) = wq2 at *
  clear hwz SN1
  have c0 : wq2.cell? ⟨gq, 0, none⟩ = some (.int .i64 3) := SN2.out.q.c0
  have c1 : wq2.cell? ⟨gq, 1, none⟩ = some (.int .i64 0) := SN2.out.q.c1
  have c2 : wq2.cell? ⟨gq, 2, none⟩ = some (.int .i64 1) := SN2.out.q.c2
  have c3 : wq2.cell? ⟨gq, 3, none⟩ = some (.int .i64 10) := SN2.out.q.c3
  have c4 : wq2.cell? ⟨gq, 4, none⟩ = some (.int .i64 11) := SN2.out.q.c4
  have c5 : wq2.cell? ⟨gq, 5, none⟩ = some (.int .i64 0) := SN2.out.q.c5
  have c6 : wq2.cell? ⟨gq, 6, none⟩ = some (.int .i64 0) := SN2.out.q.c6
  go_upto_region 8 with (go_at_call 10; refine (eof_is (HST.out.fr0 SN2.out.fr) HSND.out (q := ⟨3, 0, 1, 10, 11, 0, 0⟩) (by kernel_rfl) Sane6.of_b).mono ?_; rintro e wx ⟨Ab, nb, kb, rfl, hnb, hl, fx, had⟩; have HNb := Lib.hid hnb; have FX := Lib.hid fx; have Lb := Lib.hid hl; have ND := Lib.hid had; clear fx hnb hl had)
  clear c0 c1 c2 c3 c4 c5 c6
  have FZ := FX.out.alloc (.cells #[.slice Ab nb kb, .int .i64 2, .bool false] 46)
  have Ra := Lib.hid (Ra.out.fr FZ (by simp))
  have La := Lib.hid (La.out.fr0 FZ)
  have Rb := Lib.hid (RsAt.new wx (.slice Ab nb kb) 2 false)
  have SN3 := Lib.hid (SN2.out.fr0 FZ)
  clear FZ FX ND
  generalize hwz : wx.alloc (.cells #[.slice Ab nb kb, .int .i64 2, .bool false] 46) = wb3 at *
  clear hwz SN2
  generalize wx.heap.size = gb at *
  have z0 := SN3.out.q.z 0
  have c0 : wb3.cell? ⟨gq, 0, none⟩ = some (.int .i64 3) := SN3.out.q.c0
  go_upto_region 9 with (fail)
  clear z0 c0
  have FZ : Fr [gq] wb3 (wb3.setCell ⟨gq, 0, none⟩ (.int .i64 4)) := frq_set
  have Ra := Lib.hid (Ra.out.frq SN3.out.q FZ)
  have La := Lib.hid (AtL.frq La.out Na.out FZ)
  have Rb := Lib.hid (Rb.out.frq SN3.out.q FZ)
  have SN4 : Hid (Sn w1 (wb3.setCell ⟨gq, 0, none⟩ (.int .i64 4)) gq ⟨4, 0, 1, 10, 11, 0, 0⟩) := Lib.hid (SN3.out.set0 4)
  clear FZ
  generalize hwz : wb3.setCell ⟨gq, 0, none⟩ (.int .i64 4) = wq4 at *
  clear hwz SN3
  have z5 := SN4.out.q.z 5
  have c5 : wq4.cell? ⟨gq, 5, none⟩ = some (.int .i64 0) := SN4.out.q.c5
  go_upto_region 10 with (fail)
  clear z5 c5
  have FZ : Fr [gq] wq4 (wq4.setCell ⟨gq, 5, none⟩ (.int .i64 2)) := frq_set
  have Ra := Lib.hid (Ra.out.frq SN4.out.q FZ)
  have La := Lib.hid (AtL.frq La.out Na.out FZ)
  have Rb := Lib.hid (Rb.out.frq SN4.out.q FZ)
  have SN5 : Hid (Sn w1 (wq4.setCell ⟨gq, 5, none⟩ (.int .i64 2)) gq ⟨4, 0, 1, 10, 11, 2, 0⟩) := Lib.hid (SN4.out.set5 2)
  clear FZ
  generalize hwz : wq4.setCell ⟨gq, 5, none⟩ (.int .i64 2) = wq5 at *
  clear hwz SN4
  have c0 : wq5.cell? ⟨gq, 0, none⟩ = some (.int .i64 4) := SN5.out.q.c0
  have c1 : wq5.cell? ⟨gq, 1, none⟩ = some (.int .i64 0) := SN5.out.q.c1
  have c2 : wq5.cell? ⟨gq, 2, none⟩ = some (.int .i64 1) := SN5.out.q.c2
  have c3 : wq5.cell? ⟨gq, 3, none⟩ = some (.int .i64 10) := SN5.out.q.c3
  have c4 : wq5.cell? ⟨gq, 4, none⟩ = some (.int .i64 11) := SN5.out.q.c4
  have c5 : wq5.cell? ⟨gq, 5, none⟩ = some (.int .i64 2) := SN5.out.q.c5
  have c6 : wq5.cell? ⟨gq, 6, none⟩ = some (.int .i64 0) := SN5.out.q.c6
  go_upto_region 11 with (go_at_call 10; refine (eof_is (HST.out.fr0 SN5.out.fr) HSND.out (q := ⟨4, 0, 1, 10, 11, 2, 0⟩) (by kernel_rfl) Sane6.of_c).mono ?_; rintro e wx ⟨Ac, nc, kc, rfl, hnc, hl, fx, had⟩; have HNc := Lib.hid hnc; have FX := Lib.hid fx; have Lc := Lib.hid hl; have ND := Lib.hid had; clear fx hnc hl had)
  clear c0 c1 c2 c3 c4 c5 c6
  have FZ := FX.out.alloc (.cells #[.slice Ac nc kc, .int .i64 11, .bool false] 46)
  have Ra := Lib.hid (Ra.out.fr FZ (by simp))
  have La := Lib.hid (La.out.fr0 FZ)
  have Rb := Lib.hid (Rb.out.fr FZ (by simp))
  have Rc := Lib.hid (RsAt.new wx (.slice Ac nc kc) 11 false)
  have SN6 := Lib.hid (SN5.out.fr0 FZ)
  clear FZ FX ND
  generalize hwz : wx.alloc (.cells #[.slice Ac nc kc, .int .i64 11, .bool false] 46) = wc6 at *
  clear hwz SN5
  generalize wx.heap.size = gc at *
  have z0 := SN6.out.q.z 0
  have c0 : wc6.cell? ⟨gq, 0, none⟩ = some (.int .i64 4) := SN6.out.q.c0
  go_upto_region 12 with (fail)
  clear z0 c0
  have FZ : Fr [gq] wc6 (wc6.setCell ⟨gq, 0, none⟩ (.int .i64 5)) := frq_set
  have Ra := Lib.hid (Ra.out.frq SN6.out.q FZ)
  have La := Lib.hid (AtL.frq La.out Na.out FZ)
  have Rb := Lib.hid (Rb.out.frq SN6.out.q FZ)
  have Rc := Lib.hid (Rc.out.frq SN6.out.q FZ)
  have SN7 : Hid (Sn w1 (wc6.setCell ⟨gq, 0, none⟩ (.int .i64 5)) gq ⟨5, 0, 1, 10, 11, 2, 0⟩) := Lib.hid (SN6.out.set0 5)
  clear FZ
  generalize hwz : wc6.setCell ⟨gq, 0, none⟩ (.int .i64 5) = wq7 at *
  clear hwz SN6
  have c0 : wq7.cell? ⟨gq, 0, none⟩ = some (.int .i64 5) := SN7.out.q.c0
  have c1 : wq7.cell? ⟨gq, 1, none⟩ = some (.int .i64 0) := SN7.out.q.c1
  have c2 : wq7.cell? ⟨gq, 2, none⟩ = some (.int .i64 1) := SN7.out.q.c2
  have c3 : wq7.cell? ⟨gq, 3, none⟩ = some (.int .i64 10) := SN7.out.q.c3
  have c4 : wq7.cell? ⟨gq, 4, none⟩ = some (.int .i64 11) := SN7.out.q.c4
  have c5 : wq7.cell? ⟨gq, 5, none⟩ = some (.int .i64 2) := SN7.out.q.c5
  have c6 : wq7.cell? ⟨gq, 6, none⟩ = some (.int .i64 0) := SN7.out.q.c6
  go_upto_region 13 with (go_at_call 10; refine (eof_is (HST.out.fr0 SN7.out.fr) HSND.out (q := ⟨5, 0, 1, 10, 11, 2, 0⟩) (by kernel_rfl) Sane6.of_d).mono ?_; rintro e wx ⟨Ad, nd, kd, rfl, hnd, hl, fx, had⟩; have HNd := Lib.hid hnd; have FX := Lib.hid fx; have Ld := Lib.hid hl; have ND := Lib.hid had; clear fx hnd hl had)
  clear c0 c1 c2 c3 c4 c5 c6
  have FZ := FX.out.alloc (.cells #[.slice Ad nd kd, .int .i64 2, .bool true] 46)
  have Ra := Lib.hid (Ra.out.fr FZ (by simp))
  have La := Lib.hid (La.out.fr0 FZ)
  have Rb := Lib.hid (Rb.out.fr FZ (by simp))
  have Rc := Lib.hid (Rc.out.fr FZ (by simp))
  have Rd := Lib.hid (RsAt.new wx (.slice Ad nd kd) 2 true)
  have SN8 := Lib.hid (SN7.out.fr0 FZ)
  clear FZ FX ND
  generalize hwz : wx.alloc (.cells #[.slice Ad nd kd, .int .i64 2, .bool true] 46) = wd8 at *
  clear hwz SN7
  generalize wx.heap.size = gd at *
  have z0 := SN8.out.q.z 0
  have c0 : wd8.cell? ⟨gq, 0, none⟩ = some (.int .i64 5) := SN8.out.q.c0
  go_upto_region 14 with (fail)
  clear z0 c0
  have FZ : Fr [gq] wd8 (wd8.setCell ⟨gq, 0, none⟩ (.int .i64 6)) := frq_set
  have Ra := Lib.hid (Ra.out.frq SN8.out.q FZ)
  have La := Lib.hid (AtL.frq La.out Na.out FZ)
  have Rb := Lib.hid (Rb.out.frq SN8.out.q FZ)
  have Rc := Lib.hid (Rc.out.frq SN8.out.q FZ)
  have Rd := Lib.hid (Rd.out.frq SN8.out.q FZ)
  have SN9 : Hid (Sn w1 (wd8.setCell ⟨gq, 0, none⟩ (.int .i64 6)) gq ⟨6, 0, 1, 10, 11, 2, 0⟩) := Lib.hid (SN8.out.set0 6)
  clear FZ
  generalize hwz : wd8.setCell ⟨gq, 0, none⟩ (.int .i64 6) = wq9 at *
  clear hwz SN8
  have c0 : wq9.cell? ⟨gq, 0, none⟩ = some (.int .i64 6) := SN9.out.q.c0
  have c1 : wq9.cell? ⟨gq, 1, none⟩ = some (.int .i64 0) := SN9.out.q.c1
  have c2 : wq9.cell? ⟨gq, 2, none⟩ = some (.int .i64 1) := SN9.out.q.c2
  have c3 : wq9.cell? ⟨gq, 3, none⟩ = some (.int .i64 10) := SN9.out.q.c3
  have c4 : wq9.cell? ⟨gq, 4, none⟩ = some (.int .i64 11) := SN9.out.q.c4
  have c5 : wq9.cell? ⟨gq, 5, none⟩ = some (.int .i64 2) := SN9.out.q.c5
  have c6 : wq9.cell? ⟨gq, 6, none⟩ = some (.int .i64 0) := SN9.out.q.c6
  go_upto_region 15 with (go_at_call 10; refine (eof_is (HST.out.fr0 SN9.out.fr) HSND.out (q := ⟨6, 0, 1, 10, 11, 2, 0⟩) (by kernel_rfl) Sane6.of_f).mono ?_; rintro e wx ⟨Af, nf, kf, rfl, hnf, hl, fx, had⟩; have HNf := Lib.hid hnf; have FX := Lib.hid fx; have Lf := Lib.hid hl; have ND := Lib.hid had; clear fx hnf hl had)
  clear c0 c1 c2 c3 c4 c5 c6
  have FZ := FX.out.alloc (.cells #[.slice Af nf kf, .int .i64 9, .bool true] 46)
  have Ra := Lib.hid (Ra.out.fr FZ (by simp))
  have La := Lib.hid (La.out.fr0 FZ)
  have Rb := Lib.hid (Rb.out.fr FZ (by simp))
  have Rc := Lib.hid (Rc.out.fr FZ (by simp))
  have Rd := Lib.hid (Rd.out.fr FZ (by simp))
  have Rf := Lib.hid (RsAt.new wx (.slice Af nf kf) 9 true)
  have SN10 := Lib.hid (SN9.out.fr0 FZ)
  clear FZ FX ND
  generalize hwz : wx.alloc (.cells #[.slice Af nf kf, .int .i64 9, .bool true] 46) = wf10 at *
  clear hwz SN9
  generalize wx.heap.size = gf at *
  have c0 : wf10.cell? ⟨gq, 0, none⟩ = some (.int .i64 6) := SN10.out.q.c0
  have c1 : wf10.cell? ⟨gq, 1, none⟩ = some (.int .i64 0) := SN10.out.q.c1
  have c2 : wf10.cell? ⟨gq, 2, none⟩ = some (.int .i64 1) := SN10.out.q.c2
  have c3 : wf10.cell? ⟨gq, 3, none⟩ = some (.int .i64 10) := SN10.out.q.c3
  have c4 : wf10.cell? ⟨gq, 4, none⟩ = some (.int .i64 11) := SN10.out.q.c4
  have c5 : wf10.cell? ⟨gq, 5, none⟩ = some (.int .i64 2) := SN10.out.q.c5
  have c6 : wf10.cell? ⟨gq, 6, none⟩ = some (.int .i64 0) := SN10.out.q.c6
  go_upto_region 16 with (go_at_call 10; refine (eof_is (HST.out.fr0 SN10.out.fr) HSND.out (q := ⟨7, 0, 1, 10, 12, 2, 1⟩) (by kernel_rfl) Sane6.of_j).mono ?_; rintro e wx ⟨Aj, nj, kj, rfl, hnj, hl, fx, had⟩; have HNj := Lib.hid hnj; have FX := Lib.hid fx; have Lj := Lib.hid hl; have ND := Lib.hid had; clear fx hnj hl had)
  clear c0 c1 c2 c3 c4 c5 c6
  have FZ := FX.out.alloc (.cells #[.slice Aj nj kj, .int .i64 0, .bool false] 46)
  have Ra := Lib.hid (Ra.out.fr FZ (by simp))
  have La := Lib.hid (La.out.fr0 FZ)
  have Rb := Lib.hid (Rb.out.fr FZ (by simp))
  have Rc := Lib.hid (Rc.out.fr FZ (by simp))
  have Rd := Lib.hid (Rd.out.fr FZ (by simp))
  have Rf := Lib.hid (Rf.out.fr FZ (by simp))
  have Lj := Lib.hid (Lj.out.fr0 ((Fr.refl [] wx).alloc (.cells #[.slice Aj nj kj, .int .i64 0, .bool false] 46)))
  have Nj : Hid (∀ ad, Aj = some ad → gq < ad.block) := Lib.hid (fun ad e => Nat.lt_of_lt_of_le (Blk.lt SN10.out.q) (ND.out ad e))
  have Rj := Lib.hid (RsAt.new wx (.slice Aj nj kj) 0 false)
  have SN11 := Lib.hid (SN10.out.fr0 FZ)
  clear FZ FX ND
  generalize hwz : wx.alloc (.cells #[.slice Aj nj kj, .int .i64 0, .bool false] 46) = wj11 at *
  clear hwz SN10
  generalize wx.heap.size = gj at *
  have c0 : wj11.cell? ⟨gq, 0, none⟩ = some (.int .i64 6) := SN11.out.q.c0
  have c1 : wj11.cell? ⟨gq, 1, none⟩ = some (.int .i64 0) := SN11.out.q.c1
  have c2 : wj11.cell? ⟨gq, 2, none⟩ = some (.int .i64 1) := SN11.out.q.c2
  have c3 : wj11.cell? ⟨gq, 3, none⟩ = some (.int .i64 10) := SN11.out.q.c3
  have c4 : wj11.cell? ⟨gq, 4, none⟩ = some (.int .i64 11) := SN11.out.q.c4
  have c5 : wj11.cell? ⟨gq, 5, none⟩ = some (.int .i64 2) := SN11.out.q.c5
  have c6 : wj11.cell? ⟨gq, 6, none⟩ = some (.int .i64 0) := SN11.out.q.c6
  go_upto_region 17 with (go_at_call 10; refine (eof_not (q := ⟨0, 0, 0, 0, 0, 0, 0⟩) (HST.out.fr0 SN11.out.fr) HSND.out (by kernel_rfl)).mono ?_; rintro e wx ⟨Ah, nh, kh, rfl, hnh, fx⟩; have HNh := Lib.hid hnh; have FX := Lib.hid fx; clear fx hnh)
  clear c0 c1 c2 c3 c4 c5 c6
  have FZ := FX.out.alloc (.cells #[.slice Ah nh kh, .int .i64 0, .bool false] 46)
  have Ra := Lib.hid (Ra.out.fr FZ (by simp))
  have La := Lib.hid (La.out.fr0 FZ)
  have Rb := Lib.hid (Rb.out.fr FZ (by simp))
  have Rc := Lib.hid (Rc.out.fr FZ (by simp))
  have Rd := Lib.hid (Rd.out.fr FZ (by simp))
  have Rf := Lib.hid (Rf.out.fr FZ (by simp))
  have Rj := Lib.hid (Rj.out.fr FZ (by simp))
  have Lj := Lib.hid (Lj.out.fr0 FZ)
  have Rh := Lib.hid (RsAt.new wx (.slice Ah nh kh) 0 false)
  have SN12 := Lib.hid (SN11.out.fr0 FZ)
  clear FZ FX 
  generalize hwz : wx.alloc (.cells #[.slice Ah nh kh, .int .i64 0, .bool false] 46) = wh12 at *
  clear hwz SN11
  generalize wx.heap.size = gh at *
  have c0 : wh12.cell? ⟨gq, 0, none⟩ = some (.int .i64 6) := SN12.out.q.c0
  have c1 : wh12.cell? ⟨gq, 1, none⟩ = some (.int .i64 0) := SN12.out.q.c1
  have c2 : wh12.cell? ⟨gq, 2, none⟩ = some (.int .i64 1) := SN12.out.q.c2
  have c3 : wh12.cell? ⟨gq, 3, none⟩ = some (.int .i64 10) := SN12.out.q.c3
  have c4 : wh12.cell? ⟨gq, 4, none⟩ = some (.int .i64 11) := SN12.out.q.c4
  have c5 : wh12.cell? ⟨gq, 5, none⟩ = some (.int .i64 2) := SN12.out.q.c5
  have c6 : wh12.cell? ⟨gq, 6, none⟩ = some (.int .i64 0) := SN12.out.q.c6
  go_upto_region 18 with (go_at_call 10; refine (eof_nil ⟨6, 0, 1, 10, 11, 2, 0⟩ _).mono ?_; rintro e wx ⟨rfl, fx⟩; have FX := Lib.hid fx; clear fx)
  clear c0 c1 c2 c3 c4 c5 c6
  have FZ := FX.out.alloc (.cells #[.slice none 0 0, .int .i64 0, .bool false] 46)
  have Ra := Lib.hid (Ra.out.fr FZ (by simp))
  have La := Lib.hid (La.out.fr0 FZ)
  have Rb := Lib.hid (Rb.out.fr FZ (by simp))
  have Rc := Lib.hid (Rc.out.fr FZ (by simp))
  have Rd := Lib.hid (Rd.out.fr FZ (by simp))
  have Rf := Lib.hid (Rf.out.fr FZ (by simp))
  have Rj := Lib.hid (Rj.out.fr FZ (by simp))
  have Lj := Lib.hid (Lj.out.fr0 FZ)
  have Rh := Lib.hid (Rh.out.fr FZ (by simp))
  have Ri := Lib.hid (RsAt.new wx (.slice none 0 0) 0 false)
  have SN13 := Lib.hid (SN12.out.fr0 FZ)
  clear FZ FX 
  generalize hwz : wx.alloc (.cells #[.slice none 0 0, .int .i64 0, .bool false] 46) = wi13 at *
  clear hwz SN12
  generalize wx.heap.size = gi at *
  have HFE := Lib.hid (FW.out.trans SN13.out.fr)
  obtain ⟨ba, oa, hba, hbl, hca⟩ := La.out (by decide)
  obtain ⟨bj, oj, hbj, hjl, hcj⟩ := Lj.out (by decide)
  have a01 : wi13.cell? ⟨ba, oa + 5 + 1, none⟩ = some (.int .i64 6) := hca 1 (by decide) 1 (by decide)
  have j00 : wi13.cell? ⟨bj, oj + 1, none⟩ = some (.int .i64 5) := hcj 0 (by decide) 1 (by decide)
  have j01 : wi13.cell? ⟨bj, oj + 5 + 1, none⟩ = some (.int .i64 2) := hcj 1 (by decide) 1 (by decide)
  have j03 : wi13.cell? ⟨bj, oj + 15 + 1, none⟩ = some (.int .i64 9) := hcj 3 (by decide) 1 (by decide)
  have hna : na = 2 := HNa.out
  have hnj : nj = 4 := HNj.out
  have hnb : nb = 0 := HNb.out
  subst hba hbj hna hnj hnb
  have a0 := Ra.out.c0
  have a1 := Ra.out.c1
  have a2 := Ra.out.c2
  have b0 := Rb.out.c0
  have b1 := Rb.out.c1
  have b2 := Rb.out.c2
  have c0 := Rc.out.c0
  have c1 := Rc.out.c1
  have c2 := Rc.out.c2
  have d0 := Rd.out.c0
  have d1 := Rd.out.c1
  have d2 := Rd.out.c2
  have f0 := Rf.out.c0
  have f1 := Rf.out.c1
  have f2 := Rf.out.c2
  have j0 := Rj.out.c0
  have j1 := Rj.out.c1
  have j2 := Rj.out.c2
  have h0 := Rh.out.c0
  have h1 := Rh.out.c1
  have h2 := Rh.out.c2
  have i0 := Ri.out.c0
  have i1 := Ri.out.c1
  have i2 := Ri.out.c2
  clear hca hcj hbl hjl
  have HSZ : Hid (∀ W : World, Calls Try.prog 13 #[.agg #[.slice (some ⟨bj, oj, none⟩) 4 kj, .int .i64 0, .bool false]] W fun e w' => e = .returned (.int .i64 5) ∧ Fr [] W w') := Lib.hid (fun W => esize_any (n := 4) (some ⟨bj, oj, none⟩) kj 0 false W (by decide))
  have HS1 : Hid (∀ W : World, Fr [] wi13 W → Calls Try.prog 14 #[.agg #[.slice (some ⟨ba, oa, none⟩) 2 ka, .int .i64 0, .bool false], .agg #[.slice (some ⟨ba, oa, none⟩) 2 ka, .int .i64 0, .bool false]] W fun e w' => e = .returned (.bool true) ∧ Fr [] W w') := Lib.hid (fun W hf => by
    have h := esame_any (some ⟨ba, oa, none⟩) 2 ka 0 false [⟨0, 5, 10, 2, 7⟩, ⟨0, 6, 10, 9, 7⟩] (some ⟨ba, oa, none⟩) 2 ka 0 false [⟨0, 5, 10, 2, 7⟩, ⟨0, 6, 10, 9, 7⟩] W (La.out.fr0 hf) rfl (La.out.fr0 hf) rfl (by decide) (by decide)
    rwa [show decide ((⟨[⟨0, 5, 10, 2, 7⟩, ⟨0, 6, 10, 9, 7⟩], 0, false⟩ : Res) = ⟨[⟨0, 5, 10, 2, 7⟩, ⟨0, 6, 10, 9, 7⟩], 0, false⟩) = true from by decide] at h)
  have HS2 : Hid (∀ W : World, Fr [] wi13 W → Calls Try.prog 14 #[.agg #[.slice (some ⟨ba, oa, none⟩) 2 ka, .int .i64 0, .bool false], .agg #[.slice Ab 0 kb, .int .i64 2, .bool false]] W fun e w' => e = .returned (.bool false) ∧ Fr [] W w') := Lib.hid (fun W hf => by
    have h := esame_any (some ⟨ba, oa, none⟩) 2 ka 0 false [⟨0, 5, 10, 2, 7⟩, ⟨0, 6, 10, 9, 7⟩] Ab 0 kb 2 false [] W (La.out.fr0 hf) rfl (fun h0 => absurd h0 (by simp)) rfl (by decide) (by decide)
    rwa [show decide ((⟨[⟨0, 5, 10, 2, 7⟩, ⟨0, 6, 10, 9, 7⟩], 0, false⟩ : Res) = ⟨[], 2, false⟩) = false from by decide] at h)
  go_upto_region 19 with (fail)
  clear La Lj HST FU FW
  go_wp2_with (first
    | (go_at_call 13; refine (HSZ.out _).mono ?_; rintro e wy ⟨rfl, fy⟩; have RA1 := Lib.hid (Ra.out.fr fy (by simp)); have RB1 := Lib.hid (Rb.out.fr fy (by simp)); have a0 := RA1.out.c0; have a1 := RA1.out.c1; have a2 := RA1.out.c2; have FY := Lib.hid fy; clear fy)
    | (go_at_call 14; (with_reducible refine (HS1.out _ FY.out).mono ?_); rintro e wv ⟨rfl, fv⟩; have RA2 := Lib.hid (RA1.out.fr fv (by simp)); have RB2 := Lib.hid (RB1.out.fr fv (by simp)); have a0 := RA2.out.c0; have a1 := RA2.out.c1; have a2 := RA2.out.c2; have b0 := RB2.out.c0; have b1 := RB2.out.c1; have b2 := RB2.out.c2; have FV := Lib.hid (FY.out.trans fv); clear fv)
    | (go_at_call 14; (with_reducible refine (HS2.out _ FV.out).mono ?_); rintro e wu ⟨rfl, fu⟩; have FE := Lib.hid (FV.out.trans fu); clear fu))
  go_ret
  exact ⟨rfl, HFE.out.trans FE.out⟩
end Go.Proofs.Ythiaaminkfkjpaa
namespace Go.Proofs.Ythiaaminkfkjpaa
open Go.RowKit Go.WideShapes Go.ChangeShapes

set_option maxRecDepth 100000 in
theorem fourCells : Try.prog.cellsOf 23 = 4 := by kernel_rfl
set_option maxRecDepth 100000 in
theorem fourInt : Try.prog.cellsOf 3 = 1 := by kernel_rfl
set_option maxRecDepth 100000 in
theorem open_fours {H : Type} {enc : TypeId × Value → H} {W : World} {base : Nat} {v : Value} {d : DataW H} {p : List MemPlace} (hv : Value.okWide Try.prog W .any base 22 v)
    (h : DataW.Trod enc Try.prog W 0 (fun _ => true) true 22 v d p) :
    ∃ A n cap, v = .slice A n cap ∧ n ≤ cap ∧ cap ≤ maxLen ∧ (n = 0 ∨ ∃ b off, A = some ⟨b, off, none⟩ ∧ FourAt W b off n) := by
  obtain ⟨a0, len, cap, rfl⟩ := okWide_slice Try.underlying22 hv
  obtain ⟨fuel, hf⟩ := h
  rcases Go.Deep.open_slice Try.underlying22 hf with ⟨hcs, hx⟩ | ⟨a, len', cap', m, n, D, Pl, hcs, _, hl, hm, hmm, hx, hi⟩
  · simp [Value.cells] at hcs
    obtain ⟨rfl, rfl, rfl⟩ := hcs
    exact ⟨_, _, _, rfl, Nat.le_refl _, by simp [maxLen], .inl rfl⟩
  · simp [Value.cells] at hcs
    obtain ⟨rfl, rfl, rfl⟩ := hcs
    simp only [if_true] at hmm
    subst hmm
    refine ⟨_, _, _, rfl, hl, hm, ?_⟩
    rcases Nat.eq_zero_or_pos len with h0 | h0
    · exact .inl h0
    · right
      have each : ∀ i, i < len → ∀ j, j < 4 → ∃ z, W.cell? ((a.add (i * 4)).add j) = some (.int .i64 z) ∧ okI z := fun i hil j hj => by
        obtain ⟨cs', hc, ht⟩ := hi i (by omega)
        rw [fourCells] at hc
        obtain ⟨xs, q, _, _, hlen, hxl, hat⟩ := DataW.trod_array Try.underlying23 ht
        obtain ⟨_, hcl, hcell⟩ := World.cells?_some hc
        have h1 := hat j hj
        rw [fourInt] at h1
        have hjl : j < cs'.length := by omega
        have hone : (cs'.drop (j * 1)).take 1 = [cs'[j]] := by
          rw [Nat.mul_one, List.drop_eq_getElem_cons hjl]
          rfl
        rw [hone, List.getElem?_eq_getElem (by omega)] at h1
        obtain ⟨z, hz, _, hw⟩ := DataW.trod_int Try.underlying3 h1
        have h2 := hcell j hj
        rw [List.getElem?_eq_getElem hjl] at h2
        injection hz with hz
        exact ⟨z, by rw [h2, hz], hw⟩
      obtain ⟨b, off, spot⟩ := a
      obtain ⟨z0, hz0, _⟩ := each 0 h0 0 (by decide)
      have hspot : spot = none := by simpa [Addr.add] using World.cell?_spot hz0
      subst hspot
      have hadd : ∀ o j, (⟨b, o, none⟩ : Addr).add j = ⟨b, o + j, none⟩ := fun o j => by unfold Addr.add; split <;> simp_all
      refine ⟨b, off, rfl, fun i hil j hj => ?_, ?_⟩
      · have h3 := each i hil j hj
        rwa [hadd, hadd] at h3
      · have h4 := World.block_lt_of_cell? W _ hz0
        simpa [Addr.add] using h4
set_option maxRecDepth 100000 in
theorem open_four {H : Type} {enc : TypeId × Value → H} {W : World} {base : Nat} {v : Value} {d : DataW H} {p : List MemPlace} (hv : Value.okWide Try.prog W .any base 23 v)
    (h : DataW.Trod enc Try.prog W 0 (fun _ => true) true 23 v d p) :
    ∃ a b c e, v = .agg #[.int .i64 a, .int .i64 b, .int .i64 c, .int .i64 e] ∧ okI a ∧ okI b ∧ okI c ∧ okI e := by
  unfold Value.okWide at hv
  rw [Try.underlying23] at hv
  obtain ⟨cs, rfl, hs, _⟩ := hv
  rw [fourCells] at hs
  obtain ⟨c0, c1, c2, c3, rfl⟩ : ∃ c0 c1 c2 c3, cs = #[c0, c1, c2, c3] := by
    obtain ⟨l⟩ := cs
    match l, hs with
    | [c0, c1, c2, c3], _ => exact ⟨c0, c1, c2, c3, rfl⟩
  obtain ⟨fuel, hf⟩ := h
  obtain ⟨y0, y1, y2, y3, n, _, h0, h1, h2, h3⟩ := trod_array4 Try.underlying23 fourInt hf
  obtain ⟨z0, e0, _, w0⟩ := DataW.trod_int Try.underlying3 h0
  obtain ⟨z1, e1, _, w1⟩ := DataW.trod_int Try.underlying3 h1
  obtain ⟨z2, e2, _, w2⟩ := DataW.trod_int Try.underlying3 h2
  obtain ⟨z3, e3, _, w3⟩ := DataW.trod_int Try.underlying3 h3
  injection e0 with e0
  injection e1 with e1
  injection e2 with e2
  injection e3 with e3
  subst e0 e1 e2 e3
  exact ⟨z0, z1, z2, z3, rfl, w0, w1, w2, w3⟩
end Go.Proofs.Ythiaaminkfkjpaa
namespace Go.Proofs.Ythiaaminkfkjpaa
open Go.RowKit

/-- The law's list of fours. -/
def Fours (w : World) (A : Option Addr) (n : Nat) : Prop := n = 0 ∨ ∃ bx ox, A = some ⟨bx, ox, none⟩ ∧ FourAt w bx ox n
theorem Fours.fr0 {w w' : World} {A : Option Addr} {n : Nat} (h : Fours w A n) (hf : Fr [] w w') : Fours w' A n := by
  rcases h with h | ⟨bx, ox, e, h⟩
  · exact .inl h
  · exact .inr ⟨bx, ox, e, h.fr0 hf⟩
theorem Sn.set2 {w1 wc : World} {gq : Nat} {q : Qry} (h : Sn w1 wc gq q) (v : Int) : Sn w1 (wc.setCell ⟨gq, 2, none⟩ (.int .i64 v)) gq ⟨q.kind, q.table, v, q.low, q.high, q.by_, q.other⟩ := ⟨h.fr.setCell (.inr h.lt) _, Blk.set_ h.q 2 _, h.lt⟩
theorem Sn.set3 {w1 wc : World} {gq : Nat} {q : Qry} (h : Sn w1 wc gq q) (v : Int) : Sn w1 (wc.setCell ⟨gq, 3, none⟩ (.int .i64 v)) gq ⟨q.kind, q.table, q.column, v, q.high, q.by_, q.other⟩ := ⟨h.fr.setCell (.inr h.lt) _, Blk.set_ h.q 3 _, h.lt⟩
theorem Sn.set4 {w1 wc : World} {gq : Nat} {q : Qry} (h : Sn w1 wc gq q) (v : Int) : Sn w1 (wc.setCell ⟨gq, 4, none⟩ (.int .i64 v)) gq ⟨q.kind, q.table, q.column, q.low, v, q.by_, q.other⟩ := ⟨h.fr.setCell (.inr h.lt) _, Blk.set_ h.q 4 _, h.lt⟩
theorem Sn.set6 {w1 wc : World} {gq : Nat} {q : Qry} (h : Sn w1 wc gq q) (v : Int) : Sn w1 (wc.setCell ⟨gq, 6, none⟩ (.int .i64 v)) gq ⟨q.kind, q.table, q.column, q.low, q.high, q.by_, v⟩ := ⟨h.fr.setCell (.inr h.lt) _, Blk.set_ h.q 6 _, h.lt⟩
namespace Em
def tot (l : List Int) : Int := l.foldl (· + ·) 0
theorem foldl_add (l : List Int) : ∀ a : Int, l.foldl (· + ·) a = a + tot l := by
  unfold tot
  induction l with
  | nil => intro a; simp
  | cons x l ih => intro a; rw [List.foldl_cons, List.foldl_cons, ih, ih (0 + x)]; omega
theorem tot_snoc (l : List Int) (x : Int) : tot (l ++ [x]) = tot l + x := by
  unfold tot
  rw [List.foldl_append]
  rfl
theorem tot_append (a b : List Int) : tot (a ++ b) = tot a + tot b := by
  unfold tot
  rw [List.foldl_append, foldl_add b]
  rfl
theorem count_eq (l : List RowV) : ∀ r : Res, l.foldl count r = ⟨r.rows, r.value + l.length, r.found⟩ := by
  induction l with
  | nil => intro r; simp
  | cons x l ih => intro r; rw [List.foldl_cons, ih]; simp only [count, List.length_cons]; congr 1; omega
theorem plus_eq (l : List Int) : ∀ r : Res, l.foldl plus r = ⟨r.rows, r.value + tot l, r.found⟩ := by
  induction l with
  | nil => intro r; simp [tot]
  | cons x l ih =>
    intro r
    rw [List.foldl_cons, ih]
    simp only [plus]
    have : tot (x :: l) = x + tot l := by unfold tot; rw [List.foldl_cons, foldl_add]; unfold tot; omega
    rw [this]
    congr 1
    omega
theorem of_count {s : Sm.Sta} {q : Qry} (hv : valid q = true) (hk : q.kind = 3) : of s q = ⟨[], (scan s q).length, false⟩ := by
  unfold of res
  rw [if_pos hv, if_pos hk, count_eq]
  simp [zero]
theorem of_sum {s : Sm.Sta} {q : Qry} (hv : valid q = true) (hk : q.kind = 4) : of s q = ⟨[], tot (meas q (scan s q)), false⟩ := by
  unfold of res
  rw [if_pos hv, if_neg (by omega), if_pos hk, plus_eq]
  simp [zero]
theorem of_join {s : Sm.Sta} {q : Qry} (hv : valid q = true) (hk : q.kind = 7) : of s q = ⟨joined q (scan s q) (tab s q.other), 0, false⟩ := res_join hv hk
theorem of_rows {s : Sm.Sta} {q : Qry} (hv : valid q = true) (hk : q.kind = 1 ∨ q.kind = 2) : of s q = ⟨scan s q, 0, false⟩ :=
  res_rows hv (by omega) (by omega) (by omega) (by omega) (by omega)
/-- The least of a list, 0 of none. -/
structure IsMin (l : List Int) (v : Int) (f : Bool) : Prop where
  found : f = !l.isEmpty
  none : l = [] → v = 0
  mem : l ≠ [] → v ∈ l
  le : ∀ x ∈ l, v ≤ x
structure IsMax (l : List Int) (v : Int) (f : Bool) : Prop where
  found : f = !l.isEmpty
  none : l = [] → v = 0
  mem : l ≠ [] → v ∈ l
  le : ∀ x ∈ l, x ≤ v
theorem least_is (l : List Int) : ∃ v f, l.foldl least zero = ⟨[], v, f⟩ ∧ IsMin l v f := by
  have key : ∀ (l : List Int) (p : List Int) (v : Int) (f : Bool), IsMin p v f → ∃ v' f', l.foldl least ⟨[], v, f⟩ = ⟨[], v', f'⟩ ∧ IsMin (p ++ l) v' f' := by
    intro l
    induction l with
    | nil => intro p v f h; exact ⟨v, f, rfl, by simpa using h⟩
    | cons x l ih =>
      intro p v f h
      rw [List.foldl_cons]
      have hs : IsMin (p ++ [x]) (if f = false ∨ x < v then x else v) true := by
        refine ⟨by simp, by simp, fun _ => ?_, fun y hy => ?_⟩
        · split
          · simp
          · rename_i hc
            have hp : p ≠ [] := fun e => hc (.inl (by rw [h.found, e]; rfl))
            exact List.mem_append_left _ (h.mem hp)
        · rcases List.mem_append.1 hy with hy | hy
          · have := h.le y hy
            split
            · rename_i hc
              rcases hc with hc | hc
              · have hp : p = [] := by
                  have := h.found
                  rw [hc] at this
                  simpa using this.symm
                rw [hp] at hy
                cases hy
              · omega
            · exact this
          · rw [List.mem_singleton] at hy
            subst hy
            split
            · omega
            · rename_i hc
              omega
      obtain ⟨v', f', e, h'⟩ := ih (p ++ [x]) _ _ hs
      exact ⟨v', f', e, by simpa using h'⟩
  exact key l [] 0 false ⟨rfl, fun _ => rfl, fun h => absurd rfl h, by simp⟩
theorem most_is (l : List Int) : ∃ v f, l.foldl most zero = ⟨[], v, f⟩ ∧ IsMax l v f := by
  have key : ∀ (l : List Int) (p : List Int) (v : Int) (f : Bool), IsMax p v f → ∃ v' f', l.foldl most ⟨[], v, f⟩ = ⟨[], v', f'⟩ ∧ IsMax (p ++ l) v' f' := by
    intro l
    induction l with
    | nil => intro p v f h; exact ⟨v, f, rfl, by simpa using h⟩
    | cons x l ih =>
      intro p v f h
      rw [List.foldl_cons]
      have hs : IsMax (p ++ [x]) (if f = false ∨ v < x then x else v) true := by
        refine ⟨by simp, by simp, fun _ => ?_, fun y hy => ?_⟩
        · split
          · simp
          · rename_i hc
            have hp : p ≠ [] := fun e => hc (.inl (by rw [h.found, e]; rfl))
            exact List.mem_append_left _ (h.mem hp)
        · rcases List.mem_append.1 hy with hy | hy
          · have := h.le y hy
            split
            · rename_i hc
              rcases hc with hc | hc
              · have hp : p = [] := by
                  have := h.found
                  rw [hc] at this
                  simpa using this.symm
                rw [hp] at hy
                cases hy
              · omega
            · exact this
          · rw [List.mem_singleton] at hy
            subst hy
            split
            · omega
            · rename_i hc
              omega
      obtain ⟨v', f', e, h'⟩ := ih (p ++ [x]) _ _ hs
      exact ⟨v', f', e, by simpa using h'⟩
  exact key l [] 0 false ⟨rfl, fun _ => rfl, fun h => absurd rfl h, by simp⟩
theorem of_min {s : Sm.Sta} {q : Qry} (hv : valid q = true) (hk : q.kind = 5) : ∃ v f, of s q = ⟨[], v, f⟩ ∧ IsMin (meas q (scan s q)) v f := by
  obtain ⟨v, f, e, h⟩ := least_is (meas q (scan s q))
  refine ⟨v, f, ?_, h⟩
  unfold of res
  rw [if_pos hv, if_neg (by omega), if_neg (by omega), if_pos hk, e]
theorem of_max {s : Sm.Sta} {q : Qry} (hv : valid q = true) (hk : q.kind = 6) : ∃ v f, of s q = ⟨[], v, f⟩ ∧ IsMax (meas q (scan s q)) v f := by
  obtain ⟨v, f, e, h⟩ := most_is (meas q (scan s q))
  refine ⟨v, f, ?_, h⟩
  unfold of res
  rw [if_pos hv, if_neg (by omega), if_neg (by omega), if_neg (by omega), if_pos hk, e]
theorem scan_len {s : Sm.Sta} (h : Sm.Ok s) (q : Qry) : (scan s q).length ≤ 2000 := (sel_picked s _ _).len h
theorem scan_mem {s : Sm.Sta} (h : Sm.Sound s) {q : Qry} {r : RowV} (hr : r ∈ scan s q) : Rw.row r.t r.k r.x r.y r.z = true := (sel_picked s _ _).vals h hr
theorem tot_bound (B : Int) : ∀ l : List Int, (∀ x ∈ l, -B ≤ x ∧ x ≤ B) → -(B * l.length) ≤ tot l ∧ tot l ≤ B * l.length
  | [], _ => by simp [tot]
  | x :: l, h => by
    have ih := tot_bound B l (fun y hy => h y (by simp [hy]))
    have hx := h x (by simp)
    have e : tot (x :: l) = x + tot l := by unfold tot; rw [List.foldl_cons, foldl_add]; unfold tot; omega
    rw [e, List.length_cons]
    have e2 : B * ((l.length + 1 : Nat) : Int) = B * l.length + B := by rw [Int.natCast_add, Int.mul_add]; simp
    omega
end Em
end Go.Proofs.Ythiaaminkfkjpaa
