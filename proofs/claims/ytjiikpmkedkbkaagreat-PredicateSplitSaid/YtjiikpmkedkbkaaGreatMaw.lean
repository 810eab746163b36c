/-
  Results in plain Lean: counts, sums, least and greatest.
-/
import Derived.Test.YtjiikpmkedkbkaaGreatMaq
import Derived.Test.YtjiikpmkedkbkaaGreatMav
import Derived.Test.YtjiikpmkedkbkaaGreatMas
import Derived.Test.YtjiikpmkedkbkaaGreatMao
namespace Go.Proofs.YtjiikpmkedkbkaaGreat
open Go.RowKit

theorem Em.valid_base {q : Qry} (h : Em.base q = false) : Em.valid q = false := by
  unfold Em.valid
  rw [h]
  simp
end Go.Proofs.YtjiikpmkedkbkaaGreat
namespace Go.Proofs.YtjiikpmkedkbkaaGreat
open Go.RowKit

/-- Rows whose values are not far from 0. -/
def Sm.Sound (s : Sm.Sta) : Prop := ∀ e ∈ s.M, Rw.row e.2.t e.2.k e.2.x e.2.y e.2.z = true
theorem Sm.sound_new : Sm.Sound Sm.new := by simp [Sm.Sound, Sm.new]
theorem Sm.mem_put1 {M : List (IdK × RowV)} {c : Chg} {e : IdK × RowV} (h : e ∈ Sm.put1 M c) : e ∈ M ∨ (c.has = true ∧ e.2 = Sm.after c) := by
  unfold Sm.put1 at h
  split at h
  · rename_i hc
    unfold mput at h
    rcases List.mem_cons.1 h with rfl | h
    · exact .inr ⟨hc, rfl⟩
    · unfold mdel at h
      exact .inl (List.mem_filter.1 h).1
  · unfold mdel at h
    exact .inl (List.mem_filter.1 h).1
theorem Sm.after_row {c : Chg} (hc : Rw.chg c = true) (h : c.has = true) : Rw.row (Sm.after c).t (Sm.after c).k (Sm.after c).x (Sm.after c).y (Sm.after c).z = true := by
  unfold Rw.chg at hc
  simp only [Bool.and_eq_true] at hc
  have h2 := hc.2
  unfold Rw.sound at h2
  rw [if_pos h] at h2
  exact h2
theorem Sm.Sound.fold : ∀ (cs : List Chg) (M : List (IdK × RowV)), (∀ e ∈ M, Rw.row e.2.t e.2.k e.2.x e.2.y e.2.z = true) → (∀ c ∈ cs, Rw.chg c = true) → ∀ e ∈ cs.foldl Sm.put1 M, Rw.row e.2.t e.2.k e.2.x e.2.y e.2.z = true
  | [], _, h, _ => h
  | c :: cs, M, h, hc => by
    rw [List.foldl_cons]
    refine Sm.Sound.fold cs _ (fun e he => ?_) (fun d hd => hc d (by simp [hd]))
    rcases Sm.mem_put1 he with h1 | ⟨h1, h2⟩
    · exact h e h1
    · rw [h2]
      exact Sm.after_row (hc c (by simp)) h1
theorem Sm.Sound.applied {s : Sm.Sta} (h : Sm.Sound s) (r : Rec) : Sm.Sound (Sm.apply s r) := by
  unfold Sm.apply
  split
  · rename_i hf
    simp only [Sm.fits, Bool.and_eq_true] at hf
    exact Sm.Sound.fold r.cs s.M h (Rw.valid_all hf.1.1).1
  · exact h
theorem Lg.run_sound (l : List Rec) : Sm.Sound (Lg.run l) := by
  have key : ∀ (l : List Rec) (s : Sm.Sta), Sm.Sound s → Sm.Sound (l.foldl Sm.apply s) := by
    intro l
    induction l with
    | nil => exact fun s h => h
    | cons r l ih => exact fun s h => ih _ (h.applied r)
  exact key l _ Sm.sound_new
theorem Rw.row_bounds {t k x y z : Int} (h : Rw.row t k x y z = true) : (0 ≤ t ∧ t ≤ 3) ∧ (1 ≤ k ∧ k ≤ 1000000) ∧ (-1000000000 ≤ x ∧ x ≤ 1000000000) ∧ (-1000000000 ≤ y ∧ y ≤ 1000000000) ∧ (-1000000000 ≤ z ∧ z ≤ 1000000000) := by
  unfold Rw.row Rw.inI at h
  simp only [Bool.and_eq_true, decide_eq_true_eq] at h
  exact ⟨h.1.1, h.1.2, h.2.1.1, h.2.1.2, h.2.2⟩
theorem RowV.value_bounds {r : RowV} (h : Rw.row r.t r.k r.x r.y r.z = true) (c : Int) : -1000000000 ≤ r.value c ∧ r.value c ≤ 1000000000 := by
  have hb := Rw.row_bounds h
  unfold RowV.value
  repeat' split
  all_goals omega
namespace Em
def le2 (c : Int) (a b : RowV) : Bool := decide (a.value c < b.value c) || (decide (a.value c = b.value c) && decide (a.k ≤ b.k))
theorem le2_iff (c : Int) (a b : RowV) : le2 c a b = true ↔ ¬ ahead2 c b a := by
  unfold le2 ahead2
  simp only [Bool.or_eq_true, Bool.and_eq_true, decide_eq_true_eq]
  omega
/-- The rows of a choice, sorted by a column. -/
def sel (s : Sm.Sta) (c : Int) (p : RowV → Bool) : List RowV := ((s.M.map (·.2)).filter p).mergeSort (le2 c)
theorem sel_picked (s : Sm.Sta) (c : Int) (p : RowV → Bool) : Picked s c p (sel s c p) := by
  refine ⟨List.mergeSort_perm _ _, ?_⟩
  have h := List.pairwise_mergeSort (le := le2 c) (fun a b d h1 h2 => by
    rw [le2_iff] at *
    unfold ahead2 at *
    omega) (fun a b => by
    rw [Bool.or_eq_true, le2_iff, le2_iff]
    unfold ahead2
    omega) ((s.M.map (·.2)).filter p)
  exact h.imp (fun h1 => (le2_iff c _ _).1 h1)
def scan (s : Sm.Sta) (q : Qry) : List RowV := sel s q.column (inRng q.table q.column q.low q.high)
def tab (s : Sm.Sta) (t : Int) : List RowV := sel s 0 (inTab t)
def of (s : Sm.Sta) (q : Qry) : Res := res q (scan s q) (tab s q.other)
def code (q : Qry) : Int := if valid q = true then 0 else 50
theorem valid_base' {q : Qry} (h : valid q = true) : (0 ≤ q.table ∧ q.table ≤ 3) ∧ (0 ≤ q.column ∧ q.column ≤ 3) ∧ (-1000000000 ≤ q.low ∧ q.low ≤ q.high ∧ q.high ≤ 1000000000) := by
  have hb : base q = true := by
    cases hb : base q with
    | true => rfl
    | false => rw [Em.valid_base hb] at h; cases h
  unfold base within at hb
  simp only [Bool.and_eq_true, decide_eq_true_eq] at hb
  omega
end Em
theorem Picked.mem {s : Sm.Sta} {c : Int} {p : RowV → Bool} {R : List RowV} (h : Picked s c p R) {r : RowV} (hr : r ∈ R) : ∃ e ∈ s.M, e.2 = r ∧ p r = true := by
  have h1 := List.mem_filter.1 (h.perm.mem_iff.1 hr)
  obtain ⟨e, he, rfl⟩ := List.mem_map.1 h1.1
  exact ⟨e, he, rfl, h1.2⟩
theorem Picked.len {s : Sm.Sta} {c : Int} {p : RowV → Bool} {R : List RowV} (h : Picked s c p R) (ho : Sm.Ok s) : R.length ≤ 2000 := by
  have h1 := h.perm.length_eq
  have h2 := List.length_filter_le p (s.M.map (·.2))
  rw [List.length_map] at h2
  have := ho.len
  omega
theorem Picked.vals {s : Sm.Sta} {c : Int} {p : RowV → Bool} {R : List RowV} (h : Picked s c p R) (hs : Sm.Sound s) {r : RowV} (hr : r ∈ R) : Rw.row r.t r.k r.x r.y r.z = true := by
  obtain ⟨e, he, rfl, _⟩ := h.mem hr
  exact hs e he
theorem OwnL.rowsAt {w : World} {A : Option Addr} {n cap : Nat} {l : List RowV} (h : RowsOwn w (.slice A n cap) l) : RowsAt w A l ∧ n = l.length := h.at1 RowV.cells_len
set_option maxRecDepth 100000 in
set_option maxHeartbeats 4000000 in
theorem eof_any (bs m : Nat) (s : Sm.Sta) (q : Qry) (w : World) (h : StaAt w bs m s) (hs : Sm.Sound s) :
    Calls Tryz.prog 12 #[.pointer (some ⟨bs, 0, none⟩), q.val] w fun e w' => ∃ v, e = .returned (.tuple #[.agg #[v, .int .i64 (Em.of s q).value, .bool (Em.of s q).found], .int .i64 (Em.code q)]) ∧ ResO w w' v (Em.of s q).rows := by
  have H := Lib.hid h
  have HSN := Lib.hid hs
  clear h hs
  have R0 := Lib.hid (FrRel.new w q)
  obtain ⟨k, t, c, lo, hi, b, o⟩ := q
  unfold Qry.val
  dsimp only at *
  go_enter Tryz.func12, Tryz.ntmps12
  go_upto_region 1 with (fail)
  generalize (w.alloc (.cells #[.int .i64 k, .int .i64 t, .int .i64 c, .int .i64 lo, .int .i64 hi, .int .i64 b, .int .i64 o] 28)).alloc (.cells #[.slice none 0 0, .int .i64 0, .bool false] 34) = w2 at *
  have c0 : w2.cell? ⟨w.heap.size, 0, none⟩ = some (.int .i64 k) := R0.out.box.c0
  have c1 : w2.cell? ⟨w.heap.size, 1, none⟩ = some (.int .i64 t) := R0.out.box.c1
  have c2 : w2.cell? ⟨w.heap.size, 2, none⟩ = some (.int .i64 c) := R0.out.box.c2
  have c3 : w2.cell? ⟨w.heap.size, 3, none⟩ = some (.int .i64 lo) := R0.out.box.c3
  have c4 : w2.cell? ⟨w.heap.size, 4, none⟩ = some (.int .i64 hi) := R0.out.box.c4
  have c5 : w2.cell? ⟨w.heap.size, 5, none⟩ = some (.int .i64 b) := R0.out.box.c5
  have c6 : w2.cell? ⟨w.heap.size, 6, none⟩ = some (.int .i64 o) := R0.out.box.c6
  have HQV := Lib.hid (qvalid_any ⟨k, t, c, lo, hi, b, o⟩ w2)
  cases hv : Em.valid ⟨k, t, c, lo, hi, b, o⟩
  · rw [hv] at HQV
    go_upto_region 4 with (go_at_call 27; refine HQV.out.mono ?_; rintro e w3 ⟨rfl, f3⟩; have R3 := Lib.hid (R0.out.fr0 f3); clear f3)
    have z0 := R3.out.res.z 0
    have z1 := R3.out.res.z 1
    have z2 := R3.out.res.z 2
    have y0 := R3.out.res.c0
    have y1 := R3.out.res.c1
    have y2 := R3.out.res.c2
    clear HQV R0 c0 c1 c2 c3 c4 c5 c6
    go_wp2_with fail
    obtain ⟨w4, e4, q0, q1, q2, f4, -⟩ := R3.out.fin (.slice none 0 0) 0 false
    rw [e4]
    have e1 : Em.of s ⟨k, t, c, lo, hi, b, o⟩ = ⟨[], 0, false⟩ := Em.res_bad hv
    have e2 : Em.code ⟨k, t, c, lo, hi, b, o⟩ = 50 := by unfold Em.code; rw [hv]; rfl
    exact bodyPost_ret (v := .tuple #[.agg #[.slice none 0 0, .int .i64 0, .bool false], .int .i64 50]) (by simp [results, Tryz.results12, go_sem, q0, q1, q2]) rfl ⟨_, by rw [e1, e2], by rw [e1]; exact ⟨OwnL.nil, f4, by simp [Value.ownBlock]⟩⟩
  rw [hv] at HQV
  have HVV := Lib.hid hv
  have hvb := Em.valid_base' hv
  dsimp only at hvb
  have HB := Lib.hid hvb
  clear hv hvb
  go_upto_region 5 with (go_at_call 27; refine HQV.out.mono ?_; rintro e w3 ⟨rfl, f3⟩; have R3 := Lib.hid (R0.out.fr0 f3); clear f3)
  clear HQV R0 c0 c1 c2 c3 c4 c5 c6
  have Rd := Lib.hid (R3.out.fr0 (Fr.refl [] w3).drew)
  have c0 : w3.cell? ⟨w.heap.size, 0, none⟩ = some (.int .i64 k) := R3.out.box.c0
  have c1 : w3.cell? ⟨w.heap.size, 1, none⟩ = some (.int .i64 t) := R3.out.box.c1
  have c2 : w3.cell? ⟨w.heap.size, 2, none⟩ = some (.int .i64 c) := R3.out.box.c2
  have c3 : w3.cell? ⟨w.heap.size, 3, none⟩ = some (.int .i64 lo) := R3.out.box.c3
  have c4 : w3.cell? ⟨w.heap.size, 4, none⟩ = some (.int .i64 hi) := R3.out.box.c4
  have c5 : w3.cell? ⟨w.heap.size, 5, none⟩ = some (.int .i64 b) := R3.out.box.c5
  have c6 : w3.cell? ⟨w.heap.size, 6, none⟩ = some (.int .i64 o) := R3.out.box.c6
  obtain ⟨⟨vr, vn, vf⟩, HRES⟩ : ∃ r, Hid (Em.of s ⟨k, t, c, lo, hi, b, o⟩ = r) := ⟨_, Lib.hid rfl⟩
  go_region_held3 (fun w' => w'.cell? ⟨w.heap.size, 0, none⟩ = some (.int .i64 k) ∧ w'.cell? ⟨w.heap.size, 1, none⟩ = some (.int .i64 t) ∧ w'.cell? ⟨w.heap.size, 2, none⟩ = some (.int .i64 c) ∧ w'.cell? ⟨w.heap.size, 3, none⟩ = some (.int .i64 lo) ∧ w'.cell? ⟨w.heap.size, 4, none⟩ = some (.int .i64 hi) ∧ w'.cell? ⟨w.heap.size, 5, none⟩ = some (.int .i64 b) ∧ w'.cell? ⟨w.heap.size, 6, none⟩ = some (.int .i64 o))
    (first | exact ⟨Rd.out.box.c0, Rd.out.box.c1, Rd.out.box.c2, Rd.out.box.c3, Rd.out.box.c4, Rd.out.box.c5, Rd.out.box.c6⟩ | exact ⟨R5.out.box.c0, R5.out.box.c1, R5.out.box.c2, R5.out.box.c3, R5.out.box.c4, R5.out.box.c5, R5.out.box.c6⟩ | exact ⟨R6.out.box.c0, R6.out.box.c1, R6.out.box.c2, R6.out.box.c3, R6.out.box.c4, R6.out.box.c5, R6.out.box.c6⟩ | exact ⟨R7.out.box.c0, R7.out.box.c1, R7.out.box.c2, R7.out.box.c3, R7.out.box.c4, R7.out.box.c5, R7.out.box.c6⟩ | exact ⟨S8.out.c0, S8.out.c1, S8.out.c2, S8.out.c3, S8.out.c4, S8.out.c5, S8.out.c6⟩)
    (first
      | (go_at_call 29; refine (srange_any bs m s t c lo hi _ (H.out.fr0 Rd.out.fr) HB.out.2.1.1 (by have := HB.out.2.1.2; omega)).mono ?_; rintro e w5 ⟨v5, L5, rfl, ho5, hp5, f5, -⟩; obtain ⟨A5, n5, k5, hv5⟩ : ∃ A n c, v5 = .slice A n c := (match ho5.val with | ⟨_, _, hv⟩ => ⟨_, _, _, hv⟩); subst hv5; have R5 := Lib.hid (Rd.out.fr0 f5); have O5 := Lib.hid (OwnL.rowsAt ho5); have P5 := Lib.hid hp5; clear ho5 hp5 f5)
      | (go_at_call 30; refine (srows_any bs m s o _ (H.out.fr0 R5.out.fr)).mono ?_; rintro e w6 ⟨v6, L6, rfl, ho6, hp6, f6, -⟩; obtain ⟨A6, n6, k6, hv6⟩ : ∃ A n c, v6 = .slice A n c := (match ho6.val with | ⟨_, _, hv⟩ => ⟨_, _, _, hv⟩); subst hv6; have R6 := Lib.hid (R5.out.fr0 f6); have O6 := Lib.hid (OwnL.rowsAt ho6); have P6 := Lib.hid hp6; have X6 := Lib.hid (O5.out.1.fr f6 (by simp)); clear ho6 hp6 f6)
      | (go_at_call 28; refine (efrom_any ⟨k, t, c, lo, hi, b, o⟩ A5 n5 k5 L5 A6 n6 k6 L6 w6 X6.out O5.out.2 (by rw [O5.out.2]; have := P5.out.len H.out.ok; omega) O6.out.1 O6.out.2 (by rw [O6.out.2]; have := P6.out.len H.out.ok; omega) (fun _ r hr => by have := RowV.value_bounds (P5.out.vals HSN.out hr) b; exact okI_mk (by dsimp only; omega) (by dsimp only; omega)) (fun r hr => by have := Rw.row_bounds (P6.out.vals HSN.out hr); exact okI_mk (by omega) (by omega)) (fun _ _ r hr => by have := RowV.value_bounds (P5.out.vals HSN.out hr) b; dsimp only; omega)).mono ?_; rintro e w7 ⟨v7, rfl, hres⟩; have HEQ : Em.res ⟨k, t, c, lo, hi, b, o⟩ L5 L6 = ⟨vr, vn, vf⟩ := (by rw [← HRES.out]; unfold Em.of Em.scan Em.tab; rw [P5.out.uniq (Em.sel_picked s c (inRng t c lo hi)) H.out.ok inRng_t, P6.out.uniq (Em.sel_picked s 0 (inTab o)) H.out.ok inTab_t]); rw [HEQ] at hres ⊢; dsimp only at hres; dsimp only; obtain ⟨A7, n7, k7, hv7⟩ : ∃ A n c, v7 = .slice A n c := (match hres.own.val with | ⟨_, _, hv⟩ => ⟨_, _, _, hv⟩); subst hv7; have R7 := Lib.hid (R6.out.fr0 hres.fr); have HR7 := Lib.hid hres; have hs6 := R6.out.res; have HL6 := Lib.hid (Blk.lt hs6); clear hs6 hres HEQ; have z0 := R7.out.res.z 0; have z1 := R7.out.res.z 1; have z2 := R7.out.res.z 2; have y0 := R7.out.res.c0; have y1 := R7.out.res.c1; have y2 := R7.out.res.c2; obtain ⟨w8, e8, q0, q1, q2, f8, g8⟩ := R7.out.fin (.slice A7 n7 k7) vn vf; have B8 := R7.out.box.fr g8 (by simp); rw [← e8] at B8; have S8 := Lib.hid B8; clear B8; have E8 := Lib.hid e8; have Q8 := Lib.hid (And.intro q0 (And.intro q1 q2)); have F8 := Lib.hid f8; have G8 := Lib.hid g8; clear e8 q0 q1 q2 f8 g8))
  go_wp2_with fail
  have q0 := Q8.out.1
  have q1 := Q8.out.2.1
  have q2 := Q8.out.2.2
  rw [E8.out]
  have e2 : Em.code ⟨k, t, c, lo, hi, b, o⟩ = 0 := by unfold Em.code; rw [HVV.out]; rfl
  exact bodyPost_ret (v := .tuple #[.agg #[.slice A7 n7 k7, .int .i64 vn, .bool vf], .int .i64 0]) (by simp [results, Tryz.results12, go_sem, q0, q1, q2]) rfl ⟨_, by rw [HRES.out, e2], by
    rw [HRES.out]
    have h6 := R6.out.fr.size
    have hl := HL6.out
    refine ⟨HR7.out.own.fr G8.out (fun g hg => ?_), F8.out, fun g hg => Nat.le_trans h6 (HR7.out.new g hg)⟩
    have h7 := HR7.out.new g hg
    simp only [List.mem_singleton]
    omega⟩
end Go.Proofs.YtjiikpmkedkbkaaGreat
namespace Go.Proofs.YtjiikpmkedkbkaaGreat
open Go.RowKit

namespace Em
def tot (l : List Int) : Int := l.foldl (· + ·) 0
theorem foldl_add (l : List Int) : ∀ a : Int, l.foldl (· + ·) a = a + tot l := by
  unfold tot
  induction l with
  | nil => intro a; simp
  | cons x l ih => intro a; rw [List.foldl_cons, List.foldl_cons, ih, ih (0 + x)]; omega
theorem tot_snoc (l : List Int) (x : Int) : tot (l ++ [x]) = tot l + x := by
  unfold tot
  rw [List.foldl_append]
  rfl
theorem tot_append (a b : List Int) : tot (a ++ b) = tot a + tot b := by
  unfold tot
  rw [List.foldl_append, foldl_add b]
  rfl
theorem count_eq (l : List RowV) : ∀ r : Res, l.foldl count r = ⟨r.rows, r.value + l.length, r.found⟩ := by
  induction l with
  | nil => intro r; simp
  | cons x l ih => intro r; rw [List.foldl_cons, ih]; simp only [count, List.length_cons]; congr 1; omega
theorem plus_eq (l : List Int) : ∀ r : Res, l.foldl plus r = ⟨r.rows, r.value + tot l, r.found⟩ := by
  induction l with
  | nil => intro r; simp [tot]
  | cons x l ih =>
    intro r
    rw [List.foldl_cons, ih]
    simp only [plus]
    have : tot (x :: l) = x + tot l := by unfold tot; rw [List.foldl_cons, foldl_add]; unfold tot; omega
    rw [this]
    congr 1
    omega
theorem of_count {s : Sm.Sta} {q : Qry} (hv : valid q = true) (hk : q.kind = 3) : of s q = ⟨[], (scan s q).length, false⟩ := by
  unfold of res
  rw [if_pos hv, if_pos hk, count_eq]
  simp [zero]
theorem of_sum {s : Sm.Sta} {q : Qry} (hv : valid q = true) (hk : q.kind = 4) : of s q = ⟨[], tot (meas q (scan s q)), false⟩ := by
  unfold of res
  rw [if_pos hv, if_neg (by omega), if_pos hk, plus_eq]
  simp [zero]
theorem of_join {s : Sm.Sta} {q : Qry} (hv : valid q = true) (hk : q.kind = 7) : of s q = ⟨joined q (scan s q) (tab s q.other), 0, false⟩ := res_join hv hk
theorem of_rows {s : Sm.Sta} {q : Qry} (hv : valid q = true) (hk : q.kind = 1 ∨ q.kind = 2) : of s q = ⟨scan s q, 0, false⟩ :=
  res_rows hv (by omega) (by omega) (by omega) (by omega) (by omega)
/-- The least of a list, 0 of none. -/
structure IsMin (l : List Int) (v : Int) (f : Bool) : Prop where
  found : f = !l.isEmpty
  none : l = [] → v = 0
  mem : l ≠ [] → v ∈ l
  le : ∀ x ∈ l, v ≤ x
structure IsMax (l : List Int) (v : Int) (f : Bool) : Prop where
  found : f = !l.isEmpty
  none : l = [] → v = 0
  mem : l ≠ [] → v ∈ l
  le : ∀ x ∈ l, x ≤ v
theorem least_is (l : List Int) : ∃ v f, l.foldl least zero = ⟨[], v, f⟩ ∧ IsMin l v f := by
  have key : ∀ (l : List Int) (p : List Int) (v : Int) (f : Bool), IsMin p v f → ∃ v' f', l.foldl least ⟨[], v, f⟩ = ⟨[], v', f'⟩ ∧ IsMin (p ++ l) v' f' := by
    intro l
    induction l with
    | nil => intro p v f h; exact ⟨v, f, rfl, by simpa using h⟩
    | cons x l ih =>
      intro p v f h
      rw [List.foldl_cons]
      have hs : IsMin (p ++ [x]) (if f = false ∨ x < v then x else v) true := by
        refine ⟨by simp, by simp, fun _ => ?_, fun y hy => ?_⟩
        · split
          · simp
          · rename_i hc
            have hp : p ≠ [] := fun e => hc (.inl (by rw [h.found, e]; rfl))
            exact List.mem_append_left _ (h.mem hp)
        · rcases List.mem_append.1 hy with hy | hy
          · have := h.le y hy
            split
            · rename_i hc
              rcases hc with hc | hc
              · have hp : p = [] := by
                  have := h.found
                  rw [hc] at this
                  simpa using this.symm
                rw [hp] at hy
                cases hy
              · omega
            · exact this
          · rw [List.mem_singleton] at hy
            subst hy
            split
            · omega
            · rename_i hc
              omega
      obtain ⟨v', f', e, h'⟩ := ih (p ++ [x]) _ _ hs
      exact ⟨v', f', e, by simpa using h'⟩
  exact key l [] 0 false ⟨rfl, fun _ => rfl, fun h => absurd rfl h, by simp⟩
theorem most_is (l : List Int) : ∃ v f, l.foldl most zero = ⟨[], v, f⟩ ∧ IsMax l v f := by
  have key : ∀ (l : List Int) (p : List Int) (v : Int) (f : Bool), IsMax p v f → ∃ v' f', l.foldl most ⟨[], v, f⟩ = ⟨[], v', f'⟩ ∧ IsMax (p ++ l) v' f' := by
    intro l
    induction l with
    | nil => intro p v f h; exact ⟨v, f, rfl, by simpa using h⟩
    | cons x l ih =>
      intro p v f h
      rw [List.foldl_cons]
      have hs : IsMax (p ++ [x]) (if f = false ∨ v < x then x else v) true := by
        refine ⟨by simp, by simp, fun _ => ?_, fun y hy => ?_⟩
        · split
          · simp
          · rename_i hc
            have hp : p ≠ [] := fun e => hc (.inl (by rw [h.found, e]; rfl))
            exact List.mem_append_left _ (h.mem hp)
        · rcases List.mem_append.1 hy with hy | hy
          · have := h.le y hy
            split
            · rename_i hc
              rcases hc with hc | hc
              · have hp : p = [] := by
                  have := h.found
                  rw [hc] at this
                  simpa using this.symm
                rw [hp] at hy
                cases hy
              · omega
            · exact this
          · rw [List.mem_singleton] at hy
            subst hy
            split
            · omega
            · rename_i hc
              omega
      obtain ⟨v', f', e, h'⟩ := ih (p ++ [x]) _ _ hs
      exact ⟨v', f', e, by simpa using h'⟩
  exact key l [] 0 false ⟨rfl, fun _ => rfl, fun h => absurd rfl h, by simp⟩
theorem of_min {s : Sm.Sta} {q : Qry} (hv : valid q = true) (hk : q.kind = 5) : ∃ v f, of s q = ⟨[], v, f⟩ ∧ IsMin (meas q (scan s q)) v f := by
  obtain ⟨v, f, e, h⟩ := least_is (meas q (scan s q))
  refine ⟨v, f, ?_, h⟩
  unfold of res
  rw [if_pos hv, if_neg (by omega), if_neg (by omega), if_pos hk, e]
theorem of_max {s : Sm.Sta} {q : Qry} (hv : valid q = true) (hk : q.kind = 6) : ∃ v f, of s q = ⟨[], v, f⟩ ∧ IsMax (meas q (scan s q)) v f := by
  obtain ⟨v, f, e, h⟩ := most_is (meas q (scan s q))
  refine ⟨v, f, ?_, h⟩
  unfold of res
  rw [if_pos hv, if_neg (by omega), if_neg (by omega), if_neg (by omega), if_pos hk, e]
theorem scan_len {s : Sm.Sta} (h : Sm.Ok s) (q : Qry) : (scan s q).length ≤ 2000 := (sel_picked s _ _).len h
theorem scan_mem {s : Sm.Sta} (h : Sm.Sound s) {q : Qry} {r : RowV} (hr : r ∈ scan s q) : Rw.row r.t r.k r.x r.y r.z = true := (sel_picked s _ _).vals h hr
theorem tot_bound (B : Int) : ∀ l : List Int, (∀ x ∈ l, -B ≤ x ∧ x ≤ B) → -(B * l.length) ≤ tot l ∧ tot l ≤ B * l.length
  | [], _ => by simp [tot]
  | x :: l, h => by
    have ih := tot_bound B l (fun y hy => h y (by simp [hy]))
    have hx := h x (by simp)
    have e : tot (x :: l) = x + tot l := by unfold tot; rw [List.foldl_cons, foldl_add]; unfold tot; omega
    rw [e, List.length_cons]
    have e2 : B * ((l.length + 1 : Nat) : Int) = B * l.length + B := by rw [Int.natCast_add, Int.mul_add]; simp
    omega
end Em
end Go.Proofs.YtjiikpmkedkbkaaGreat
