/-
  EvalFromMatchesReference: the walk of the law.
-/
import Derived.Test.YtlicjokgcahmlaaEwJ
import Derived.Test.YtlicjokgcahmlaaEwQ
import Derived.Test.YtlicjokgcahmlaaRowsIn
namespace Go.Proofs.Ytlicjokgcahmlaa
open Go.RowKit

theorem RowsAt.take {w : World} {A : Option Addr} {L : List RowV} (h : RowsAt w A L) (k : Nat) : RowsAt w A (L.take k) := by
  intro h0
  rw [List.length_take] at h0
  obtain ⟨b, off, e, hb, hc⟩ := h (by omega)
  refine ⟨b, off, e, hb, fun i hi j hj => ?_⟩
  have hi' : i < L.length := by rw [List.length_take] at hi; omega
  have h1 := hc i hi' j hj
  rw [h1]
  simp
def RowV.fld (r : RowV) (k : Nat) : Int := match k with
  | 0 => r.x
  | 1 => r.y
  | _ => r.z
def RowV.setf (r : RowV) (k : Nat) (z : Int) : RowV := match k with
  | 0 => ⟨r.t, r.k, z, r.y, r.z⟩
  | 1 => ⟨r.t, r.k, r.x, z, r.z⟩
  | _ => ⟨r.t, r.k, r.x, r.y, z⟩
def near12 (z : Int) : Prop := -1000000000000 ≤ z ∧ z ≤ 1000000000000
/-- The rows of which the first i, and the first k fields of the next one, have been cut. -/
structure ClRel (W W2 wr : World) (A : Option Addr) (m c : Nat) (R : List RowV) (i k : Nat) : Prop where
  own : RowsOwn wr (.slice A m c) R
  len : R.length = m
  fit : ∀ r ∈ R, RowFit r
  bd : ∀ j (h : j < R.length), j < i → near12 R[j].x ∧ near12 R[j].y ∧ near12 R[j].z
  cur : ∀ h : i < R.length, ∀ j, j < k → near12 (R[i].fld j)
  fr : Fr [] W wr
  new : ∀ g, (Value.slice A m c).ownBlock = some g → W.heap.size ≤ g
  fr2 : Fr (Value.slice A m c).ownBlock.toList W2 wr
theorem ClRel.next {W W2 wr : World} {A : Option Addr} {m c : Nat} {R : List RowV} {i : Nat} (h : ClRel W W2 wr A m c R i 3) : ClRel W W2 wr A m c R (i + 1) 0 := by
  refine ⟨h.own, h.len, h.fit, fun j hj hji => ?_, fun _ j hj => absurd hj (by omega), h.fr, h.new, h.fr2⟩
  by_cases e : j = i
  · subst e
    exact ⟨h.cur hj 0 (by omega), h.cur hj 1 (by omega), h.cur hj 2 (by omega)⟩
  · exact h.bd j hj (by omega)
theorem ClRel.fr0 {W W2 wr w' : World} {A : Option Addr} {m c : Nat} {R : List RowV} {i k : Nat} (h : ClRel W W2 wr A m c R i k) (hf : Fr [] wr w') : ClRel W W2 w' A m c R i k :=
  ⟨h.own.fr hf (by simp), h.len, h.fit, h.bd, h.cur, h.fr.trans hf, h.new, h.fr2.trans (hf.mono (by simp))⟩
theorem ClRel.at_ {W W2 wr : World} {A : Option Addr} {m c : Nat} {R : List RowV} {i k : Nat} (h : ClRel W W2 wr A m c R i k) (hi : i < m) (hk : k < 3) :
    ∃ g z, A = some ⟨g, 0, none⟩ ∧ g < wr.heap.size ∧ wr.cell? ⟨g, i * 5 + 2 + k, none⟩ = some (.int .i64 z) ∧ wr.frozen? ⟨g, i * 5 + 2 + k, none⟩ = false ∧ okI z ∧ ∀ z', near12 z' → ∃ R', ClRel W W2 (wr.setCell ⟨g, i * 5 + 2 + k, none⟩ (.int .i64 z')) A m c R' i (k + 1) := by
  have hl := h.len
  subst hl
  obtain ⟨gR, capR, hA, hnc, hcm, hgR, hcell, hfz⟩ := OwnL.form RowV.cells_len h.own (by omega)
  cases hA
  have hfit := h.fit _ (List.getElem_mem hi)
  have hlt := (OwnL.rowsAt h.own).1 (by omega)
  obtain ⟨b, off, eb, hbl, _⟩ := hlt
  cases eb
  have hc : wr.cell? ⟨gR, i * 5 + (2 + k), none⟩ = some (.int .i64 (R[i].fld k)) := by
    rw [hcell i hi (2 + k) (by omega)]
    match k, hk with
    | 0, _ => rfl
    | 1, _ => rfl
    | 2, _ => rfl
  have hok : okI (R[i].fld k) := by
    match k, hk with
    | 0, _ => exact hfit.x
    | 1, _ => exact hfit.y
    | 2, _ => exact hfit.z
  rw [← Nat.add_assoc] at hc
  refine ⟨gR, _, rfl, hbl, hc, hfz _, hok, fun z' hz => ⟨R.set i (R[i].setf k z'), ?_, by simp, fun r hr => ?_, fun j hj hji => ?_, fun hi2 j hj => ?_, h.fr.setCell (p := ⟨gR, i * 5 + 2 + k, none⟩) (.inr (h.new gR rfl)) _, h.new, h.fr2.setCell (p := ⟨gR, i * 5 + 2 + k, none⟩) (.inl (by simp [Value.ownBlock])) _⟩⟩
  · have e : RowV.cells (R[i].setf k z') = (RowV.cells R[i]).set (2 + k) (.int .i64 z') := by
      match k, hk with
      | 0, _ => rfl
      | 1, _ => rfl
      | 2, _ => rfl
    have := OwnL.set RowV.cells_len h.own rfl hi (by omega : 2 + k < 5) (.int .i64 z') (R[i].setf k z') e
    rw [← Nat.add_assoc] at this
    exact this
  · rcases List.mem_or_eq_of_mem_set hr with h1 | h1
    · exact h.fit r h1
    · subst h1
      have hz' : okI z' := okI_mk (by have := hz.1; omega) (by have := hz.2; omega)
      match k, hk with
      | 0, _ => exact ⟨hfit.t, hfit.k, hz', hfit.y, hfit.z⟩
      | 1, _ => exact ⟨hfit.t, hfit.k, hfit.x, hz', hfit.z⟩
      | 2, _ => exact ⟨hfit.t, hfit.k, hfit.x, hfit.y, hz'⟩
  · have hj' : j < R.length := by simpa using hj
    rw [List.getElem_set_ne (by omega)]
    exact h.bd j hj' hji
  · rw [List.getElem_set_self]
    have hc2 := h.cur hi
    match k, hk with
    | 0, _ =>
      have : j = 0 := by omega
      subst this
      exact hz
    | 1, _ =>
      have : j = 0 ∨ j = 1 := by omega
      rcases this with rfl | rfl
      · exact hc2 0 (by omega)
      · exact hz
    | 2, _ =>
      have : j = 0 ∨ j = 1 ∨ j = 2 := by omega
      rcases this with rfl | rfl | rfl
      · exact hc2 0 (by omega)
      · exact hc2 1 (by omega)
      · exact hz

theorem RowsAt.frn {w0 w w' : World} {A : Option Addr} {L : List RowV} (h0 : RowsAt w0 A L) (h : RowsAt w A L) {g : Nat} (hg : w0.heap.size ≤ g) (hf : Fr [g] w w') : RowsAt w' A L := fun hl => (h.fr hf (fun ad e => by
  obtain ⟨b, off, e2, hb, _⟩ := h0 hl
  rw [e2] at e
  injection e with e
  subst e
  simp only [List.mem_singleton]
  omega)) hl
theorem Em.valid_by {z : Qry} (h : Em.valid z = true) (hk : 4 ≤ z.kind) : 1 ≤ z.by_ ∧ z.by_ ≤ 3 := by
  obtain ⟨k, t, c, lo, hi, b, o⟩ := z
  unfold Em.valid Em.within at h
  dsimp only at h hk ⊢
  rw [if_neg (by omega)] at h
  split at h
  · simp only [Bool.and_eq_true, decide_eq_true_eq] at h
    omega
  · split at h
    · simp only [Bool.and_eq_true, decide_eq_true_eq] at h
      omega
    · rw [if_neg (by omega)] at h
      cases h
theorem RowV.near {r : RowV} (h : near12 r.x ∧ near12 r.y ∧ near12 r.z) {c : Int} (hc : 1 ≤ c ∧ c ≤ 3) : -1000000000000 ≤ r.value c ∧ r.value c ≤ 1000000000000 := by
  obtain ⟨h1, h2, h3⟩ := h
  unfold near12 at h1 h2 h3
  have hc' : c = 1 ∨ c = 2 ∨ c = 3 := by omega
  rcases hc' with rfl | rfl | rfl
  · exact h1
  · exact h2
  · exact h3
theorem RowFit.value {r : RowV} (h : RowFit r) (c : Int) : okI (r.value c) := by
  unfold RowV.value
  repeat' split
  all_goals first | exact h.t | exact h.k | exact h.x | exact h.y | exact h.z | exact okI_mk (by decide) (by decide)
theorem Em.res_len (z : Qry) (rows others : List RowV) : (Em.res z rows others).rows.length ≤ 2 * rows.length := by
  unfold Em.res
  split
  · split
    · rw [Em.count_eq]; simp [Em.zero]
    · split
      · rw [Em.plus_eq]; simp [Em.zero]
      · split
        · obtain ⟨v, f, e, _⟩ := Em.least_is (Em.meas z rows); rw [e]; simp
        · split
          · obtain ⟨v, f, e, _⟩ := Em.most_is (Em.meas z rows); rw [e]; simp
          · split
            · exact Em.joined_len z others rows
            · dsimp only; omega
  · simp [Em.zero]
set_option maxRecDepth 100000 in
set_option maxHeartbeats 8000000 in
theorem efm_walk (q : Qry) (x0 x1 x2 x3 : Int) (A2 : Option Addr) (n2 c2 : Nat) (L2 : List RowV) (A3 : Option Addr) (n3 c3 : Nat) (L3 : List RowV) (A4 : Option Addr) (n4 c4 : Nat) (L4 : List RowV) (z4 : Int) (f4 : Bool) (w : World) (o0 : okI x0) (o1 : okI x1) (o2 : okI x2) (o3 : okI x3)
    (hn2 : n2 ≤ c2) (hm2 : c2 ≤ maxLen) (hl2 : L2.length = n2) (hr2 : RowsAt w A2 L2) (hf2 : ∀ r ∈ L2, RowFit r) (hn3 : n3 ≤ c3) (hm3 : c3 ≤ maxLen) (hl3 : L3.length = n3) (hr3 : RowsAt w A3 L3) (hf3 : ∀ r ∈ L3, RowFit r) (hn4 : n4 ≤ c4) (hm4 : c4 ≤ maxLen) (hl4 : L4.length = n4) (hr4 : RowsAt w A4 L4) :
    Calls Try.prog 3 #[q.val, .agg #[.int .i64 x0, .int .i64 x1, .int .i64 x2, .int .i64 x3], .slice A2 n2 c2, .slice A3 n3 c3, .agg #[.slice A4 n4 c4, .int .i64 z4, .bool f4]] w fun e w' => e = .returned (.bool true) ∧ Below w.heap.size w w' := by
  obtain ⟨rk, rt, rc, rl, rh, rb, ro⟩ := q
  unfold Qry.val
  dsimp only
  have F0 := (((Fr.refl [] w).alloc (.cells #[.int .i64 rk, .int .i64 rt, .int .i64 rc, .int .i64 rl, .int .i64 rh, .int .i64 rb, .int .i64 ro] 23)).alloc (.cells #[.int .i64 x0, .int .i64 x1, .int .i64 x2, .int .i64 x3] 24)).alloc (.cells #[.slice A4 n4 c4, .int .i64 z4, .bool f4] 27)
  have HQ0 : Hid (QAt (((w.alloc (.cells #[.int .i64 rk, .int .i64 rt, .int .i64 rc, .int .i64 rl, .int .i64 rh, .int .i64 rb, .int .i64 ro] 23)).alloc (.cells #[.int .i64 x0, .int .i64 x1, .int .i64 x2, .int .i64 x3] 24)).alloc (.cells #[.slice A4 n4 c4, .int .i64 z4, .bool f4] 27)) w.heap.size ⟨rk, rt, rc, rl, rh, rb, ro⟩) := Lib.hid ((QAt.new w ⟨rk, rt, rc, rl, rh, rb, ro⟩).fr (((Fr.refl [] _).alloc _).alloc _) (by simp))
  have h4 : Four (((w.alloc (.cells #[.int .i64 rk, .int .i64 rt, .int .i64 rc, .int .i64 rl, .int .i64 rh, .int .i64 rb, .int .i64 ro] 23)).alloc (.cells #[.int .i64 x0, .int .i64 x1, .int .i64 x2, .int .i64 x3] 24)).alloc (.cells #[.slice A4 n4 c4, .int .i64 z4, .bool f4] 27)) (w.heap.size + 1) x0 x1 x2 x3 := by
    have h := (Blk.new (w.alloc (.cells #[.int .i64 rk, .int .i64 rt, .int .i64 rc, .int .i64 rl, .int .i64 rh, .int .i64 rb, .int .i64 ro] 23)) 24 #[.int .i64 x0, .int .i64 x1, .int .i64 x2, .int .i64 x3]).alloc (.cells #[.slice A4 n4 c4, .int .i64 z4, .bool f4] 27)
    rw [World.size_alloc] at h
    exact h
  have h5 := RsAt.new ((w.alloc (.cells #[.int .i64 rk, .int .i64 rt, .int .i64 rc, .int .i64 rl, .int .i64 rh, .int .i64 rb, .int .i64 ro] 23)).alloc (.cells #[.int .i64 x0, .int .i64 x1, .int .i64 x2, .int .i64 x3] 24)) (.slice A4 n4 c4) z4 f4
  rw [World.size_alloc, World.size_alloc] at h5
  have H4 := Lib.hid h4
  have H5 := Lib.hid h5
  have HF0 := Lib.hid F0
  have O0 := Lib.hid o0
  have O1 := Lib.hid o1
  have O2 := Lib.hid o2
  have O3 := Lib.hid o3
  have HL2 := Lib.hid hl2
  have HL3 := Lib.hid hl3
  have HL4 := Lib.hid hl4
  have HR2 := Lib.hid hr2
  have HR3 := Lib.hid hr3
  have HR4 := Lib.hid hr4
  have HF2 := Lib.hid hf2
  have HF3 := Lib.hid hf3
  have hb2 : c2 < 9223372036854775808 := by simp only [maxLen] at hm2; omega
  have hb3 : c3 < 9223372036854775808 := by simp only [maxLen] at hm3; omega
  have hb4 : c4 < 9223372036854775808 := by simp only [maxLen] at hm4; omega
  clear o0 o1 o2 o3 F0 h4 h5 hl2 hl3 hl4 hr2 hr3 hr4 hf2 hf3
  obtain ⟨i0, TR⟩ := etRow
  go_enter Try.func3, Try.ntmps3
  go_upto_region 2 with (go_at_call 11; refine (sane6_any _).mono ?_; rintro e wa ⟨rfl, fa⟩; have FA := Lib.hid (HF0.out.trans fa); have HQ1 := Lib.hid (HQ0.out.fr fa (by simp)); have H41 := Lib.hid (H4.out.fr fa (by simp)); have H51 := Lib.hid (H5.out.fr fa (by simp)); clear fa)
  clear HQ0 H4 H5 HF0
  have waF : Hid (Fr [] w wa) := FA
  have HRD0 := reads_of_rows ((RowsAt.take (HR2.out.fr0 waF.out) 20).fr0 ((Fr.refl [] wa).alloc (.cells #[] 31)))
  have HTL : Hid ((L2.take 20).length ≤ 20) := Lib.hid (by rw [List.length_take]; omega)
  have HSZ : Hid ((wa).heap.size ≤ ((wa).alloc (.cells #[] 31)).heap.size) := Lib.hid (by rw [World.size_alloc]; exact Nat.le_succ _)
  go_cut [2] (fun v wn => ∃ A' m c', v = .slice A' m c' ∧ m ≤ 20 ∧ Hid (RowsOwn wn (.slice A' m c') (L2.take 20)) ∧ Hid (Fr [] wa wn) ∧ Hid (∀ g, (Value.slice A' m c').ownBlock = some g → (wa).heap.size ≤ g))
  case first =>
    by_cases h20 : n2 ≤ 20
    · have HT : Hid (n2 = (L2.take 20).length) := Lib.hid (by rw [List.length_take, HL2.out]; omega)
      rw [← HT.out] at HRD0
      have HRD := Lib.hid HRD0
      have hmin : min (n2 : Int) 20 = n2 := by omega
      clear HRD0
      go_wp2_with (at_builtin; refine wpList_appendL rfl _ _ rfl TR RowV.cells_len RowV.cells_one rfl (own_empty wa) _ _ _ _ (L2.take 20) rfl HT.out HRD.out (by have := HTL.out; simp only [maxLen, List.length_nil]; omega) (by have := HTL.out; simp only [List.length_nil]; omega) ?_; intro v5 w5 hown5 hg5 hat5; obtain ⟨A5, n5, c5, hv5⟩ : ∃ A n c, v5 = .slice A n c := (match hown5.val with | ⟨_, _, hv⟩ => ⟨_, _, _, hv⟩); subst hv5; rw [List.nil_append] at hown5; have F5 := Lib.hid (((Fr.refl [] wa).alloc (.cells #[] 31)).grown hg5 (fun g hg => .inr (by injection hg with hg; rw [← hg]; exact Nat.le_refl _))); have G5 := Lib.hid (app_ge (W := wa) (own_lit _ _ _) HSZ.out hat5); have O5 := Lib.hid hown5; clear hown5 hg5 hat5)
      go_meet
      exact ⟨A5, n5, c5, rfl, by rw [(OwnL.rowsAt O5.out).2]; exact HTL.out, O5, F5, G5⟩
    · have HT : Hid (20 = (L2.take 20).length) := Lib.hid (by rw [List.length_take, HL2.out]; omega)
      rw [← HT.out] at HRD0
      have HRD := Lib.hid HRD0
      have hmin : min (n2 : Int) 20 = 20 := by omega
      clear HRD0
      go_wp2_with (at_builtin; refine wpList_appendL rfl _ _ rfl TR RowV.cells_len RowV.cells_one rfl (own_empty wa) _ _ _ _ (L2.take 20) rfl HT.out HRD.out (by have := HTL.out; simp only [maxLen, List.length_nil]; omega) (by have := HTL.out; simp only [List.length_nil]; omega) ?_; intro v5 w5 hown5 hg5 hat5; obtain ⟨A5, n5, c5, hv5⟩ : ∃ A n c, v5 = .slice A n c := (match hown5.val with | ⟨_, _, hv⟩ => ⟨_, _, _, hv⟩); subst hv5; rw [List.nil_append] at hown5; have F5 := Lib.hid (((Fr.refl [] wa).alloc (.cells #[] 31)).grown hg5 (fun g hg => .inr (by injection hg with hg; rw [← hg]; exact Nat.le_refl _))); have G5 := Lib.hid (app_ge (W := wa) (own_lit _ _ _) HSZ.out hat5); have O5 := Lib.hid hown5; clear hown5 hg5 hat5)
      go_meet
      exact ⟨A5, n5, c5, rfl, by rw [(OwnL.rowsAt O5.out).2]; exact HTL.out, O5, F5, G5⟩
  case rest =>
  clear HRD0 HTL HSZ
  obtain ⟨Ar, nr, kr, rfl, hnr, OR0, FR0, GR⟩ := hcut
  obtain ⟨wb, hwb⟩ : ∃ x, x = wc := ⟨_, rfl⟩
  subst hwb
  have wbF : Hid (Fr [] w wb) := Lib.hid (waF.out.trans FR0.out)
  go_upto_region 3 with (fail)
  have HRD0 := reads_of_rows ((RowsAt.take (HR3.out.fr0 wbF.out) 20).fr0 ((Fr.refl [] wb).alloc (.cells #[] 31)))
  have HTL : Hid ((L3.take 20).length ≤ 20) := Lib.hid (by rw [List.length_take]; omega)
  have HSZ : Hid ((wb).heap.size ≤ ((wb).alloc (.cells #[] 31)).heap.size) := Lib.hid (by rw [World.size_alloc]; exact Nat.le_succ _)
  go_cut [3] (fun v wn => ∃ A' m c', v = .slice A' m c' ∧ m ≤ 20 ∧ Hid (RowsOwn wn (.slice A' m c') (L3.take 20)) ∧ Hid (Fr [] wb wn) ∧ Hid (∀ g, (Value.slice A' m c').ownBlock = some g → (wb).heap.size ≤ g))
  case first =>
    by_cases h20 : n3 ≤ 20
    · have HT : Hid (n3 = (L3.take 20).length) := Lib.hid (by rw [List.length_take, HL3.out]; omega)
      rw [← HT.out] at HRD0
      have HRD := Lib.hid HRD0
      have hmin : min (n3 : Int) 20 = n3 := by omega
      clear HRD0
      go_wp2_with (at_builtin; refine wpList_appendL rfl _ _ rfl TR RowV.cells_len RowV.cells_one rfl (own_empty wb) _ _ _ _ (L3.take 20) rfl HT.out HRD.out (by have := HTL.out; simp only [maxLen, List.length_nil]; omega) (by have := HTL.out; simp only [List.length_nil]; omega) ?_; intro v5 w5 hown5 hg5 hat5; obtain ⟨A5, n5, c5, hv5⟩ : ∃ A n c, v5 = .slice A n c := (match hown5.val with | ⟨_, _, hv⟩ => ⟨_, _, _, hv⟩); subst hv5; rw [List.nil_append] at hown5; have F5 := Lib.hid (((Fr.refl [] wb).alloc (.cells #[] 31)).grown hg5 (fun g hg => .inr (by injection hg with hg; rw [← hg]; exact Nat.le_refl _))); have G5 := Lib.hid (app_ge (W := wb) (own_lit _ _ _) HSZ.out hat5); have O5 := Lib.hid hown5; clear hown5 hg5 hat5)
      go_meet
      exact ⟨A5, n5, c5, rfl, by rw [(OwnL.rowsAt O5.out).2]; exact HTL.out, O5, F5, G5⟩
    · have HT : Hid (20 = (L3.take 20).length) := Lib.hid (by rw [List.length_take, HL3.out]; omega)
      rw [← HT.out] at HRD0
      have HRD := Lib.hid HRD0
      have hmin : min (n3 : Int) 20 = 20 := by omega
      clear HRD0
      go_wp2_with (at_builtin; refine wpList_appendL rfl _ _ rfl TR RowV.cells_len RowV.cells_one rfl (own_empty wb) _ _ _ _ (L3.take 20) rfl HT.out HRD.out (by have := HTL.out; simp only [maxLen, List.length_nil]; omega) (by have := HTL.out; simp only [List.length_nil]; omega) ?_; intro v5 w5 hown5 hg5 hat5; obtain ⟨A5, n5, c5, hv5⟩ : ∃ A n c, v5 = .slice A n c := (match hown5.val with | ⟨_, _, hv⟩ => ⟨_, _, _, hv⟩); subst hv5; rw [List.nil_append] at hown5; have F5 := Lib.hid (((Fr.refl [] wb).alloc (.cells #[] 31)).grown hg5 (fun g hg => .inr (by injection hg with hg; rw [← hg]; exact Nat.le_refl _))); have G5 := Lib.hid (app_ge (W := wb) (own_lit _ _ _) HSZ.out hat5); have O5 := Lib.hid hown5; clear hown5 hg5 hat5)
      go_meet
      exact ⟨A5, n5, c5, rfl, by rw [(OwnL.rowsAt O5.out).2]; exact HTL.out, O5, F5, G5⟩
  case rest =>
  clear HRD0 HTL HSZ
  obtain ⟨As, ns, ks, rfl, hns, OS0, FS0, GS⟩ := hcut
  obtain ⟨wd, hwd⟩ : ∃ x, x = wc := ⟨_, rfl⟩
  subst hwd
  have RK0 : Hid (ClRel wa wd wd Ar nr kr (L2.take 20) 0 0) := Lib.hid ⟨OR0.out.fr FS0.out (by simp), ((OwnL.rowsAt OR0.out).2).symm, fun r hr => HF2.out r (List.mem_of_mem_take hr), fun j _ h => absurd h (by omega), fun _ j h => absurd h (by omega), FR0.out.trans FS0.out, GR.out, Fr.refl _ _⟩
  have HAB : Hid (∀ g, (Value.slice Ar nr kr).ownBlock = some g → g < wb.heap.size) := Lib.hid (fun g hg => by
    rcases OR0.out.2 with ⟨hv, _⟩ | ⟨g', cap, cur, hv, _, hh, _⟩
    · rw [hv] at hg; simp [Value.ownBlock] at hg
    · rw [hv] at hg
      simp [Value.ownBlock] at hg
      subst hg
      exact Blk.lt (show Blk wb _ _ cur from hh))
  clear OR0
  go_wp2_with fail
  go_loopw [12] (fun i wr => ∃ (k : Nat) (R : List RowV), k ≤ nr ∧ i = .int .i64 k ∧ Hid (ClRel wa wd wr Ar nr kr R k 0)) (fun i _ => nr - (intOf i).toNat)
  case atStart => exact ⟨0, _, Nat.zero_le _, rfl, RK0⟩
  case round =>
    clear RK0
    obtain ⟨k, R, hk, rfl, K⟩ := hrel
    by_cases hlt : k < nr
    · obtain ⟨wo, hwo⟩ : ∃ x, x = wr := ⟨_, rfl⟩
      subst hwo
      go_wp2_with fail
      go_loopw [13] (fun i wi => ∃ (j : Nat) (R : List RowV), j ≤ 3 ∧ i = .int .i64 j ∧ Hid (ClRel wa wd wi Ar nr kr R k j)) (fun i _ => 3 - (intOf i).toNat)
      case atStart => exact ⟨0, R, by omega, rfl, K⟩
      case round =>
        clear K
        obtain ⟨j, R2, hj, rfl, K⟩ := hrel
        by_cases hj3 : j < 3
        · obtain ⟨g, z, hA, hgl, hcell, hfz, hok, hset⟩ := K.out.at_ hlt hj3
          subst hA
          obtain ⟨z', hz'⟩ : ∃ z', min (max z (-1000000000000)) 1000000000000 = z' := ⟨_, rfl⟩
          have hz12 : near12 z' := by unfold near12; omega
          have l0 : ∀ p : Later wr, p.w.cell? ⟨g, k * 5 + 2 + j, none⟩ = some (.int .i64 z) := fun p => p.cell hgl hcell
          clear hfz hcell hset hok
          go_upto_region 10 with (fail)
          refine wp_region_quiet_tail (C := fun w' => ∃ p : Later wr, w' = p.w) 15 (by kernel_rfl) (by kernel_rfl) ⟨⟨_, (Fr.refl [] wr).drew⟩, rfl⟩ ?_
          simp only [List.take_succ_cons, List.take_zero, List.drop_succ_cons, List.drop_zero]
          repeat (go_big_quiet_step (fail))
          refine wpQuiet_nil ?_
          rintro wq ⟨p, hp⟩
          have fq : Fr [] wr wq := hp ▸ p.fr
          clear hp p l0
          obtain ⟨g', zz, hA', hgl', hcell, hfz, -, hset⟩ := (K.out.fr0 fq).at_ hlt hj3
          injection hA' with hA'
          injection hA' with hA' _ _
          subst hA'
          obtain ⟨R3, hR3⟩ := hset z' hz12
          have HR3' := Lib.hid hR3
          clear hset hR3 hz12
          go_wp2_with fail
          go_roundw
          case rel => exact ⟨j + 1, R3, by omega, by go_num, HR3'⟩
          case measure => simp [intOf]; omega
        · obtain rfl : j = 3 := by omega
          have KN := Lib.hid K.out.next
          go_wp2_with fail
          go_roundw
          case rel => exact ⟨k + 1, R2, by omega, by go_num, KN⟩
          case measure => simp [intOf]; omega
    obtain rfl : k = nr := by omega
    have hnrl := K.out.len
    have HRB : Hid (∀ r ∈ R, near12 r.x ∧ near12 r.y ∧ near12 r.z) := Lib.hid (fun r hr => by
      obtain ⟨j, hj, rfl⟩ := List.getElem_of_mem hr
      exact K.out.bd j hj (by omega))
    have HRF : Hid (∀ r ∈ R, RowFit r) := Lib.hid K.out.fit
    have HRN : Hid (k = R.length) := Lib.hid hnrl.symm
    have HSN : Hid (ns = (L3.take 20).length) := Lib.hid (OwnL.rowsAt OS0.out).2
    have HSF : Hid (∀ r ∈ L3.take 20, RowFit r) := Lib.hid (fun r hr => HF3.out r (List.mem_of_mem_take hr))
    have OSr := Lib.hid (OS0.out.fr K.out.fr2 (fun g hg hm => by
      have h1 := GS.out g hg
      have h2 := HAB.out g (Option.mem_toList.1 hm)
      omega))
    have HQr := Lib.hid (HQ1.out.fr K.out.fr (by simp))
    have H4r := Lib.hid (H41.out.fr K.out.fr (by simp))
    have H5r := Lib.hid (H51.out.fr K.out.fr (by simp))
    have HR4r := Lib.hid (RowsAt.take ((HR4.out.fr0 waF.out).fr0 K.out.fr) 20)
    have HR4w := Lib.hid (RowsAt.take HR4.out 20)
    have FWr := Lib.hid (FA.out.trans K.out.fr)
    have hwa5 := Blk.lt H51.out
    have hwb5 := FR0.out.size
    have hwlt : w.heap.size + 1 + 1 < wa.heap.size := hwa5
    clear hnrl OS0 HQ1 H41 H51 GR FR0 FS0 waF wbF hwa5
    go_upto_region 11 with (fail)
    have y0 := H5r.out.c0
    have z0 := H5r.out.z 0
    go_cut [] (fun wn => ∃ m, m ≤ 20 ∧ Hid (m = (L4.take 20).length) ∧ Hid (RsAt wn (w.heap.size + 1 + 1) (.slice A4 m c4) z4 f4) ∧ Hid (Fr [w.heap.size + 1 + 1] wr wn))
    case first =>
      by_cases h20 : n4 ≤ 20
      · have hmin : min (n4 : Int) 20 = n4 := by omega
        have RE := Lib.hid (Blk.set_ H5r.out 0 (.slice A4 n4 c4))
        go_wp2_with fail
        all_goals
          go_meet
          exact ⟨n4, h20, Lib.hid (by rw [List.length_take, HL4.out]; omega), RE, Lib.hid ((Fr.refl _ _).setCell (.inl (by simp)) _)⟩
      · have hmin : min (n4 : Int) 20 = 20 := by omega
        have RE := Lib.hid (Blk.set_ H5r.out 0 (.slice A4 20 c4))
        go_wp2_with fail
        all_goals
          go_meet
          exact ⟨20, Nat.le_refl _, Lib.hid (by rw [List.length_take, HL4.out]; omega), RE, Lib.hid ((Fr.refl _ _).setCell (.inl (by simp)) _)⟩
    case rest =>
    obtain ⟨m4, hm4, HM4, H5c, FC⟩ := hcut
    have LR : Hid (RowsAt wc Ar R) := Lib.hid (OwnL.rowsAt (K.out.own.fr FC.out (fun g hg => by have := K.out.new g hg; simp only [List.mem_singleton]; omega))).1
    have LS : Hid (RowsAt wc As (L3.take 20)) := Lib.hid (OwnL.rowsAt (OSr.out.fr FC.out (fun g hg => by have := GS.out g hg; simp only [List.mem_singleton]; omega))).1
    have L4c : Hid (RowsAt wc A4 (L4.take 20)) := Lib.hid (RowsAt.frn HR4w.out HR4r.out (by omega) FC.out)
    have HQc := Lib.hid (HQr.out.fr FC.out (by simp; omega))
    have H4c := Lib.hid (H4r.out.fr FC.out (by simp))
    have FWc : Hid (Fr [] w wc) := Lib.hid (FWr.out.trans' FC.out (fun x hx => .inr (by simp only [List.mem_singleton] at hx; omega)))
    clear y0 z0 K OSr HQr H4r H5r HR4r HR4w FWr FC GS HAB
    have g0 := H4c.out.cells.1
    have g1 := H4c.out.cells.2.1
    have g2 := H4c.out.cells.2.2.1
    have g3 := H4c.out.cells.2.2.2
    have q0 := HQc.out.c0
    have q1 := HQc.out.c1
    have q2 := HQc.out.c2
    have q3 := HQc.out.c3
    have q4 := HQc.out.c4
    have q5 := HQc.out.c5
    have q6 := HQc.out.c6
    dsimp only at q0 q1 q2 q3 q4 q5 q6
    go_upto_region 12 with (fail)
    have FD := Lib.hid (Fr.refl [] wc).drew
    go_region_held3 (fun w' => (w'.cell? ⟨w.heap.size, 0, none⟩ = some (.int .i64 rk) ∧ w'.cell? ⟨w.heap.size, 1, none⟩ = some (.int .i64 rt) ∧ w'.cell? ⟨w.heap.size, 2, none⟩ = some (.int .i64 rc) ∧ w'.cell? ⟨w.heap.size, 3, none⟩ = some (.int .i64 rl) ∧ w'.cell? ⟨w.heap.size, 4, none⟩ = some (.int .i64 rh) ∧ w'.cell? ⟨w.heap.size, 5, none⟩ = some (.int .i64 rb) ∧ w'.cell? ⟨w.heap.size, 6, none⟩ = some (.int .i64 ro)) ∧ w'.cell? ⟨w.heap.size + 1, 0, none⟩ = some (.int .i64 x0) ∧ w'.cell? ⟨w.heap.size + 1, 1, none⟩ = some (.int .i64 x1) ∧ w'.cell? ⟨w.heap.size + 1, 2, none⟩ = some (.int .i64 x2) ∧ w'.cell? ⟨w.heap.size + 1, 3, none⟩ = some (.int .i64 x3))
      (first | exact ⟨⟨q0, q1, q2, q3, q4, q5, q6⟩, g0, g1, g2, g3⟩ | exact ⟨⟨QY.out.c0, QY.out.c1, QY.out.c2, QY.out.c3, QY.out.c4, QY.out.c5, QY.out.c6⟩, FY4.out.cells⟩ | exact ⟨⟨QZ.out.c0, QZ.out.c1, QZ.out.c2, QZ.out.c3, QZ.out.c4, QZ.out.c5, QZ.out.c6⟩, FZ4.out.cells⟩ | go_keep)
      ((go_at_call 12; refine (query6_any _ x1 x2 x3 _ O0.out O1.out O2.out O3.out).mono ?_; rintro e wy ⟨⟨qk, qt, qc, ql, qh, qb, qo⟩, rfl, hq, fy⟩; have HQY := Lib.hid hq; have FY := Lib.hid (FD.out.trans fy); have QY := Lib.hid (HQc.out.fr FY.out (by simp)); have FY4 := Lib.hid (H4c.out.fr FY.out (by simp)); have QZ := Lib.hid (QY.out.fr ((Fr.refl [] wy).alloc (.cells #[.int .i64 rk, .int .i64 rt, .int .i64 rc, .int .i64 rl, .int .i64 rh, .int .i64 rb, .int .i64 ro, .int .i64 qk, .int .i64 qt, .int .i64 qc, .int .i64 ql, .int .i64 qh, .int .i64 qb, .int .i64 qo] 23)) (by simp)); have FZ4 := Lib.hid (FY4.out.fr ((Fr.refl [] wy).alloc (.cells #[.int .i64 rk, .int .i64 rt, .int .i64 rc, .int .i64 rl, .int .i64 rh, .int .i64 rb, .int .i64 ro, .int .i64 qk, .int .i64 qt, .int .i64 qc, .int .i64 ql, .int .i64 qh, .int .i64 qb, .int .i64 qo] 23)) (by simp)); clear hq fy))
    have FZ := Lib.hid (FY.out.alloc (.cells #[.int .i64 rk, .int .i64 rt, .int .i64 rc, .int .i64 rl, .int .i64 rh, .int .i64 rb, .int .i64 ro, .int .i64 qk, .int .i64 qt, .int .i64 qc, .int .i64 ql, .int .i64 qh, .int .i64 qb, .int .i64 qo] 23))
    have BZ := Lib.hid (Blk.new wy 23 #[.int .i64 rk, .int .i64 rt, .int .i64 rc, .int .i64 rl, .int .i64 rh, .int .i64 rb, .int .i64 ro, .int .i64 qk, .int .i64 qt, .int .i64 qc, .int .i64 ql, .int .i64 qh, .int .i64 qb, .int .i64 qo])
    clear q0 q1 q2 q3 q4 q5 q6 g0 g1 g2 g3 QY FY4 QZ FZ4 FD
    generalize hwz : wy.alloc (.cells #[.int .i64 rk, .int .i64 rt, .int .i64 rc, .int .i64 rl, .int .i64 rh, .int .i64 rb, .int .i64 ro, .int .i64 qk, .int .i64 qt, .int .i64 qc, .int .i64 ql, .int .i64 qh, .int .i64 qb, .int .i64 qo] 23) = w7 at *
    clear hwz
    generalize wy.heap.size = gz at *
    have LR7 := Lib.hid (LR.out.fr0 FZ.out)
    have LS7 := Lib.hid (LS.out.fr0 FZ.out)
    have L47 := Lib.hid (L4c.out.fr0 FZ.out)
    have H57 := Lib.hid (H5c.out.fr FZ.out (by simp))
    have FW7 := Lib.hid (FWc.out.trans FZ.out)
    clear LR LS L4c H5c FWc FZ FY HQc H4c
    obtain ⟨g9, hg9⟩ : ∃ g, w.heap.size + 1 + 1 = g := ⟨_, rfl⟩
    rw [hg9] at H57 ⊢
    have HEF : Hid (∀ (W : World) (z : Qry), RowsAt W Ar R → RowsAt W As (L3.take 20) → Calls Try.prog 13 #[z.val, .slice Ar k kr, .slice As ns ks] W fun e w' => ∃ v, e = .returned (.agg #[v, .int .i64 (Em.res z R (L3.take 20)).value, .bool (Em.res z R (L3.take 20)).found]) ∧ ResO W w' v (Em.res z R (L3.take 20)).rows) := Lib.hid (fun W z h1 h2 => efrom_any z Ar k kr R As ns ks (L3.take 20) W h1 HRN.out (by omega) h2 HSN.out (by omega) (fun _ r hr => (HRF.out r hr).value _) (fun r hr => (HSF.out r hr).k) (fun hv h4 r hr => RowV.near (HRB.out r hr) (Em.valid_by hv (by omega))))
    have HRE : Hid (∀ (W : World) (z : Qry), RowsAt W Ar R → RowsAt W As (L3.take 20) → Calls Try.prog 14 #[z.val, .slice Ar k kr, .slice As ns ks] W fun e w' => ∃ v, e = .returned (.agg #[v, .int .i64 (Em.res z R (L3.take 20)).value, .bool (Em.res z R (L3.take 20)).found]) ∧ ResO W w' v (Em.res z R (L3.take 20)).rows) := Lib.hid (fun W z h1 h2 => rfrom_any z Ar k kr R As ns ks (L3.take 20) W h1 HRN.out (by omega) h2 HSN.out (by omega) (fun hv h4 r hr => RowV.near (HRB.out r hr) (Em.valid_by hv h4)))
    have HLN : Hid (∀ z, (Em.res z R (L3.take 20)).rows.length ≤ 4000) := Lib.hid (fun z => by have h := Em.res_len z R (L3.take 20); rw [← HRN.out] at h; omega)
    generalize L3.take 20 = SS at *
    generalize L4.take 20 = S4 at *
    have HM44 : Hid (S4.length ≤ 4000) := Lib.hid (by rw [← HM4.out]; omega)
    obtain ⟨kk, hkk⟩ : ∃ x, x = k := ⟨_, rfl⟩
    subst hkk
    go_wp2_with fail
    go_loopw [71] (fun i wr => ∃ k : Nat, k ≤ 2 ∧ i = .int .i64 k ∧ Hid (Fr [] w7 wr)) (fun i _ => 2 - (intOf i).toNat)
    case atStart => exact ⟨0, Nat.zero_le _, rfl, Lib.hid (Fr.refl _ _)⟩
    case round =>
      obtain ⟨k, hk, rfl, HF⟩ := hrel
      have hk3 : k = 0 ∨ k = 1 ∨ k = 2 := by omega
      have BR := Lib.hid (BZ.out.fr HF.out (by simp))
      rcases hk3 with rfl | rfl | rfl
      · have c0 : wr.cell? ⟨gz, 0, none⟩ = some (.int .i64 rk) := BR.out.cell 0
        have c1 : wr.cell? ⟨gz, 1, none⟩ = some (.int .i64 rt) := BR.out.cell 1
        have c2 : wr.cell? ⟨gz, 2, none⟩ = some (.int .i64 rc) := BR.out.cell 2
        have c3 : wr.cell? ⟨gz, 3, none⟩ = some (.int .i64 rl) := BR.out.cell 3
        have c4 : wr.cell? ⟨gz, 4, none⟩ = some (.int .i64 rh) := BR.out.cell 4
        have c5 : wr.cell? ⟨gz, 5, none⟩ = some (.int .i64 rb) := BR.out.cell 5
        have c6 : wr.cell? ⟨gz, 6, none⟩ = some (.int .i64 ro) := BR.out.cell 6
        go_upto_region 15 with (fail)
        have FA9 := Lib.hid (HF.out.alloc (.cells #[.int .i64 rk, .int .i64 rt, .int .i64 rc, .int .i64 rl, .int .i64 rh, .int .i64 rb, .int .i64 ro] 23))
        have QA := Lib.hid (QAt.new wr ⟨rk, rt, rc, rl, rh, rb, ro⟩)
        clear c0 c1 c2 c3 c4 c5 c6 BR
        generalize hw8 : wr.alloc (.cells #[.int .i64 rk, .int .i64 rt, .int .i64 rc, .int .i64 rl, .int .i64 rh, .int .i64 rb, .int .i64 ro] 23) = w8 at *
        clear hw8
        generalize wr.heap.size = ga at *
        have c0 := QA.out.c0
        have c1 := QA.out.c1
        have c2 := QA.out.c2
        have c3 := QA.out.c3
        have c4 := QA.out.c4
        have c5 := QA.out.c5
        have c6 := QA.out.c6
        dsimp only at c0 c1 c2 c3 c4 c5 c6
        have H1 := Lib.hid (HEF.out w8 ⟨rk, rt, rc, rl, rh, rb, ro⟩ (LR7.out.fr0 FA9.out) (LS7.out.fr0 FA9.out))
        obtain ⟨⟨er, ev_, ef⟩, HE⟩ : ∃ r, Hid (Em.res ⟨rk, rt, rc, rl, rh, rb, ro⟩ R SS = r) := ⟨_, Lib.hid rfl⟩
        have HEL : Hid (er.length ≤ 4000) := Lib.hid (by have h := HLN.out ⟨rk, rt, rc, rl, rh, rb, ro⟩; rw [HE.out] at h; exact h)
        rw [HE.out] at H1
        unfold Qry.val at H1
        dsimp only at H1
        go_upto_region 16 with (go_at_call 13; refine H1.out.mono ?_; rintro e wo ⟨vo, rfl, hres⟩; obtain ⟨Ao, no, ko, hvo⟩ : ∃ A n c, vo = .slice A n c := (match hres.own.val with | ⟨_, _, hv⟩ => ⟨_, _, _, hv⟩); subst hvo; have FO := Lib.hid hres.fr; have LO := Lib.hid (OwnL.rowsAt hres.own); clear hres)
        have F9 := Lib.hid (FO.out.alloc (.cells #[.slice Ao no ko, .int .i64 ev_, .bool ef] 27))
        have RO := Lib.hid (RsAt.new wo (.slice Ao no ko) ev_ ef)
        have LO9 := Lib.hid (LO.out.1.fr0 ((Fr.refl [] wo).alloc (.cells #[.slice Ao no ko, .int .i64 ev_, .bool ef] 27)))
        have HNO := Lib.hid LO.out.2
        have Q9 := Lib.hid (QA.out.fr F9.out (by simp))
        clear c0 c1 c2 c3 c4 c5 c6 H1 LO QA FO
        generalize hw9 : wo.alloc (.cells #[.slice Ao no ko, .int .i64 ev_, .bool ef] 27) = w9 at *
        clear hw9
        generalize wo.heap.size = go at *
        have c0 := Q9.out.c0
        have c1 := Q9.out.c1
        have c2 := Q9.out.c2
        have c3 := Q9.out.c3
        have c4 := Q9.out.c4
        have c5 := Q9.out.c5
        have c6 := Q9.out.c6
        dsimp only at c0 c1 c2 c3 c4 c5 c6
        have H2 := Lib.hid (HRE.out w9 ⟨rk, rt, rc, rl, rh, rb, ro⟩ (LR7.out.fr0 (FA9.out.trans F9.out)) (LS7.out.fr0 (FA9.out.trans F9.out)))
        rw [HE.out] at H2
        unfold Qry.val at H2
        dsimp only at H2
        go_upto_region 17 with (go_at_call 14; refine H2.out.mono ?_; rintro e wo ⟨vp, rfl, hres⟩; obtain ⟨Ap, np, kp, hvp⟩ : ∃ A n c, vp = .slice A n c := (match hres.own.val with | ⟨_, _, hv⟩ => ⟨_, _, _, hv⟩); subst hvp; have FP := Lib.hid hres.fr; have LP := Lib.hid (OwnL.rowsAt hres.own); clear hres)
        have F10 := Lib.hid (FP.out.alloc (.cells #[.slice Ap np kp, .int .i64 ev_, .bool ef] 27))
        have RP := Lib.hid (RsAt.new wo (.slice Ap np kp) ev_ ef)
        have LP10 := Lib.hid (LP.out.1.fr0 ((Fr.refl [] wo).alloc (.cells #[.slice Ap np kp, .int .i64 ev_, .bool ef] 27)))
        have hnp : np = no := by rw [LP.out.2, HNO.out]
        subst hnp
        have RO10 := Lib.hid (RO.out.fr F10.out (by simp))
        have LO10 := Lib.hid (LO9.out.fr0 F10.out)
        have FT10 := Lib.hid ((FA9.out.trans F9.out).trans F10.out)
        clear c0 c1 c2 c3 c4 c5 c6 H2 LP Q9 FP RO LO9
        generalize hw10 : wo.alloc (.cells #[.slice Ap np kp, .int .i64 ev_, .bool ef] 27) = w10 at *
        clear hw10
        generalize wo.heap.size = gp at *
        have H510 := Lib.hid (H57.out.fr FT10.out (by simp))
        have L410 := Lib.hid (L47.out.fr0 FT10.out)
        have a0 : ∀ p : Later w10, p.w.cell? ⟨go, 0, none⟩ = some (.slice Ao np ko) := fun p => p.cell (Blk.lt RO10.out) RO10.out.c0
        have a1 : ∀ p : Later w10, p.w.cell? ⟨go, 1, none⟩ = some (.int .i64 ev_) := fun p => p.cell (Blk.lt RO10.out) RO10.out.c1
        have a2 : ∀ p : Later w10, p.w.cell? ⟨go, 2, none⟩ = some (.bool ef) := fun p => p.cell (Blk.lt RO10.out) RO10.out.c2
        have b0 : ∀ p : Later w10, p.w.cell? ⟨gp, 0, none⟩ = some (.slice Ap np kp) := fun p => p.cell (Blk.lt RP.out) RP.out.c0
        have b1 : ∀ p : Later w10, p.w.cell? ⟨gp, 1, none⟩ = some (.int .i64 ev_) := fun p => p.cell (Blk.lt RP.out) RP.out.c1
        have b2 : ∀ p : Later w10, p.w.cell? ⟨gp, 2, none⟩ = some (.bool ef) := fun p => p.cell (Blk.lt RP.out) RP.out.c2
        have r0 : ∀ p : Later w10, p.w.cell? ⟨g9, 0, none⟩ = some (.slice A4 m4 c4) := fun p => p.cell (Blk.lt H510.out) H510.out.c0
        have r1 : ∀ p : Later w10, p.w.cell? ⟨g9, 1, none⟩ = some (.int .i64 z4) := fun p => p.cell (Blk.lt H510.out) H510.out.c1
        have r2 : ∀ p : Later w10, p.w.cell? ⟨g9, 2, none⟩ = some (.bool f4) := fun p => p.cell (Blk.lt H510.out) H510.out.c2
        obtain ⟨X, HXX⟩ : ∃ X, Hid (decide ((⟨er, ev_, ef⟩ : Res) = ⟨S4, z4, f4⟩) = X) := ⟨_, Lib.hid rfl⟩
        have HSM : Hid (∀ W : World, Fr [] w10 W → Calls Try.prog 15 #[.agg #[.slice Ao np ko, .int .i64 ev_, .bool ef], .agg #[.slice Ap np kp, .int .i64 ev_, .bool ef]] W fun e w' => e = .returned (.bool true) ∧ Fr [] W w') := Lib.hid (fun W hf => by
          have h := rsame_any Ao np ko ev_ ef er Ap np kp ev_ ef er W (LO10.out.fr0 hf) HNO.out (LP10.out.fr0 hf) HNO.out (by rw [HNO.out]; exact HEL.out) (by rw [HNO.out]; exact HEL.out)
          rwa [decide_eq_true rfl] at h)
        have HS1 : Hid (∀ W : World, Fr [] w10 W → Calls Try.prog 16 #[.agg #[.slice Ao np ko, .int .i64 ev_, .bool ef], .agg #[.slice A4 m4 c4, .int .i64 z4, .bool f4]] W fun e w' => e = .returned (.bool X) ∧ Fr [] W w') := Lib.hid (fun W hf => by
          have h := esame_any Ao np ko ev_ ef er A4 m4 c4 z4 f4 S4 W (LO10.out.fr0 hf) HNO.out (L410.out.fr0 hf) HM4.out (by rw [HNO.out]; exact HEL.out) (by omega)
          rwa [HXX.out] at h)
        have HS2 : Hid (∀ W : World, Fr [] w10 W → Calls Try.prog 15 #[.agg #[.slice Ao np ko, .int .i64 ev_, .bool ef], .agg #[.slice A4 m4 c4, .int .i64 z4, .bool f4]] W fun e w' => e = .returned (.bool X) ∧ Fr [] W w') := Lib.hid (fun W hf => by
          have h := rsame_any Ao np ko ev_ ef er A4 m4 c4 z4 f4 S4 W (LO10.out.fr0 hf) HNO.out (L410.out.fr0 hf) HM4.out (by rw [HNO.out]; exact HEL.out) (by omega)
          rwa [HXX.out] at h)
        have hnp4 : np ≤ 4000 := by rw [HNO.out]; exact HEL.out
        have HZ1 := Lib.hid (fun W => esize_any (n := np) Ao ko ev_ ef W hnp4)
        have HZ2 := Lib.hid (fun W => rsize_any (n := np) Ap kp ev_ ef W hnp4)
        refine wp_region_later (by kernel_rfl) (by kernel_rfl) ?_
        repeat (go_big_quiet_step (first | (with_reducible exact Later.calls (HSM.out _ (Later.fr _))) | (with_reducible exact Later.calls (HS1.out _ (Later.fr _))) | (with_reducible exact Later.calls (HS2.out _ (Later.fr _))) | (with_reducible exact Later.calls (HZ1.out _)) | (with_reducible exact Later.calls (HZ2.out _))))
        refine wpQuiet_nil ?_
        rintro wq ⟨p, hp⟩
        have fq : Fr [] w10 wq := hp ▸ p.fr
        clear hp p a0 a1 a2 b0 b1 b2 r0 r1 r2
        have FU := Lib.hid (FT10.out.trans fq)
        clear fq
        go_wp2_with fail
        go_roundw
        case rel => exact ⟨1, by omega, by go_num, FU⟩
        case measure => simp [intOf]
      · have c0 : wr.cell? ⟨gz, 7, none⟩ = some (.int .i64 qk) := BR.out.cell 7
        have c1 : wr.cell? ⟨gz, 8, none⟩ = some (.int .i64 qt) := BR.out.cell 8
        have c2 : wr.cell? ⟨gz, 9, none⟩ = some (.int .i64 qc) := BR.out.cell 9
        have c3 : wr.cell? ⟨gz, 10, none⟩ = some (.int .i64 ql) := BR.out.cell 10
        have c4 : wr.cell? ⟨gz, 11, none⟩ = some (.int .i64 qh) := BR.out.cell 11
        have c5 : wr.cell? ⟨gz, 12, none⟩ = some (.int .i64 qb) := BR.out.cell 12
        have c6 : wr.cell? ⟨gz, 13, none⟩ = some (.int .i64 qo) := BR.out.cell 13
        go_upto_region 15 with (fail)
        have FA9 := Lib.hid (HF.out.alloc (.cells #[.int .i64 qk, .int .i64 qt, .int .i64 qc, .int .i64 ql, .int .i64 qh, .int .i64 qb, .int .i64 qo] 23))
        have QA := Lib.hid (QAt.new wr ⟨qk, qt, qc, ql, qh, qb, qo⟩)
        clear c0 c1 c2 c3 c4 c5 c6 BR
        generalize hw8 : wr.alloc (.cells #[.int .i64 qk, .int .i64 qt, .int .i64 qc, .int .i64 ql, .int .i64 qh, .int .i64 qb, .int .i64 qo] 23) = w8 at *
        clear hw8
        generalize wr.heap.size = ga at *
        have c0 := QA.out.c0
        have c1 := QA.out.c1
        have c2 := QA.out.c2
        have c3 := QA.out.c3
        have c4 := QA.out.c4
        have c5 := QA.out.c5
        have c6 := QA.out.c6
        dsimp only at c0 c1 c2 c3 c4 c5 c6
        have H1 := Lib.hid (HEF.out w8 ⟨qk, qt, qc, ql, qh, qb, qo⟩ (LR7.out.fr0 FA9.out) (LS7.out.fr0 FA9.out))
        obtain ⟨⟨er, ev_, ef⟩, HE⟩ : ∃ r, Hid (Em.res ⟨qk, qt, qc, ql, qh, qb, qo⟩ R SS = r) := ⟨_, Lib.hid rfl⟩
        have HEL : Hid (er.length ≤ 4000) := Lib.hid (by have h := HLN.out ⟨qk, qt, qc, ql, qh, qb, qo⟩; rw [HE.out] at h; exact h)
        rw [HE.out] at H1
        unfold Qry.val at H1
        dsimp only at H1
        go_upto_region 16 with (go_at_call 13; refine H1.out.mono ?_; rintro e wo ⟨vo, rfl, hres⟩; obtain ⟨Ao, no, ko, hvo⟩ : ∃ A n c, vo = .slice A n c := (match hres.own.val with | ⟨_, _, hv⟩ => ⟨_, _, _, hv⟩); subst hvo; have FO := Lib.hid hres.fr; have LO := Lib.hid (OwnL.rowsAt hres.own); clear hres)
        have F9 := Lib.hid (FO.out.alloc (.cells #[.slice Ao no ko, .int .i64 ev_, .bool ef] 27))
        have RO := Lib.hid (RsAt.new wo (.slice Ao no ko) ev_ ef)
        have LO9 := Lib.hid (LO.out.1.fr0 ((Fr.refl [] wo).alloc (.cells #[.slice Ao no ko, .int .i64 ev_, .bool ef] 27)))
        have HNO := Lib.hid LO.out.2
        have Q9 := Lib.hid (QA.out.fr F9.out (by simp))
        clear c0 c1 c2 c3 c4 c5 c6 H1 LO QA FO
        generalize hw9 : wo.alloc (.cells #[.slice Ao no ko, .int .i64 ev_, .bool ef] 27) = w9 at *
        clear hw9
        generalize wo.heap.size = go at *
        have c0 := Q9.out.c0
        have c1 := Q9.out.c1
        have c2 := Q9.out.c2
        have c3 := Q9.out.c3
        have c4 := Q9.out.c4
        have c5 := Q9.out.c5
        have c6 := Q9.out.c6
        dsimp only at c0 c1 c2 c3 c4 c5 c6
        have H2 := Lib.hid (HRE.out w9 ⟨qk, qt, qc, ql, qh, qb, qo⟩ (LR7.out.fr0 (FA9.out.trans F9.out)) (LS7.out.fr0 (FA9.out.trans F9.out)))
        rw [HE.out] at H2
        unfold Qry.val at H2
        dsimp only at H2
        go_upto_region 17 with (go_at_call 14; refine H2.out.mono ?_; rintro e wo ⟨vp, rfl, hres⟩; obtain ⟨Ap, np, kp, hvp⟩ : ∃ A n c, vp = .slice A n c := (match hres.own.val with | ⟨_, _, hv⟩ => ⟨_, _, _, hv⟩); subst hvp; have FP := Lib.hid hres.fr; have LP := Lib.hid (OwnL.rowsAt hres.own); clear hres)
        have F10 := Lib.hid (FP.out.alloc (.cells #[.slice Ap np kp, .int .i64 ev_, .bool ef] 27))
        have RP := Lib.hid (RsAt.new wo (.slice Ap np kp) ev_ ef)
        have LP10 := Lib.hid (LP.out.1.fr0 ((Fr.refl [] wo).alloc (.cells #[.slice Ap np kp, .int .i64 ev_, .bool ef] 27)))
        have hnp : np = no := by rw [LP.out.2, HNO.out]
        subst hnp
        have RO10 := Lib.hid (RO.out.fr F10.out (by simp))
        have LO10 := Lib.hid (LO9.out.fr0 F10.out)
        have FT10 := Lib.hid ((FA9.out.trans F9.out).trans F10.out)
        clear c0 c1 c2 c3 c4 c5 c6 H2 LP Q9 FP RO LO9
        generalize hw10 : wo.alloc (.cells #[.slice Ap np kp, .int .i64 ev_, .bool ef] 27) = w10 at *
        clear hw10
        generalize wo.heap.size = gp at *
        have H510 := Lib.hid (H57.out.fr FT10.out (by simp))
        have L410 := Lib.hid (L47.out.fr0 FT10.out)
        have a0 : ∀ p : Later w10, p.w.cell? ⟨go, 0, none⟩ = some (.slice Ao np ko) := fun p => p.cell (Blk.lt RO10.out) RO10.out.c0
        have a1 : ∀ p : Later w10, p.w.cell? ⟨go, 1, none⟩ = some (.int .i64 ev_) := fun p => p.cell (Blk.lt RO10.out) RO10.out.c1
        have a2 : ∀ p : Later w10, p.w.cell? ⟨go, 2, none⟩ = some (.bool ef) := fun p => p.cell (Blk.lt RO10.out) RO10.out.c2
        have b0 : ∀ p : Later w10, p.w.cell? ⟨gp, 0, none⟩ = some (.slice Ap np kp) := fun p => p.cell (Blk.lt RP.out) RP.out.c0
        have b1 : ∀ p : Later w10, p.w.cell? ⟨gp, 1, none⟩ = some (.int .i64 ev_) := fun p => p.cell (Blk.lt RP.out) RP.out.c1
        have b2 : ∀ p : Later w10, p.w.cell? ⟨gp, 2, none⟩ = some (.bool ef) := fun p => p.cell (Blk.lt RP.out) RP.out.c2
        have r0 : ∀ p : Later w10, p.w.cell? ⟨g9, 0, none⟩ = some (.slice A4 m4 c4) := fun p => p.cell (Blk.lt H510.out) H510.out.c0
        have r1 : ∀ p : Later w10, p.w.cell? ⟨g9, 1, none⟩ = some (.int .i64 z4) := fun p => p.cell (Blk.lt H510.out) H510.out.c1
        have r2 : ∀ p : Later w10, p.w.cell? ⟨g9, 2, none⟩ = some (.bool f4) := fun p => p.cell (Blk.lt H510.out) H510.out.c2
        obtain ⟨X, HXX⟩ : ∃ X, Hid (decide ((⟨er, ev_, ef⟩ : Res) = ⟨S4, z4, f4⟩) = X) := ⟨_, Lib.hid rfl⟩
        have HSM : Hid (∀ W : World, Fr [] w10 W → Calls Try.prog 15 #[.agg #[.slice Ao np ko, .int .i64 ev_, .bool ef], .agg #[.slice Ap np kp, .int .i64 ev_, .bool ef]] W fun e w' => e = .returned (.bool true) ∧ Fr [] W w') := Lib.hid (fun W hf => by
          have h := rsame_any Ao np ko ev_ ef er Ap np kp ev_ ef er W (LO10.out.fr0 hf) HNO.out (LP10.out.fr0 hf) HNO.out (by rw [HNO.out]; exact HEL.out) (by rw [HNO.out]; exact HEL.out)
          rwa [decide_eq_true rfl] at h)
        have HS1 : Hid (∀ W : World, Fr [] w10 W → Calls Try.prog 16 #[.agg #[.slice Ao np ko, .int .i64 ev_, .bool ef], .agg #[.slice A4 m4 c4, .int .i64 z4, .bool f4]] W fun e w' => e = .returned (.bool X) ∧ Fr [] W w') := Lib.hid (fun W hf => by
          have h := esame_any Ao np ko ev_ ef er A4 m4 c4 z4 f4 S4 W (LO10.out.fr0 hf) HNO.out (L410.out.fr0 hf) HM4.out (by rw [HNO.out]; exact HEL.out) (by omega)
          rwa [HXX.out] at h)
        have HS2 : Hid (∀ W : World, Fr [] w10 W → Calls Try.prog 15 #[.agg #[.slice Ao np ko, .int .i64 ev_, .bool ef], .agg #[.slice A4 m4 c4, .int .i64 z4, .bool f4]] W fun e w' => e = .returned (.bool X) ∧ Fr [] W w') := Lib.hid (fun W hf => by
          have h := rsame_any Ao np ko ev_ ef er A4 m4 c4 z4 f4 S4 W (LO10.out.fr0 hf) HNO.out (L410.out.fr0 hf) HM4.out (by rw [HNO.out]; exact HEL.out) (by omega)
          rwa [HXX.out] at h)
        have hnp4 : np ≤ 4000 := by rw [HNO.out]; exact HEL.out
        have HZ1 := Lib.hid (fun W => esize_any (n := np) Ao ko ev_ ef W hnp4)
        have HZ2 := Lib.hid (fun W => rsize_any (n := np) Ap kp ev_ ef W hnp4)
        refine wp_region_later (by kernel_rfl) (by kernel_rfl) ?_
        repeat (go_big_quiet_step (first | (with_reducible exact Later.calls (HSM.out _ (Later.fr _))) | (with_reducible exact Later.calls (HS1.out _ (Later.fr _))) | (with_reducible exact Later.calls (HS2.out _ (Later.fr _))) | (with_reducible exact Later.calls (HZ1.out _)) | (with_reducible exact Later.calls (HZ2.out _))))
        refine wpQuiet_nil ?_
        rintro wq ⟨p, hp⟩
        have fq : Fr [] w10 wq := hp ▸ p.fr
        clear hp p a0 a1 a2 b0 b1 b2 r0 r1 r2
        have FU := Lib.hid (FT10.out.trans fq)
        clear fq
        go_wp2_with fail
        go_roundw
        case rel => exact ⟨2, by omega, by go_num, FU⟩
        case measure => simp [intOf]
      · have H510 := Lib.hid (H57.out.fr HF.out (by simp))
        have L410 := Lib.hid (L47.out.fr0 HF.out)
        go_upto_region 20 with (fail)
        have r0 : ∀ p : Later wr, p.w.cell? ⟨g9, 0, none⟩ = some (.slice A4 m4 c4) := fun p => p.cell (Blk.lt H510.out) H510.out.c0
        have r1 : ∀ p : Later wr, p.w.cell? ⟨g9, 1, none⟩ = some (.int .i64 z4) := fun p => p.cell (Blk.lt H510.out) H510.out.c1
        have r2 : ∀ p : Later wr, p.w.cell? ⟨g9, 2, none⟩ = some (.bool f4) := fun p => p.cell (Blk.lt H510.out) H510.out.c2
        have HS1 : Hid (∀ W : World, Fr [] wr W → Calls Try.prog 16 #[.agg #[.slice A4 m4 c4, .int .i64 z4, .bool f4], .agg #[.slice A4 m4 c4, .int .i64 z4, .bool f4]] W fun e w' => e = .returned (.bool true) ∧ Fr [] W w') := Lib.hid (fun W hf => by
          have h := esame_any A4 m4 c4 z4 f4 S4 A4 m4 c4 z4 f4 S4 W (L410.out.fr0 hf) HM4.out (L410.out.fr0 hf) HM4.out (by omega) (by omega)
          rwa [decide_eq_true rfl] at h)
        have HZ1 := Lib.hid (fun W => esize_any (n := m4) A4 c4 z4 f4 W (by omega))
        have HZ2 := Lib.hid (fun W => rsize_any (n := m4) A4 c4 z4 f4 W (by omega))
        refine wp_region_later (by kernel_rfl) (by kernel_rfl) ?_
        repeat (go_big_quiet_step (first | (with_reducible exact Later.calls (HS1.out _ (Later.fr _))) | (with_reducible exact Later.calls (HZ1.out _)) | (with_reducible exact Later.calls (HZ2.out _))))
        refine wpQuiet_nil ?_
        rintro wq ⟨p, hp⟩
        have fq : Fr [] wr wq := hp ▸ p.fr
        clear hp p r0 r1 r2
        have FU := Lib.hid fq
        clear fq
        go_wp2_with fail
        go_ret
        exact ⟨rfl, ((FW7.out.trans HF.out).trans FU.out).below⟩
end Go.Proofs.Ytlicjokgcahmlaa
