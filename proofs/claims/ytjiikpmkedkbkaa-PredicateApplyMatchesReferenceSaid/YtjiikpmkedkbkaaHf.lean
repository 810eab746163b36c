/-
  How great the result of a query on a state may be.
-/
import Derived.Test.YtjiikpmkedkbkaaHe
import Derived.Deep.RegionHeld3
import Derived.IntWalk
import Derived.Test.YtjiikpmkedkbkaaHc
import Derived.Test.YtjiikpmkedkbkaaGar
import Derived.Test.YtjiikpmkedkbkaaGau
import Derived.Test.YtjiikpmkedkbkaaGaj
import Derived.Test.YtjiikpmkedkbkaaRsB
namespace Go.Proofs.Ytjiikpmkedkbkaa
open Go.RowKit

def cntG (m : Int) (f : Bool) (_ : RowV) : Int × Bool := (wrap64 (m + 1), f)
def sumG (m : Int) (f : Bool) (x : Int) : Int × Bool := (wrap64 (m + x), f)
def exG (L : Int → Int → Bool) (m : Int) (f : Bool) (x : Int) : Int × Bool := (if f = false ∨ L x m = true then x else m, true)
def ltI (a b : Int) : Bool := decide (a < b)
def gtI (a b : Int) : Bool := decide (b < a)
namespace Em
theorem fold_count : ∀ (l : List RowV) (m : Int) (f : Bool) (r : List RowV), 0 ≤ m → m + l.length ≤ 1000000 → l.foldl count ⟨r, m, f⟩ = ⟨r, (foldS cntG l (m, f)).1, (foldS cntG l (m, f)).2⟩
  | [], m, f, r, _, _ => rfl
  | x :: l, m, f, r, h0, h1 => by
    rw [List.length_cons] at h1
    have hw : wrap64 (m + 1) = m + 1 := IntWalk.wrap64_in _ ⟨by omega, by omega⟩
    have ih := fold_count l (m + 1) f r (by omega) (by omega)
    unfold foldS at *
    rw [List.foldl_cons, List.foldl_cons]
    unfold cntG at *
    rw [hw]
    exact ih
theorem fold_plus : ∀ (l : List Int) (m : Int) (f : Bool) (r : List RowV) (B : Int), (∀ x ∈ l, -1000000000000 ≤ x ∧ x ≤ 1000000000000) → -B ≤ m → m ≤ B → B + 1000000000000 * l.length ≤ 9000000000000000000 →
    l.foldl plus ⟨r, m, f⟩ = ⟨r, (foldS sumG l (m, f)).1, (foldS sumG l (m, f)).2⟩
  | [], m, f, r, B, _, _, _, _ => rfl
  | x :: l, m, f, r, B, hx, h0, h1, hB => by
    rw [List.length_cons] at hB
    have hb := hx x (by simp)
    have hw : wrap64 (m + x) = m + x := IntWalk.wrap64_in _ ⟨by omega, by omega⟩
    have ih := fold_plus l (m + x) f r (B + 1000000000000) (fun y hy => hx y (by simp [hy])) (by omega) (by omega) (by omega)
    unfold foldS at *
    rw [List.foldl_cons, List.foldl_cons]
    unfold sumG at *
    rw [hw]
    exact ih
theorem fold_least : ∀ (l : List Int) (m : Int) (f : Bool) (r : List RowV), l.foldl least ⟨r, m, f⟩ = ⟨r, (foldS (exG ltI) l (m, f)).1, (foldS (exG ltI) l (m, f)).2⟩
  | [], m, f, r => rfl
  | x :: l, m, f, r => by
    have ih := fold_least l (if f = false ∨ x < m then x else m) true r
    unfold foldS at *
    rw [List.foldl_cons, List.foldl_cons]
    unfold exG ltI at *
    simp only [decide_eq_true_eq] at *
    exact ih
theorem fold_most : ∀ (l : List Int) (m : Int) (f : Bool) (r : List RowV), l.foldl most ⟨r, m, f⟩ = ⟨r, (foldS (exG gtI) l (m, f)).1, (foldS (exG gtI) l (m, f)).2⟩
  | [], m, f, r => rfl
  | x :: l, m, f, r => by
    have ih := fold_most l (if f = false ∨ m < x then x else m) true r
    unfold foldS at *
    rw [List.foldl_cons, List.foldl_cons]
    unfold exG gtI at *
    simp only [decide_eq_true_eq] at *
    exact ih
theorem res_bad {q : Qry} {rows others : List RowV} (hv : valid q = false) : res q rows others = ⟨[], 0, false⟩ := by
  unfold res
  rw [if_neg (by simp [hv])]
  rfl
theorem res_count {q : Qry} {rows others : List RowV} (hv : valid q = true) (hk : q.kind = 3) (hl : rows.length ≤ 4000) : res q rows others = ⟨[], (foldS cntG rows (0, false)).1, (foldS cntG rows (0, false)).2⟩ := by
  unfold res
  rw [if_pos hv, if_pos hk]
  exact fold_count rows 0 false [] (by omega) (by omega)
theorem res_sum {q : Qry} {rows others : List RowV} (hv : valid q = true) (hk : q.kind = 4) (hl : rows.length ≤ 4000) (hb : ∀ r ∈ rows, -1000000000000 ≤ r.value q.by_ ∧ r.value q.by_ ≤ 1000000000000) :
    res q rows others = ⟨[], (foldS sumG (meas q rows) (0, false)).1, (foldS sumG (meas q rows) (0, false)).2⟩ := by
  unfold res
  rw [if_pos hv, if_neg (by omega), if_pos hk]
  exact fold_plus (meas q rows) 0 false [] 0 (fun x hx => by
    unfold meas at hx
    obtain ⟨r, hr, rfl⟩ := List.mem_map.1 hx
    exact hb r hr) (by omega) (by omega) (by unfold meas; rw [List.length_map]; omega)
theorem res_min {q : Qry} {rows others : List RowV} (hv : valid q = true) (hk : q.kind = 5) : res q rows others = ⟨[], (foldS (exG ltI) (meas q rows) (0, false)).1, (foldS (exG ltI) (meas q rows) (0, false)).2⟩ := by
  unfold res
  rw [if_pos hv, if_neg (by omega), if_neg (by omega), if_pos hk]
  exact fold_least _ 0 false []
theorem res_max {q : Qry} {rows others : List RowV} (hv : valid q = true) (hk : q.kind = 6) : res q rows others = ⟨[], (foldS (exG gtI) (meas q rows) (0, false)).1, (foldS (exG gtI) (meas q rows) (0, false)).2⟩ := by
  unfold res
  rw [if_pos hv, if_neg (by omega), if_neg (by omega), if_neg (by omega), if_pos hk]
  exact fold_most _ 0 false []
theorem res_join {q : Qry} {rows others : List RowV} (hv : valid q = true) (hk : q.kind = 7) : res q rows others = ⟨joined q rows others, 0, false⟩ := by
  unfold res
  rw [if_pos hv, if_neg (by omega), if_neg (by omega), if_neg (by omega), if_neg (by omega), if_pos hk]
theorem res_rows {q : Qry} {rows others : List RowV} (hv : valid q = true) (h3 : q.kind ≠ 3) (h4 : q.kind ≠ 4) (h5 : q.kind ≠ 5) (h6 : q.kind ≠ 6) (h7 : q.kind ≠ 7) : res q rows others = ⟨rows, 0, false⟩ := by
  unfold res
  rw [if_pos hv, if_neg h3, if_neg h4, if_neg h5, if_neg h6, if_neg h7]
end Em
/-- A result handed out: its rows lie in memory of their own, made behind w. -/
structure ResO (w w' : World) (v : Value) (l : List RowV) : Prop where
  own : RowsOwn w' v l
  fr : Fr [] w w'
  new : ∀ g, v.ownBlock = some g → w.heap.size ≤ g
/-- What stands between the parts of From. -/
structure FrRel (w w3 : World) (q : Qry) : Prop where
  box : QAt w3 w.heap.size q
  res : RsAt w3 (w.heap.size + 1) (.slice none 0 0) 0 false
  fr : Fr [] w w3
theorem FrRel.fr0 {w w3 w' : World} {q : Qry} (h : FrRel w w3 q) (hf : Fr [] w3 w') : FrRel w w' q := ⟨h.box.fr hf (by simp), h.res.fr hf (by simp), h.fr.trans hf⟩
theorem FrRel.new (w : World) (q : Qry) : FrRel w ((w.alloc (.cells #[.int .i64 q.kind, .int .i64 q.table, .int .i64 q.column, .int .i64 q.low, .int .i64 q.high, .int .i64 q.by_, .int .i64 q.other] 24)).alloc (.cells #[.slice none 0 0, .int .i64 0, .bool false] 27)) q := by
  refine ⟨(QAt.new w q).fr ((Fr.refl [] _).alloc _) (by simp), ?_, ((Fr.refl _ _).alloc _).alloc _⟩
  have h := RsAt.new (w.alloc (.cells #[.int .i64 q.kind, .int .i64 q.table, .int .i64 q.column, .int .i64 q.low, .int .i64 q.high, .int .i64 q.by_, .int .i64 q.other] 24)) (.slice none 0 0) 0 false
  rw [World.size_alloc] at h
  exact h
theorem FrRel.fin {w w3 : World} {q : Qry} (h : FrRel w w3 q) (v : Value) (n : Int) (f : Bool) :
    ∃ w4, ((w3.setCell ⟨w.heap.size + 1, 0, none⟩ v).setCell ⟨w.heap.size + 1, 1, none⟩ (.int .i64 n)).setCell ⟨w.heap.size + 1, 2, none⟩ (.bool f) = w4 ∧ w4.cell? ⟨w.heap.size + 1, 0, none⟩ = some v ∧ w4.cell? ⟨w.heap.size + 1, 1, none⟩ = some (.int .i64 n) ∧ w4.cell? ⟨w.heap.size + 1, 2, none⟩ = some (.bool f) ∧ Fr [] w w4 ∧ Fr [w.heap.size + 1] w3 w4 := by
  obtain ⟨w4, e4, h4, f4⟩ := h.res.fill v n f
  exact ⟨w4, e4, h4.c0, h4.c1, h4.c2, h.fr.trans' f4 (by simp), f4⟩

end Go.Proofs.Ytjiikpmkedkbkaa
namespace Go.Proofs.Ytjiikpmkedkbkaa
open Go.RowKit

/-- Rows whose values are not far from 0. -/
def Sm.Sound (s : Sm.Sta) : Prop := ∀ e ∈ s.M, Rw.row e.2.t e.2.k e.2.x e.2.y e.2.z = true
theorem Sm.sound_new : Sm.Sound Sm.new := by simp [Sm.Sound, Sm.new]
theorem Sm.mem_put1 {M : List (IdK × RowV)} {c : Chg} {e : IdK × RowV} (h : e ∈ Sm.put1 M c) : e ∈ M ∨ (c.has = true ∧ e.2 = Sm.after c) := by
  unfold Sm.put1 at h
  split at h
  · rename_i hc
    unfold mput at h
    rcases List.mem_cons.1 h with rfl | h
    · exact .inr ⟨hc, rfl⟩
    · unfold mdel at h
      exact .inl (List.mem_filter.1 h).1
  · unfold mdel at h
    exact .inl (List.mem_filter.1 h).1
theorem Sm.after_row {c : Chg} (hc : Rw.chg c = true) (h : c.has = true) : Rw.row (Sm.after c).t (Sm.after c).k (Sm.after c).x (Sm.after c).y (Sm.after c).z = true := by
  unfold Rw.chg at hc
  simp only [Bool.and_eq_true] at hc
  have h2 := hc.2
  unfold Rw.sound at h2
  rw [if_pos h] at h2
  exact h2
theorem Sm.Sound.fold : ∀ (cs : List Chg) (M : List (IdK × RowV)), (∀ e ∈ M, Rw.row e.2.t e.2.k e.2.x e.2.y e.2.z = true) → (∀ c ∈ cs, Rw.chg c = true) → ∀ e ∈ cs.foldl Sm.put1 M, Rw.row e.2.t e.2.k e.2.x e.2.y e.2.z = true
  | [], _, h, _ => h
  | c :: cs, M, h, hc => by
    rw [List.foldl_cons]
    refine Sm.Sound.fold cs _ (fun e he => ?_) (fun d hd => hc d (by simp [hd]))
    rcases Sm.mem_put1 he with h1 | ⟨h1, h2⟩
    · exact h e h1
    · rw [h2]
      exact Sm.after_row (hc c (by simp)) h1
theorem Sm.Sound.applied {s : Sm.Sta} (h : Sm.Sound s) (r : Rec) : Sm.Sound (Sm.apply s r) := by
  unfold Sm.apply
  split
  · rename_i hf
    simp only [Sm.fits, Bool.and_eq_true] at hf
    exact Sm.Sound.fold r.cs s.M h (Rw.valid_all hf.1.1).1
  · exact h
theorem Lg.run_sound (l : List Rec) : Sm.Sound (Lg.run l) := by
  have key : ∀ (l : List Rec) (s : Sm.Sta), Sm.Sound s → Sm.Sound (l.foldl Sm.apply s) := by
    intro l
    induction l with
    | nil => exact fun s h => h
    | cons r l ih => exact fun s h => ih _ (h.applied r)
  exact key l _ Sm.sound_new
theorem Rw.row_bounds {t k x y z : Int} (h : Rw.row t k x y z = true) : (0 ≤ t ∧ t ≤ 3) ∧ (1 ≤ k ∧ k ≤ 1000000) ∧ (-1000000000 ≤ x ∧ x ≤ 1000000000) ∧ (-1000000000 ≤ y ∧ y ≤ 1000000000) ∧ (-1000000000 ≤ z ∧ z ≤ 1000000000) := by
  unfold Rw.row Rw.inI at h
  simp only [Bool.and_eq_true, decide_eq_true_eq] at h
  exact ⟨h.1.1, h.1.2, h.2.1.1, h.2.1.2, h.2.2⟩
theorem RowV.value_bounds {r : RowV} (h : Rw.row r.t r.k r.x r.y r.z = true) (c : Int) : -1000000000 ≤ r.value c ∧ r.value c ≤ 1000000000 := by
  have hb := Rw.row_bounds h
  unfold RowV.value
  repeat' split
  all_goals omega
namespace Em
def le2 (c : Int) (a b : RowV) : Bool := decide (a.value c < b.value c) || (decide (a.value c = b.value c) && decide (a.k ≤ b.k))
theorem le2_iff (c : Int) (a b : RowV) : le2 c a b = true ↔ ¬ ahead2 c b a := by
  unfold le2 ahead2
  simp only [Bool.or_eq_true, Bool.and_eq_true, decide_eq_true_eq]
  omega
/-- The rows of a choice, sorted by a column. -/
def sel (s : Sm.Sta) (c : Int) (p : RowV → Bool) : List RowV := ((s.M.map (·.2)).filter p).mergeSort (le2 c)
theorem sel_picked (s : Sm.Sta) (c : Int) (p : RowV → Bool) : Picked s c p (sel s c p) := by
  refine ⟨List.mergeSort_perm _ _, ?_⟩
  have h := List.pairwise_mergeSort (le := le2 c) (fun a b d h1 h2 => by
    rw [le2_iff] at *
    unfold ahead2 at *
    omega) (fun a b => by
    rw [Bool.or_eq_true, le2_iff, le2_iff]
    unfold ahead2
    omega) ((s.M.map (·.2)).filter p)
  exact h.imp (fun h1 => (le2_iff c _ _).1 h1)
def scan (s : Sm.Sta) (q : Qry) : List RowV := sel s q.column (inRng q.table q.column q.low q.high)
def tab (s : Sm.Sta) (t : Int) : List RowV := sel s 0 (inTab t)
def of (s : Sm.Sta) (q : Qry) : Res := res q (scan s q) (tab s q.other)
def code (q : Qry) : Int := if valid q = true then 0 else 50
theorem valid_base' {q : Qry} (h : valid q = true) : (0 ≤ q.table ∧ q.table ≤ 3) ∧ (0 ≤ q.column ∧ q.column ≤ 3) ∧ (-1000000000 ≤ q.low ∧ q.low ≤ q.high ∧ q.high ≤ 1000000000) := by
  have hb : base q = true := by
    cases hb : base q with
    | true => rfl
    | false => rw [Em.valid_base hb] at h; cases h
  unfold base within at hb
  simp only [Bool.and_eq_true, decide_eq_true_eq] at hb
  omega
end Em
theorem Picked.mem {s : Sm.Sta} {c : Int} {p : RowV → Bool} {R : List RowV} (h : Picked s c p R) {r : RowV} (hr : r ∈ R) : ∃ e ∈ s.M, e.2 = r ∧ p r = true := by
  have h1 := List.mem_filter.1 (h.perm.mem_iff.1 hr)
  obtain ⟨e, he, rfl⟩ := List.mem_map.1 h1.1
  exact ⟨e, he, rfl, h1.2⟩
theorem Picked.len {s : Sm.Sta} {c : Int} {p : RowV → Bool} {R : List RowV} (h : Picked s c p R) (ho : Sm.Ok s) : R.length ≤ 2000 := by
  have h1 := h.perm.length_eq
  have h2 := List.length_filter_le p (s.M.map (·.2))
  rw [List.length_map] at h2
  have := ho.len
  omega
theorem Picked.vals {s : Sm.Sta} {c : Int} {p : RowV → Bool} {R : List RowV} (h : Picked s c p R) (hs : Sm.Sound s) {r : RowV} (hr : r ∈ R) : Rw.row r.t r.k r.x r.y r.z = true := by
  obtain ⟨e, he, rfl, _⟩ := h.mem hr
  exact hs e he
theorem OwnL.rowsAt {w : World} {A : Option Addr} {n cap : Nat} {l : List RowV} (h : RowsOwn w (.slice A n cap) l) : RowsAt w A l ∧ n = l.length := h.at1 RowV.cells_len
end Go.Proofs.Ytjiikpmkedkbkaa
namespace Go.Proofs.Ytjiikpmkedkbkaa
open Go.RowKit

namespace Em
def tot (l : List Int) : Int := l.foldl (· + ·) 0
theorem foldl_add (l : List Int) : ∀ a : Int, l.foldl (· + ·) a = a + tot l := by
  unfold tot
  induction l with
  | nil => intro a; simp
  | cons x l ih => intro a; rw [List.foldl_cons, List.foldl_cons, ih, ih (0 + x)]; omega
theorem tot_snoc (l : List Int) (x : Int) : tot (l ++ [x]) = tot l + x := by
  unfold tot
  rw [List.foldl_append]
  rfl
theorem tot_append (a b : List Int) : tot (a ++ b) = tot a + tot b := by
  unfold tot
  rw [List.foldl_append, foldl_add b]
  rfl
theorem count_eq (l : List RowV) : ∀ r : Res, l.foldl count r = ⟨r.rows, r.value + l.length, r.found⟩ := by
  induction l with
  | nil => intro r; simp
  | cons x l ih => intro r; rw [List.foldl_cons, ih]; simp only [count, List.length_cons]; congr 1; omega
theorem plus_eq (l : List Int) : ∀ r : Res, l.foldl plus r = ⟨r.rows, r.value + tot l, r.found⟩ := by
  induction l with
  | nil => intro r; simp [tot]
  | cons x l ih =>
    intro r
    rw [List.foldl_cons, ih]
    simp only [plus]
    have : tot (x :: l) = x + tot l := by unfold tot; rw [List.foldl_cons, foldl_add]; unfold tot; omega
    rw [this]
    congr 1
    omega
theorem of_count {s : Sm.Sta} {q : Qry} (hv : valid q = true) (hk : q.kind = 3) : of s q = ⟨[], (scan s q).length, false⟩ := by
  unfold of res
  rw [if_pos hv, if_pos hk, count_eq]
  simp [zero]
theorem of_sum {s : Sm.Sta} {q : Qry} (hv : valid q = true) (hk : q.kind = 4) : of s q = ⟨[], tot (meas q (scan s q)), false⟩ := by
  unfold of res
  rw [if_pos hv, if_neg (by omega), if_pos hk, plus_eq]
  simp [zero]
theorem of_join {s : Sm.Sta} {q : Qry} (hv : valid q = true) (hk : q.kind = 7) : of s q = ⟨joined q (scan s q) (tab s q.other), 0, false⟩ := res_join hv hk
theorem of_rows {s : Sm.Sta} {q : Qry} (hv : valid q = true) (hk : q.kind = 1 ∨ q.kind = 2) : of s q = ⟨scan s q, 0, false⟩ :=
  res_rows hv (by omega) (by omega) (by omega) (by omega) (by omega)
/-- The least of a list, 0 of none. -/
structure IsMin (l : List Int) (v : Int) (f : Bool) : Prop where
  found : f = !l.isEmpty
  none : l = [] → v = 0
  mem : l ≠ [] → v ∈ l
  le : ∀ x ∈ l, v ≤ x
structure IsMax (l : List Int) (v : Int) (f : Bool) : Prop where
  found : f = !l.isEmpty
  none : l = [] → v = 0
  mem : l ≠ [] → v ∈ l
  le : ∀ x ∈ l, x ≤ v
theorem least_is (l : List Int) : ∃ v f, l.foldl least zero = ⟨[], v, f⟩ ∧ IsMin l v f := by
  have key : ∀ (l : List Int) (p : List Int) (v : Int) (f : Bool), IsMin p v f → ∃ v' f', l.foldl least ⟨[], v, f⟩ = ⟨[], v', f'⟩ ∧ IsMin (p ++ l) v' f' := by
    intro l
    induction l with
    | nil => intro p v f h; exact ⟨v, f, rfl, by simpa using h⟩
    | cons x l ih =>
      intro p v f h
      rw [List.foldl_cons]
      have hs : IsMin (p ++ [x]) (if f = false ∨ x < v then x else v) true := by
        refine ⟨by simp, by simp, fun _ => ?_, fun y hy => ?_⟩
        · split
          · simp
          · rename_i hc
            have hp : p ≠ [] := fun e => hc (.inl (by rw [h.found, e]; rfl))
            exact List.mem_append_left _ (h.mem hp)
        · rcases List.mem_append.1 hy with hy | hy
          · have := h.le y hy
            split
            · rename_i hc
              rcases hc with hc | hc
              · have hp : p = [] := by
                  have := h.found
                  rw [hc] at this
                  simpa using this.symm
                rw [hp] at hy
                cases hy
              · omega
            · exact this
          · rw [List.mem_singleton] at hy
            subst hy
            split
            · omega
            · rename_i hc
              omega
      obtain ⟨v', f', e, h'⟩ := ih (p ++ [x]) _ _ hs
      exact ⟨v', f', e, by simpa using h'⟩
  exact key l [] 0 false ⟨rfl, fun _ => rfl, fun h => absurd rfl h, by simp⟩
theorem most_is (l : List Int) : ∃ v f, l.foldl most zero = ⟨[], v, f⟩ ∧ IsMax l v f := by
  have key : ∀ (l : List Int) (p : List Int) (v : Int) (f : Bool), IsMax p v f → ∃ v' f', l.foldl most ⟨[], v, f⟩ = ⟨[], v', f'⟩ ∧ IsMax (p ++ l) v' f' := by
    intro l
    induction l with
    | nil => intro p v f h; exact ⟨v, f, rfl, by simpa using h⟩
    | cons x l ih =>
      intro p v f h
      rw [List.foldl_cons]
      have hs : IsMax (p ++ [x]) (if f = false ∨ v < x then x else v) true := by
        refine ⟨by simp, by simp, fun _ => ?_, fun y hy => ?_⟩
        · split
          · simp
          · rename_i hc
            have hp : p ≠ [] := fun e => hc (.inl (by rw [h.found, e]; rfl))
            exact List.mem_append_left _ (h.mem hp)
        · rcases List.mem_append.1 hy with hy | hy
          · have := h.le y hy
            split
            · rename_i hc
              rcases hc with hc | hc
              · have hp : p = [] := by
                  have := h.found
                  rw [hc] at this
                  simpa using this.symm
                rw [hp] at hy
                cases hy
              · omega
            · exact this
          · rw [List.mem_singleton] at hy
            subst hy
            split
            · omega
            · rename_i hc
              omega
      obtain ⟨v', f', e, h'⟩ := ih (p ++ [x]) _ _ hs
      exact ⟨v', f', e, by simpa using h'⟩
  exact key l [] 0 false ⟨rfl, fun _ => rfl, fun h => absurd rfl h, by simp⟩
theorem of_min {s : Sm.Sta} {q : Qry} (hv : valid q = true) (hk : q.kind = 5) : ∃ v f, of s q = ⟨[], v, f⟩ ∧ IsMin (meas q (scan s q)) v f := by
  obtain ⟨v, f, e, h⟩ := least_is (meas q (scan s q))
  refine ⟨v, f, ?_, h⟩
  unfold of res
  rw [if_pos hv, if_neg (by omega), if_neg (by omega), if_pos hk, e]
theorem of_max {s : Sm.Sta} {q : Qry} (hv : valid q = true) (hk : q.kind = 6) : ∃ v f, of s q = ⟨[], v, f⟩ ∧ IsMax (meas q (scan s q)) v f := by
  obtain ⟨v, f, e, h⟩ := most_is (meas q (scan s q))
  refine ⟨v, f, ?_, h⟩
  unfold of res
  rw [if_pos hv, if_neg (by omega), if_neg (by omega), if_neg (by omega), if_pos hk, e]
theorem scan_len {s : Sm.Sta} (h : Sm.Ok s) (q : Qry) : (scan s q).length ≤ 2000 := (sel_picked s _ _).len h
theorem scan_mem {s : Sm.Sta} (h : Sm.Sound s) {q : Qry} {r : RowV} (hr : r ∈ scan s q) : Rw.row r.t r.k r.x r.y r.z = true := (sel_picked s _ _).vals h hr
theorem tot_bound (B : Int) : ∀ l : List Int, (∀ x ∈ l, -B ≤ x ∧ x ≤ B) → -(B * l.length) ≤ tot l ∧ tot l ≤ B * l.length
  | [], _ => by simp [tot]
  | x :: l, h => by
    have ih := tot_bound B l (fun y hy => h y (by simp [hy]))
    have hx := h x (by simp)
    have e : tot (x :: l) = x + tot l := by unfold tot; rw [List.foldl_cons, foldl_add]; unfold tot; omega
    rw [e, List.length_cons]
    have e2 : B * ((l.length + 1 : Nat) : Int) = B * l.length + B := by rw [Int.natCast_add, Int.mul_add]; simp
    omega
end Em
end Go.Proofs.Ytjiikpmkedkbkaa
namespace Go.Proofs.Ytjiikpmkedkbkaa
open Go.RowKit

namespace Em
theorem of_bounds {s : Sm.Sta} (ho : Sm.Ok s) (hs : Sm.Sound s) (q : Qry) : (of s q).rows.length ≤ 4000 ∧ -2000000000000 ≤ (of s q).value ∧ (of s q).value ≤ 2000000000000 := by
  have hl := scan_len ho q
  have hm : ∀ x ∈ meas q (scan s q), -1000000000 ≤ x ∧ x ≤ 1000000000 := fun x hx => by
    unfold meas at hx
    obtain ⟨r, hr, rfl⟩ := List.mem_map.1 hx
    exact RowV.value_bounds (scan_mem hs hr) _
  cases hv : valid q with
  | false =>
    have e : of s q = ⟨[], 0, false⟩ := res_bad hv
    rw [e]
    simp
  | true =>
    have hk := Pm.kind_le hv
    by_cases k3 : q.kind = 3
    · rw [of_count hv k3]
      dsimp only [List.length_nil]
      omega
    by_cases k4 : q.kind = 4
    · rw [of_sum hv k4]
      have h1 := tot_bound 1000000000 _ hm
      have h2 : (meas q (scan s q)).length = (scan s q).length := by unfold meas; simp
      rw [h2] at h1
      dsimp only [List.length_nil]
      omega
    by_cases k5 : q.kind = 5
    · obtain ⟨v, f, e, hx⟩ := of_min (s := s) hv k5
      rw [e]
      dsimp only [List.length_nil]
      by_cases hn : meas q (scan s q) = []
      · have := hx.none hn
        omega
      · have := hm _ (hx.mem hn)
        omega
    by_cases k6 : q.kind = 6
    · obtain ⟨v, f, e, hx⟩ := of_max (s := s) hv k6
      rw [e]
      dsimp only [List.length_nil]
      by_cases hn : meas q (scan s q) = []
      · have := hx.none hn
        omega
      · have := hm _ (hx.mem hn)
        omega
    by_cases k7 : q.kind = 7
    · rw [of_join hv k7]
      have h1 := joined_len q (tab s q.other) (scan s q)
      dsimp only
      omega
    · rw [of_rows hv (by omega)]
      dsimp only
      omega
end Em
end Go.Proofs.Ytjiikpmkedkbkaa
