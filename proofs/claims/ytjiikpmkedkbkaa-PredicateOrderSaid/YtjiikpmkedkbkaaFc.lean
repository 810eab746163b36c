/-
  effectOf; an effect in memory.
-/
import Derived.Test.YtjiikpmkedkbkaaFb
import Derived.Test.YtjiikpmkedkbkaaFa
import Derived.Deep.AppendSrc
import Derived.Laws.IdiomCopy
import Derived.Laws.Tables
import Derived.Deep.DeepCutAuto
import Derived.Shelf.Abstract
namespace Go.Proofs.Ytjiikpmkedkbkaa
open Go.RowKit

theorem pafter_no (c : Chg) (h : c.has = false) (w : World) : Calls Try.prog 64 #[c.val] w fun e w' =>
    e = .returned (.tuple #[rowVal 0 0 0 0 0, .bool false]) ∧ Fr [] w w' := by
  obtain ⟨t, k, had, o0, o1, o2, has, n0, n1, n2⟩ := c
  dsimp only at h
  subst h
  have F0 : Fr [] w ((w.alloc (.cells #[.int .i64 t, .int .i64 k, .bool had, .int .i64 o0, .int .i64 o1, .int .i64 o2, .bool false, .int .i64 n0, .int .i64 n1, .int .i64 n2] 30)).alloc (.cells #[.int .i64 0, .int .i64 0, .int .i64 0, .int .i64 0, .int .i64 0] 57)) := ((Fr.refl _ _).alloc _).alloc _
  have hB := Blk.new (w.alloc (.cells #[.int .i64 t, .int .i64 k, .bool had, .int .i64 o0, .int .i64 o1, .int .i64 o2, .bool false, .int .i64 n0, .int .i64 n1, .int .i64 n2] 30)) 57 #[.int .i64 0, .int .i64 0, .int .i64 0, .int .i64 0, .int .i64 0]
  rw [World.size_alloc] at hB
  have hh := half_no ⟨t, k, had, o0, o1, o2, false, n0, n1, n2⟩ n0 n1 n2
  unfold Chg.val rowVal at *
  go_enter Try.func64, Try.ntmps64
  go_wp2_with fail
  refine (hh _).mono ?_
  rintro e w1 ⟨rfl, f1⟩
  have F1 := F0.trans f1
  have hB1 := hB.fr f1 (by simp)
  have h0 := hB1.cell 0
  have h1 := hB1.cell 1
  have h2 := hB1.cell 2
  have h3 := hB1.cell 3
  have h4 := hB1.cell 4
  have z0 := hB1.frozen 0
  have z1 := hB1.frozen 1
  have z2 := hB1.frozen 2
  have z3 := hB1.frozen 3
  have z4 := hB1.frozen 4
  go_wp2_with fail
  refine bodyPost_ret (v := .tuple #[.agg #[.int .i64 0, .int .i64 0, .int .i64 0, .int .i64 0, .int .i64 0], .bool false]) (by simp [results, Try.results64, go_sem, h0, h1, h2, h3, h4]) rfl ⟨rfl, ?_⟩
  repeat first | exact F1 | refine Fr.setCell ?_ (.inr (by simp)) _
theorem pafter_yes (c : Chg) (h : c.has = true) (w : World) : Calls Try.prog 64 #[c.val] w fun e w' =>
    e = .returned (.tuple #[rowVal c.t c.k c.n0 c.n1 c.n2, .bool true]) ∧ Fr [] w w' := by
  obtain ⟨t, k, had, o0, o1, o2, has, n0, n1, n2⟩ := c
  dsimp only at h
  subst h
  have F0 : Fr [] w ((w.alloc (.cells #[.int .i64 t, .int .i64 k, .bool had, .int .i64 o0, .int .i64 o1, .int .i64 o2, .bool true, .int .i64 n0, .int .i64 n1, .int .i64 n2] 30)).alloc (.cells #[.int .i64 0, .int .i64 0, .int .i64 0, .int .i64 0, .int .i64 0] 57)) := ((Fr.refl _ _).alloc _).alloc _
  have hB := Blk.new (w.alloc (.cells #[.int .i64 t, .int .i64 k, .bool had, .int .i64 o0, .int .i64 o1, .int .i64 o2, .bool true, .int .i64 n0, .int .i64 n1, .int .i64 n2] 30)) 57 #[.int .i64 0, .int .i64 0, .int .i64 0, .int .i64 0, .int .i64 0]
  rw [World.size_alloc] at hB
  have hh := half_yes ⟨t, k, had, o0, o1, o2, true, n0, n1, n2⟩ n0 n1 n2
  unfold Chg.val rowVal at *
  go_enter Try.func64, Try.ntmps64
  go_wp2_with fail
  refine (hh _).mono ?_
  rintro e w1 ⟨rfl, f1⟩
  have F1 := F0.trans f1
  have hB1 := hB.fr f1 (by simp)
  have h0 := hB1.cell 0
  have h1 := hB1.cell 1
  have h2 := hB1.cell 2
  have h3 := hB1.cell 3
  have h4 := hB1.cell 4
  have z0 := hB1.frozen 0
  have z1 := hB1.frozen 1
  have z2 := hB1.frozen 2
  have z3 := hB1.frozen 3
  have z4 := hB1.frozen 4
  go_wp2_with fail
  refine bodyPost_ret (v := .tuple #[.agg #[.int .i64 t, .int .i64 k, .int .i64 n0, .int .i64 n1, .int .i64 n2], .bool true]) (by simp [results, Try.results64, go_sem, h0, h1, h2, h3, h4]) rfl ⟨rfl, ?_⟩
  repeat first | exact F1 | refine Fr.setCell ?_ (.inr (by simp)) _
theorem pbefore_no (c : Chg) (h : c.had = false) (w : World) : Calls Try.prog 63 #[c.val] w fun e w' =>
    e = .returned (.tuple #[rowVal 0 0 0 0 0, .bool false]) ∧ Fr [] w w' := by
  obtain ⟨t, k, had, o0, o1, o2, has, n0, n1, n2⟩ := c
  dsimp only at h
  subst h
  have F0 : Fr [] w ((w.alloc (.cells #[.int .i64 t, .int .i64 k, .bool false, .int .i64 o0, .int .i64 o1, .int .i64 o2, .bool has, .int .i64 n0, .int .i64 n1, .int .i64 n2] 30)).alloc (.cells #[.int .i64 0, .int .i64 0, .int .i64 0, .int .i64 0, .int .i64 0] 57)) := ((Fr.refl _ _).alloc _).alloc _
  have hB := Blk.new (w.alloc (.cells #[.int .i64 t, .int .i64 k, .bool false, .int .i64 o0, .int .i64 o1, .int .i64 o2, .bool has, .int .i64 n0, .int .i64 n1, .int .i64 n2] 30)) 57 #[.int .i64 0, .int .i64 0, .int .i64 0, .int .i64 0, .int .i64 0]
  rw [World.size_alloc] at hB
  have hh := half_no ⟨t, k, false, o0, o1, o2, has, n0, n1, n2⟩ o0 o1 o2
  unfold Chg.val rowVal at *
  go_enter Try.func63, Try.ntmps63
  go_wp2_with fail
  refine (hh _).mono ?_
  rintro e w1 ⟨rfl, f1⟩
  have F1 := F0.trans f1
  have hB1 := hB.fr f1 (by simp)
  have h0 := hB1.cell 0
  have h1 := hB1.cell 1
  have h2 := hB1.cell 2
  have h3 := hB1.cell 3
  have h4 := hB1.cell 4
  have z0 := hB1.frozen 0
  have z1 := hB1.frozen 1
  have z2 := hB1.frozen 2
  have z3 := hB1.frozen 3
  have z4 := hB1.frozen 4
  go_wp2_with fail
  refine bodyPost_ret (v := .tuple #[.agg #[.int .i64 0, .int .i64 0, .int .i64 0, .int .i64 0, .int .i64 0], .bool false]) (by simp [results, Try.results63, go_sem, h0, h1, h2, h3, h4]) rfl ⟨rfl, ?_⟩
  repeat first | exact F1 | refine Fr.setCell ?_ (.inr (by simp)) _
set_option maxRecDepth 100000 in
theorem pbefore_yes (c : Chg) (h : c.had = true) (w : World) : Calls Try.prog 63 #[c.val] w fun e w' =>
    e = .returned (.tuple #[rowVal c.t c.k c.o0 c.o1 c.o2, .bool true]) ∧ Fr [] w w' := by
  obtain ⟨t, k, had, o0, o1, o2, has, n0, n1, n2⟩ := c
  dsimp only at h
  subst h
  have F0 : Fr [] w ((w.alloc (.cells #[.int .i64 t, .int .i64 k, .bool true, .int .i64 o0, .int .i64 o1, .int .i64 o2, .bool has, .int .i64 n0, .int .i64 n1, .int .i64 n2] 30)).alloc (.cells #[.int .i64 0, .int .i64 0, .int .i64 0, .int .i64 0, .int .i64 0] 57)) := ((Fr.refl _ _).alloc _).alloc _
  have hB := Blk.new (w.alloc (.cells #[.int .i64 t, .int .i64 k, .bool true, .int .i64 o0, .int .i64 o1, .int .i64 o2, .bool has, .int .i64 n0, .int .i64 n1, .int .i64 n2] 30)) 57 #[.int .i64 0, .int .i64 0, .int .i64 0, .int .i64 0, .int .i64 0]
  rw [World.size_alloc] at hB
  have hh := half_yes ⟨t, k, true, o0, o1, o2, has, n0, n1, n2⟩ o0 o1 o2
  unfold Chg.val rowVal at *
  go_enter Try.func63, Try.ntmps63
  go_wp2_with fail
  refine (hh _).mono ?_
  rintro e w1 ⟨rfl, f1⟩
  have F1 := F0.trans f1
  have hB1 := hB.fr f1 (by simp)
  have h0 := hB1.cell 0
  have h1 := hB1.cell 1
  have h2 := hB1.cell 2
  have h3 := hB1.cell 3
  have h4 := hB1.cell 4
  have z0 := hB1.frozen 0
  have z1 := hB1.frozen 1
  have z2 := hB1.frozen 2
  have z3 := hB1.frozen 3
  have z4 := hB1.frozen 4
  go_wp2_with fail
  refine bodyPost_ret (v := .tuple #[.agg #[.int .i64 t, .int .i64 k, .int .i64 o0, .int .i64 o1, .int .i64 o2], .bool true]) (by simp [results, Try.results63, go_sem, h0, h1, h2, h3, h4]) rfl ⟨rfl, ?_⟩
  repeat first | exact F1 | refine Fr.setCell ?_ (.inr (by simp)) _
/-- The row before a change, and whether there is one. -/
theorem pbefore_any (c : Chg) (w : World) : Calls Try.prog 63 #[c.val] w fun e w' => ∃ r : RowV, e = .returned (.tuple #[r.val, .bool c.had]) ∧ Pm.bef c = (if c.had = true then some r else none) ∧ Fr [] w w' := by
  cases h : c.had with
  | true => exact (pbefore_yes c h w).mono fun _ _ hh => ⟨⟨c.t, c.k, c.o0, c.o1, c.o2⟩, hh.1, by simp [Pm.bef, h], hh.2⟩
  | false => exact (pbefore_no c h w).mono fun _ _ hh => ⟨⟨0, 0, 0, 0, 0⟩, hh.1, by simp [Pm.bef, h], hh.2⟩
/-- The row after a change, and whether there is one. -/
theorem pafter_any (c : Chg) (w : World) : Calls Try.prog 64 #[c.val] w fun e w' => ∃ r : RowV, e = .returned (.tuple #[r.val, .bool c.has]) ∧ Pm.aft c = (if c.has = true then some r else none) ∧ Fr [] w w' := by
  cases h : c.has with
  | true => exact (pafter_yes c h w).mono fun _ _ hh => ⟨⟨c.t, c.k, c.n0, c.n1, c.n2⟩, hh.1, by simp [Pm.aft, h], hh.2⟩
  | false => exact (pafter_no c h w).mono fun _ _ hh => ⟨⟨0, 0, 0, 0, 0⟩, hh.1, by simp [Pm.aft, h], hh.2⟩
end Go.Proofs.Ytjiikpmkedkbkaa
namespace Go.Proofs.Ytjiikpmkedkbkaa

theorem Rw.chg_bounds {c : Chg} (h : Rw.chg c = true) : 0 ≤ c.t ∧ c.t ≤ 3 ∧ 1 ≤ c.k ∧ c.k ≤ 1000000 := by
  simp only [Rw.chg, Bool.and_eq_true] at h
  obtain ⟨⟨h1, h2⟩, h3⟩ := h
  have hr : ∀ a b d, Rw.row c.t c.k a b d = true → 0 ≤ c.t ∧ c.t ≤ 3 ∧ 1 ≤ c.k ∧ c.k ≤ 1000000 := by
    intro a b d hh
    simp only [Rw.row, Rw.inI, Bool.and_eq_true, decide_eq_true_eq] at hh
    omega
  cases hh : c.had
  · cases ha : c.has
    · simp [Rw.turns, hh, ha] at h1
    · rw [ha] at h3
      exact hr _ _ _ h3
  · rw [hh] at h2
    exact hr _ _ _ h2
theorem Rw.chg_id {c : Chg} (h : Rw.chg c = true) : (idOf c.t c.k).1 = (c.t, c.k) := by
  obtain ⟨h1, h2, h3, h4⟩ := Rw.chg_bounds h
  exact idOf_val (okI_mk (by omega) (by omega)) (okI_mk (by omega) (by omega))
/-- Ascending changes, each valid. -/
theorem Rw.chgs_all : ∀ (cs : List Chg) (a b : Int), Rw.chgs a b cs = true → (∀ c ∈ cs, Rw.chg c = true ∧ (a < c.t ∨ (a = c.t ∧ b < c.k))) ∧ cs.Pairwise (fun c d => c.t < d.t ∨ (c.t = d.t ∧ c.k < d.k))
  | [], _, _, _ => ⟨by simp, List.Pairwise.nil⟩
  | c :: cs, a, b, h => by
    simp only [Rw.chgs, Bool.and_eq_true, Rw.behind, decide_eq_true_eq] at h
    obtain ⟨⟨h1, h2⟩, h3⟩ := h
    obtain ⟨h4, h5⟩ := Rw.chgs_all cs c.t c.k h3
    refine ⟨fun d hd => ?_, List.pairwise_cons.2 ⟨fun d hd => (h4 d hd).2, h5⟩⟩
    rcases List.mem_cons.1 hd with rfl | hd
    · exact ⟨h1, h2⟩
    · have := h4 d hd
      exact ⟨this.1, by omega⟩
theorem Rw.valid_all {r : Rec} (h : Rw.valid r = true) : (∀ c ∈ r.cs, Rw.chg c = true) ∧ r.cs.Pairwise (fun c d => idOf c.t c.k ≠ idOf d.t d.k) := by
  simp only [Rw.valid, Bool.and_eq_true] at h
  obtain ⟨h1, h2⟩ := Rw.chgs_all _ _ _ h.2
  refine ⟨fun c hc => (h1 c hc).1, ?_⟩
  have h3 : ∀ c ∈ r.cs, (idOf c.t c.k).1 = (c.t, c.k) := fun c hc => Rw.chg_id (h1 c hc).1
  refine List.Pairwise.imp_of_mem (fun {c d} hc hd hlt e => ?_) h2
  have e1 := congrArg Subtype.val e
  rw [h3 c hc, h3 d hd] at e1
  simp at e1
  omega

namespace Sm
theorem put1_other {M : List (IdK × RowV)} {c : Chg} {i : IdK} (h : i ≠ idOf c.t c.k) : mget (put1 M c) i = mget M i := by
  unfold put1
  split
  · exact mget_put_other h
  · exact mget_del_other h
theorem put1_nd {M : List (IdK × RowV)} (h : Nd M) (c : Chg) : Nd (put1 M c) := by
  unfold put1
  split
  · exact h.put _ _
  · exact h.del _
theorem put1_len {M : List (IdK × RowV)} (h : Nd M) {c : Chg} (hm : meets M c = true) : ((put1 M c).length : Int) = grow M.length c := by
  unfold meets at hm
  unfold put1 grow
  cases hg : mget M (idOf c.t c.k) with
  | none =>
    rw [hg] at hm
    have hh : c.had = false := by simpa using hm
    cases ha : c.has
    · rw [if_neg (by simp), mdel_none hg, hh]
      simp
    · rw [if_pos rfl, length_mput h, hg, hh]
      simp
  | some u =>
    rw [hg] at hm
    have hh : c.had = true := by
      simp only [Bool.and_eq_true] at hm
      exact hm.1
    cases ha : c.has
    · have := length_mdel (x := idOf c.t c.k) h
      rw [hg] at this
      rw [if_neg (by simp), hh]
      simp at this ⊢
      omega
    · rw [if_pos rfl, length_mput h, hg, hh]
      simp
theorem put1_key {M : List (IdK × RowV)} (h : ∀ e ∈ M, e.1.1 = (e.2.t, e.2.k)) {c : Chg} (hc : Rw.chg c = true) : ∀ e ∈ put1 M c, e.1.1 = (e.2.t, e.2.k) := by
  unfold put1
  intro e he
  split at he
  · rcases mem_mput.1 he with rfl | ⟨he, _⟩
    · exact Rw.chg_id hc
    · exact h e he
  · exact h e (mem_mdel.1 he).1
theorem meets_congr {M M' : List (IdK × RowV)} {c : Chg} (h : mget M' (idOf c.t c.k) = mget M (idOf c.t c.k)) : meets M' c = meets M c := by
  unfold meets
  rw [h]
theorem fold_ok : ∀ (cs : List Chg) (M M' : List (IdK × RowV)), Nd M' → (∀ e ∈ M', e.1.1 = (e.2.t, e.2.k)) → (∀ c ∈ cs, Rw.chg c = true) → cs.Pairwise (fun c d => idOf c.t c.k ≠ idOf d.t d.k) →
    (∀ c ∈ cs, mget M' (idOf c.t c.k) = mget M (idOf c.t c.k)) → fitsGo M M'.length cs = true → Nd (cs.foldl put1 M') ∧ (∀ e ∈ cs.foldl put1 M', e.1.1 = (e.2.t, e.2.k)) ∧ (cs.foldl put1 M').length ≤ 2000
  | [], _, M', h1, h2, _, _, _, h6 => by
    simp only [fitsGo, decide_eq_true_eq] at h6
    exact ⟨h1, h2, by simpa using (by omega : M'.length ≤ 2000)⟩
  | c :: cs, M, M', h1, h2, h3, h4, h5, h6 => by
    simp only [fitsGo, Bool.and_eq_true] at h6
    obtain ⟨h4a, h4b⟩ := List.pairwise_cons.1 h4
    have hm : meets M' c = true := by rw [meets_congr (h5 c (by simp))]; exact h6.1
    have hl := put1_len h1 hm
    refine fold_ok cs M (put1 M' c) (put1_nd h1 c) (put1_key h2 (h3 c (by simp))) (fun d hd => h3 d (by simp [hd])) h4b (fun d hd => ?_) (by rw [hl]; exact h6.2)
    rw [put1_other (fun e => h4a d hd e.symm)]
    exact h5 d (by simp [hd])
theorem fold_len : ∀ (cs : List Chg) (M : List (IdK × RowV)), Nd M → Nd (cs.foldl put1 M) ∧ (cs.foldl put1 M).length ≤ M.length + cs.length
  | [], M, h => ⟨h, by simp⟩
  | c :: cs, M, h => by
    obtain ⟨h1, h2⟩ := fold_len cs (put1 M c) (put1_nd h c)
    refine ⟨h1, ?_⟩
    have h3 : (put1 M c).length ≤ M.length + 1 := by
      unfold put1
      split
      · rw [length_mput h]
        split <;> omega
      · have := length_mdel (x := idOf c.t c.k) h
        split at this <;> omega
    simp only [List.foldl_cons, List.length_cons]
    omega

theorem fold_key : ∀ (cs : List Chg) (M : List (IdK × RowV)), (∀ e ∈ M, e.1.1 = (e.2.t, e.2.k)) → (∀ c ∈ cs, Rw.chg c = true) → ∀ e ∈ cs.foldl put1 M, e.1.1 = (e.2.t, e.2.k)
  | [], _, h, _ => h
  | c :: cs, M, h, hc => fold_key cs (put1 M c) (put1_key h (hc c (by simp))) fun d hd => hc d (by simp [hd])
theorem fold_other : ∀ (cs : List Chg) (M : List (IdK × RowV)) (i : IdK), (∀ c ∈ cs, i ≠ idOf c.t c.k) → mget (cs.foldl put1 M) i = mget M i
  | [], _, _, _ => rfl
  | c :: cs, M, i, h => (fold_other cs (put1 M c) i fun d hd => h d (by simp [hd])).trans (put1_other (h c (by simp)))
theorem fitsGo_meets : ∀ (cs : List Chg) (M : List (IdK × RowV)) (n : Int), fitsGo M n cs = true → ∀ c ∈ cs, meets M c = true
  | [], _, _, _ => by simp
  | c :: cs, M, n, h => by
    simp only [fitsGo, Bool.and_eq_true] at h
    intro d hd
    rcases List.mem_cons.1 hd with rfl | hd
    · exact h.1
    · exact fitsGo_meets cs M _ h.2 d hd
/-- Each change meets what is there when its turn comes. -/
theorem fits_mid {s : Sta} (h : Ok s) {r : Rec} (hf : fits s r = true) (k : Nat) (hk : k < r.cs.length) :
    Nd ((r.cs.take k).foldl put1 s.M) ∧ (∀ e ∈ (r.cs.take k).foldl put1 s.M, e.1.1 = (e.2.t, e.2.k)) ∧ meets ((r.cs.take k).foldl put1 s.M) r.cs[k] = true ∧ ((r.cs.take k).foldl put1 s.M).length ≤ 2000 + k := by
  simp only [fits, Bool.and_eq_true, decide_eq_true_eq] at hf
  obtain ⟨⟨hv, _⟩, hg⟩ := hf
  obtain ⟨a1, a2⟩ := Rw.valid_all hv
  obtain ⟨b1, b2⟩ := fold_len (r.cs.take k) s.M h.nd
  refine ⟨b1, fold_key _ _ h.key fun c hc => a1 c (List.mem_of_mem_take hc), ?_, ?_⟩
  · rw [meets_congr (fold_other _ _ _ fun c hc => ?_)]
    · exact fitsGo_meets _ _ _ hg _ (List.getElem_mem hk)
    · obtain ⟨i, hi, rfl⟩ := List.getElem_of_mem hc
      rw [List.length_take] at hi
      rw [List.getElem_take]
      exact fun e => List.pairwise_iff_getElem.1 a2 i k (by omega) hk (by omega) e.symm
  · rw [List.length_take] at b2
    have := h.len
    omega
theorem Ok.applied {s : Sta} (h : Ok s) (r : Rec) : Ok (Sm.apply s r) := by
  unfold Sm.apply
  split
  · rename_i hf
    have hf' := hf
    simp only [fits, Bool.and_eq_true, decide_eq_true_eq] at hf'
    obtain ⟨⟨hv, hp⟩, hg⟩ := hf'
    obtain ⟨a1, a2⟩ := Rw.valid_all hv
    obtain ⟨b1, b2, b3⟩ := fold_ok r.cs s.M s.M h.nd h.key a1 a2 (fun _ _ => rfl) hg
    have hr : 1 ≤ r.p ∧ r.p ≤ 10000 := by
      simp only [Rw.valid, Rw.inI, Bool.and_eq_true, decide_eq_true_eq] at hv
      omega
    exact ⟨by show 0 ≤ r.p; omega, hr.2, b1, b2, b3⟩
  · exact h
end Sm
end Go.Proofs.Ytjiikpmkedkbkaa
namespace Go.Proofs.Ytjiikpmkedkbkaa

@[reducible] def RowV.cells (r : RowV) : List Value := [.int .i64 r.t, .int .i64 r.k, .int .i64 r.x, .int .i64 r.y, .int .i64 r.z]
theorem RowV.cells_len (r : RowV) : r.cells.length = 5 := rfl
theorem RowV.cells_one (r : RowV) : ∀ u ∈ r.cells, u.oneCell' = true := by
  intro u hu
  simp only [List.mem_cons, List.not_mem_nil, or_false] at hu
  rcases hu with rfl | rfl | rfl | rfl | rfl <;> rfl

namespace Sm
/-- Ahead of a table and a key. -/
def bef (r : RowV) (t k : Int) : Bool := decide (r.t < t ∨ (r.t = t ∧ r.k < k))
def Srt (L : List RowV) : Prop := L.Pairwise fun a b => a.t < b.t ∨ (a.t = b.t ∧ a.k < b.k)
/-- n is where a table and a key have their place. -/
structure Plc (L : List RowV) (t k : Int) (n : Nat) : Prop where
  le : n ≤ L.length
  lo : ∀ i (h : i < L.length), i < n → bef L[i] t k = true
  hi : ∀ i (h : i < L.length), n ≤ i → bef L[i] t k = false
/-- A list of the rows of a state. -/
structure Sim (M : List (IdK × RowV)) (L : List RowV) : Prop where
  perm : L.Perm (M.map (·.2))
  srt : Srt L
theorem Sim.len {M : List (IdK × RowV)} {L : List RowV} (h : Sim M L) : L.length = M.length := by simpa using h.perm.length_eq
theorem Sim.nil : Sim [] [] := ⟨List.Perm.refl _, List.Pairwise.nil⟩
def KeyOk (M : List (IdK × RowV)) : Prop := ∀ e ∈ M, e.1.1 = (e.2.t, e.2.k)
theorem Srt.get {L : List RowV} (h : Srt L) {i j : Nat} (hi : i < L.length) (hj : j < L.length) (hij : i < j) : L[i].t < L[j].t ∨ (L[i].t = L[j].t ∧ L[i].k < L[j].k) := List.pairwise_iff_getElem.1 h i j hi hj hij
theorem Srt.inj {L : List RowV} (h : Srt L) {a b : RowV} (ha : a ∈ L) (hb : b ∈ L) (h1 : a.t = b.t) (h2 : a.k = b.k) : a = b := by
  obtain ⟨i, hi, rfl⟩ := List.getElem_of_mem ha
  obtain ⟨j, hj, rfl⟩ := List.getElem_of_mem hb
  rcases Nat.lt_trichotomy i j with hij | rfl | hij
  · have := h.get hi hj hij; omega
  · rfl
  · have := h.get hj hi hij; omega
theorem mem_of_mget {M : List (IdK × RowV)} (hn : Nd M) (hk : KeyOk M) {t k : Int} (ht : okI t) (hkk : okI k) {r : RowV} : mget M (idOf t k) = some r ↔ r ∈ M.map (·.2) ∧ r.t = t ∧ r.k = k := by
  rw [mget_iff hn]
  constructor
  · intro h
    have h1 := hk _ h
    dsimp only at h1
    rw [idOf_val ht hkk] at h1
    injection h1 with h2 h3
    exact ⟨List.mem_map.2 ⟨_, h, rfl⟩, h2.symm, h3.symm⟩
  · rintro ⟨h1, h2, h3⟩
    obtain ⟨⟨i, r'⟩, h4, rfl⟩ := List.mem_map.1 h1
    have h5 := hk _ h4
    dsimp only at h5 h2 h3 ⊢
    have : i = idOf t k := Subtype.ext (by rw [h5, idOf_val ht hkk, h2, h3])
    rw [← this]
    exact h4
section
variable {M : List (IdK × RowV)} {L : List RowV} {t k : Int} {n : Nat}
/-- Whether the row at the place is the one that is looked for. -/
theorem Plc.hit (hs : Sim M L) (hn : Nd M) (hk : KeyOk M) (ht : okI t) (hkk : okI k) (_hp : Plc L t k n) (h : n < L.length) (e1 : L[n].t = t) (e2 : L[n].k = k) : mget M (idOf t k) = some L[n] :=
  (mem_of_mget hn hk ht hkk).2 ⟨hs.perm.mem_iff.1 (List.getElem_mem h), e1, e2⟩
theorem Plc.miss (hs : Sim M L) (hn : Nd M) (hk : KeyOk M) (ht : okI t) (hkk : okI k) (hp : Plc L t k n) (h : ∀ h : n < L.length, ¬ (L[n].t = t ∧ L[n].k = k)) : mget M (idOf t k) = none := by
  cases hg : mget M (idOf t k) with
  | none => rfl
  | some r =>
    exfalso
    obtain ⟨h1, h2, h3⟩ := (mem_of_mget hn hk ht hkk).1 hg
    obtain ⟨i, hi, rfl⟩ := List.getElem_of_mem (hs.perm.mem_iff.2 h1)
    rcases Nat.lt_or_ge i n with hin | hin
    · have := hp.lo i hi hin
      unfold bef at this
      simp only [decide_eq_true_eq] at this
      omega
    · have hnl : n < L.length := by omega
      have h4 := hp.hi n hnl (Nat.le_refl _)
      unfold bef at h4
      simp only [decide_eq_false_iff_not] at h4
      rcases Nat.lt_or_ge n i with h5 | h5
      · have := hs.srt.get hnl hi h5
        omega
      · have : i = n := by omega
        subst this
        exact h hnl ⟨h2, h3⟩
/-- Where there is a row of this table and key, it is at the place. -/
theorem Plc.at_ (hs : Sim M L) (hn : Nd M) (hk : KeyOk M) (ht : okI t) (hkk : okI k) (hp : Plc L t k n) {r : RowV} (hg : mget M (idOf t k) = some r) : ∃ h : n < L.length, L[n] = r := by
  by_cases h : ∀ h : n < L.length, ¬ (L[n].t = t ∧ L[n].k = k)
  · rw [Plc.miss hs hn hk ht hkk hp h] at hg
    cases hg
  · simp only [Classical.not_forall, Classical.not_not] at h
    obtain ⟨h1, h2, h3⟩ := h
    refine ⟨h1, ?_⟩
    have := Plc.hit hs hn hk ht hkk hp h1 h2 h3
    rw [hg] at this
    exact (Option.some.inj this).symm
theorem srt_mid {A B : List RowV} {x : RowV} (h : Srt (A ++ B)) (h1 : ∀ a ∈ A, bef a x.t x.k = true) (h2 : ∀ b ∈ B, x.t < b.t ∨ (x.t = b.t ∧ x.k < b.k)) : Srt (A ++ x :: B) := by
  unfold Srt at h ⊢
  rw [List.pairwise_append] at h ⊢
  obtain ⟨ha, hb, hab⟩ := h
  refine ⟨ha, List.pairwise_cons.2 ⟨h2, hb⟩, fun a haA b hb => ?_⟩
  rcases List.mem_cons.1 hb with rfl | hb
  · have := h1 a haA
    unfold bef at this
    simpa using this
  · exact hab a haA b hb
/-- What the reference does to the list for a change. -/
theorem Sim.put1 (hs : Sim M L) (hn : Nd M) (hk : KeyOk M) {c : Chg} (ht : okI c.t) (hkk : okI c.k) (hp : Plc L c.t c.k n) (hm : meets M c = true) :
    n + (if c.had = true then 1 else 0) ≤ L.length ∧ Sim (put1 M c) (L.take n ++ ((if c.has = true then [after c] else []) ++ L.drop (n + if c.had = true then 1 else 0))) := by
  have hlt : ∀ a ∈ L.take n, bef a c.t c.k = true := by
    intro a ha
    obtain ⟨i, hi, rfl⟩ := List.getElem_of_mem ha
    rw [List.length_take] at hi
    rw [List.getElem_take]
    exact hp.lo i (by omega) (by omega)
  have hpl := hp.le
  -- the rest of the list, and what is deleted
  obtain ⟨hle, hrest, hdel⟩ : n + (if c.had = true then 1 else 0) ≤ L.length ∧ (∀ b ∈ L.drop (n + if c.had = true then 1 else 0), c.t < b.t ∨ (c.t = b.t ∧ c.k < b.k)) ∧
      (L.take n ++ L.drop (n + if c.had = true then 1 else 0)).Perm ((mdel M (idOf c.t c.k)).map (·.2)) := by
    unfold meets at hm
    cases hg : mget M (idOf c.t c.k) with
    | none =>
      rw [hg] at hm
      have hh : c.had = false := by simpa using hm
      rw [hh]
      simp only [Bool.false_eq_true, if_false, Nat.add_zero]
      refine ⟨hpl, fun b hb => ?_, ?_⟩
      · obtain ⟨i, hi, rfl⟩ := List.getElem_of_mem hb
        rw [List.length_drop] at hi
        rw [List.getElem_drop]
        have h1 := hp.hi (n + i) (by omega) (by omega)
        unfold bef at h1
        simp only [decide_eq_false_iff_not] at h1
        have h2 : ¬ (L[n + i].t = c.t ∧ L[n + i].k = c.k) := fun h2 => by
          have := (mem_of_mget hn hk ht hkk (r := L[n + i])).2 ⟨hs.perm.mem_iff.1 (List.getElem_mem _), h2.1, h2.2⟩
          rw [hg] at this
          cases this
        omega
      · rw [List.take_append_drop, mdel_none hg]
        exact hs.perm
    | some r =>
      rw [hg] at hm
      have hh : c.had = true := by
        simp only [Bool.and_eq_true] at hm
        exact hm.1
      rw [hh]
      simp only [if_true]
      obtain ⟨hnl, her⟩ := Plc.at_ hs hn hk ht hkk hp hg
      obtain ⟨hin, e1, e2⟩ := (mem_of_mget hn hk ht hkk).1 hg
      refine ⟨hnl, fun b hb => ?_, ?_⟩
      · obtain ⟨i, hi, rfl⟩ := List.getElem_of_mem hb
        rw [List.length_drop] at hi
        rw [List.getElem_drop]
        have := hs.srt.get hnl (j := n + 1 + i) (by omega) (by omega)
        rw [her] at this
        omega
      · have h1 : L = L.take n ++ (r :: L.drop (n + 1)) := by
          rw [← her, ← List.drop_eq_getElem_cons hnl, List.take_append_drop]
        have h2 : ((r :: (L.take n ++ L.drop (n + 1)))).Perm (M.map (·.2)) := by
          refine List.Perm.trans ?_ hs.perm
          conv => rhs; rw [h1]
          exact List.perm_middle.symm
        have h3 : M.Perm ((idOf c.t c.k, r) :: mdel M (idOf c.t c.k)) := by
          have hmem := (mget_iff hn).1 hg
          clear hm hs hp hlt hnl her h1 h2 hk hpl hin
          induction M with
          | nil => simp at hmem
          | cons a M ih =>
            obtain ⟨n1, n2⟩ := List.pairwise_cons.1 hn
            by_cases ha : a.1 = idOf c.t c.k
            · have e3 : mget (a :: M) (idOf c.t c.k) = some a.2 := by simp [mget, ha]
              rw [e3] at hg
              have e4 : mget M (idOf c.t c.k) = none := mget_none.2 fun q hq e => n1 q hq (ha.trans e.symm)
              have e5 : mdel (a :: M) (idOf c.t c.k) = mdel M (idOf c.t c.k) := List.filter_cons_of_neg (by simp [ha])
              rw [e5, mdel_none e4, ← ha, ← Option.some.inj hg]
            · have e3 : mget (a :: M) (idOf c.t c.k) = mget M (idOf c.t c.k) := by simp [mget, ha]
              have e5 : mdel (a :: M) (idOf c.t c.k) = a :: mdel M (idOf c.t c.k) := List.filter_cons_of_pos (by simp [ha])
              rw [e3] at hg
              rw [e5]
              exact ((ih n2 hg ((mget_iff n2).1 hg)).cons a).trans (List.Perm.swap _ _ _)
        have h4 := h2.trans (h3.map (·.2))
        exact h4.cons_inv
  refine ⟨hle, ?_⟩
  have hsub : Srt (L.take n ++ L.drop (n + if c.had = true then 1 else 0)) := by
    refine List.Pairwise.sublist ?_ hs.srt
    conv => rhs; rw [← List.take_append_drop n L]
    refine List.Sublist.append (List.Sublist.refl _) ?_
    rw [← List.drop_drop]
    exact List.drop_sublist _ _
  cases hha : c.has
  · simp only [Bool.false_eq_true, if_false, List.nil_append]
    exact ⟨by unfold Sm.put1; rw [hha]; simpa using hdel, hsub⟩
  · simp only [if_true, List.singleton_append]
    refine ⟨?_, srt_mid hsub hlt hrest⟩
    unfold Sm.put1
    rw [if_pos hha]
    unfold mput
    rw [List.map_cons]
    exact List.perm_middle.trans (hdel.cons _)
theorem put1_keyOk (hk : KeyOk M) {c : Chg} (hc : Rw.chg c = true) : KeyOk (Sm.put1 M c) := put1_key hk hc
end
end Sm
end Go.Proofs.Ytjiikpmkedkbkaa
namespace Go.Proofs.Ytjiikpmkedkbkaa
open Go.RowKit

/-- The value of a column: the row is boxed. -/
theorem pval_any (r : RowV) (c : Int) (w : World) : Calls Try.prog 62 #[r.val, .int .i64 c] w fun e w' => e = .returned (.int .i64 (r.value c)) ∧ w' = w.alloc (.cells r.cells.toArray 57) := by
  obtain ⟨t, k, x, y, z⟩ := r
  unfold RowV.val
  dsimp only
  by_cases h0 : c = 0
  · subst h0
    go_enter Try.func62, Try.ntmps62
    go_wp2
    go_ret
    exact ⟨rfl, rfl⟩
  by_cases h1 : c = 1
  · subst h1
    go_enter Try.func62, Try.ntmps62
    go_wp2
    go_ret
    exact ⟨rfl, rfl⟩
  by_cases h2 : c = 2
  · subst h2
    go_enter Try.func62, Try.ntmps62
    go_wp2
    go_ret
    exact ⟨rfl, rfl⟩
  by_cases h3 : c = 3
  · subst h3
    go_enter Try.func62, Try.ntmps62
    go_wp2
    go_ret
    exact ⟨rfl, rfl⟩
  have HV : Hid (RowV.value ⟨t, k, x, y, z⟩ c = 0) := Lib.hid (by simp [RowV.value, h0, h1, h2, h3])
  have g0 : (c == 0) = false := by simpa using h0
  have g1 : (c == 1) = false := by simpa using h1
  have g2 : (c == 2) = false := by simpa using h2
  have g3 : (c == 3) = false := by simpa using h3
  clear h0 h1 h2 h3
  go_enter Try.func62, Try.ntmps62
  go_wp2
  go_ret
  exact ⟨by rw [HV.out]; rfl, rfl⟩
theorem pval5 (t k x y z c : Int) (w : World) : Calls Try.prog 62 #[.agg #[.int .i64 t, .int .i64 k, .int .i64 x, .int .i64 y, .int .i64 z], .int .i64 c] w fun e w' => e = .returned (.int .i64 (RowV.value ⟨t, k, x, y, z⟩ c)) ∧ w' = w.alloc (.cells #[.int .i64 t, .int .i64 k, .int .i64 x, .int .i64 y, .int .i64 z] 57) := pval_any ⟨t, k, x, y, z⟩ c w
end Go.Proofs.Ytjiikpmkedkbkaa
namespace Go.Proofs.Ytjiikpmkedkbkaa
open Go.RowKit

/-- A pointer to a row of one's own, or nil. -/
def PtrR (w : World) (p : Option Addr) : Option RowV → Prop
  | some r => ∃ g, p = some ⟨g, 0, none⟩ ∧ Blk w g 57 r.cells.toArray
  | none => p = none
theorem PtrR.fr0 {w w' : World} {p : Option Addr} {o : Option RowV} (h : PtrR w p o) (hf : Fr [] w w') : PtrR w' p o := by
  cases o with
  | none => exact h
  | some r =>
    obtain ⟨g, e, hb⟩ := h
    exact ⟨g, e, hb.fr hf (by simp)⟩
set_option maxRecDepth 100000 in
set_option maxHeartbeats 4000000 in
theorem scanned_any (q : Qry) (r : RowV) (ok : Bool) (gq : Nat) (w : World) (hq : QAt w gq q) :
    Calls Try.prog 61 #[r.val, .bool ok, .pointer (some ⟨gq, 0, none⟩)] w fun e w' => ∃ p, e = .returned (.tuple #[.pointer p, .int .i64 (Pm.me q (Pm.sc q (if ok = true then some r else none)))]) ∧ PtrR w' p (Pm.sc q (if ok = true then some r else none)) ∧ Fr [] w w' := by
  obtain ⟨k, t, c, lo, hi, b, o⟩ := q
  obtain ⟨rt, rk, rx, ry, rz⟩ := r
  have HV := Lib.hid pval5
  have F0 : Hid (Fr [] w (w.alloc (.cells #[.int .i64 rt, .int .i64 rk, .int .i64 rx, .int .i64 ry, .int .i64 rz] 57))) := Lib.hid ((Fr.refl _ _).alloc _)
  have HQ := Lib.hid (hq.fr F0.out (by simp))
  have HB : Hid (Blk (w.alloc (.cells #[.int .i64 rt, .int .i64 rk, .int .i64 rx, .int .i64 ry, .int .i64 rz] 57)) w.heap.size 57 #[.int .i64 rt, .int .i64 rk, .int .i64 rx, .int .i64 ry, .int .i64 rz]) := Lib.hid (Blk.new _ _ _)
  obtain ⟨v, HVV⟩ : ∃ v, Hid (RowV.value ⟨rt, rk, rx, ry, rz⟩ c = v) := ⟨_, Lib.hid rfl⟩
  obtain ⟨m, HM⟩ : ∃ m, Hid (RowV.value ⟨rt, rk, rx, ry, rz⟩ b = m) := ⟨_, Lib.hid rfl⟩
  obtain ⟨so, hso⟩ : ∃ so, Pm.sc ⟨k, t, c, lo, hi, b, o⟩ (if ok = true then some ⟨rt, rk, rx, ry, rz⟩ else none) = so := ⟨_, rfl⟩
  rw [hso]
  have HSC : Hid (so = if (ok && (decide (rt = t) && (decide (lo ≤ v) && decide (v ≤ hi)))) = true then some ⟨rt, rk, rx, ry, rz⟩ else none) := Lib.hid (by
    rw [← HVV.out, ← hso]
    cases ok <;> simp [Pm.sc, Pm.inq, Option.filter])
  clear hso
  go_enter Try.func61, Try.ntmps61
  go_upto_region 1 with (fail)
  generalize w.alloc (.cells #[.int .i64 rt, .int .i64 rk, .int .i64 rx, .int .i64 ry, .int .i64 rz] 57) = w1 at *
  have b0 := HB.out.cell 0
  have b1 := HB.out.cell 1
  have b2 := HB.out.cell 2
  have b3 := HB.out.cell 3
  have b4 := HB.out.cell 4
  have c2 := HQ.out.c2
  dsimp only at c2
  go_upto_region 2 with (go_at_call 62; refine (HV.out _ _ _ _ _ _ _).mono ?_; rintro e w' ⟨rfl, rfl⟩; rw [HVV.out])
  have F1 : Hid (Fr [] w1 (w1.alloc (.cells #[.int .i64 rt, .int .i64 rk, .int .i64 rx, .int .i64 ry, .int .i64 rz] 57))) := Lib.hid ((Fr.refl _ _).alloc _)
  have HB1 := Lib.hid (HB.out.fr F1.out (by simp))
  have HQ1 := Lib.hid (HQ.out.fr F1.out (by simp))
  have F01 := Lib.hid (F0.out.trans F1.out)
  clear b0 b1 b2 b3 b4 c2 HB HQ F0 F1
  generalize w1.alloc (.cells #[.int .i64 rt, .int .i64 rk, .int .i64 rx, .int .i64 ry, .int .i64 rz] 57) = w2 at *
  have b0 := HB1.out.cell 0
  have b1 := HB1.out.cell 1
  have b2 := HB1.out.cell 2
  have b3 := HB1.out.cell 3
  have b4 := HB1.out.cell 4
  have c1 := HQ1.out.c1
  have c3 := HQ1.out.c3
  have c4 := HQ1.out.c4
  have c5 := HQ1.out.c5
  dsimp only at c1 c3 c4 c5
  by_cases hn : (ok && (decide (rt = t) && (decide (lo ≤ v) && decide (v ≤ hi)))) = true
  · have E : Hid (so = some ⟨rt, rk, rx, ry, rz⟩) := Lib.hid (by rw [HSC.out, if_pos hn])
    simp only [Bool.and_eq_true, decide_eq_true_eq] at hn
    obtain ⟨rfl, rfl, h3, h4⟩ := hn
    have h3' : ¬ v < lo := by omega
    have h4' : ¬ hi < v := by omega
    go_wp2_with (go_at_call 62; refine (HV.out _ _ _ _ _ _ _).mono ?_; rintro e w' ⟨rfl, rfl⟩; rw [HM.out])
    refine bodyPost_ret (v := .tuple #[.pointer (some ⟨w.heap.size, 0, none⟩), .int .i64 m]) (by simp [results, Try.results61, go_sem]) rfl ⟨some ⟨w.heap.size, 0, none⟩, ?_, ?_, F01.out.alloc _⟩
    · rw [E.out]
      simp only [Pm.me, HM.out]
    · rw [E.out]
      exact ⟨_, rfl, HB1.out.alloc _⟩
  · have E : Hid (so = none) := Lib.hid (by rw [HSC.out, if_neg hn])
    cases ok with
    | false =>
      go_wp2_with fail
      exact bodyPost_ret (v := .tuple #[.pointer none, .int .i64 0]) (by simp [results, Try.results61, go_sem]) rfl ⟨none, by rw [E.out]; rfl, by rw [E.out]; rfl, F01.out⟩
    | true =>
      by_cases h1 : rt = t
      · by_cases h3 : v < lo
        · go_wp2_with fail
          exact bodyPost_ret (v := .tuple #[.pointer none, .int .i64 0]) (by simp [results, Try.results61, go_sem]) rfl ⟨none, by rw [E.out]; rfl, by rw [E.out]; rfl, F01.out⟩
        · have h4 : hi < v := by
            simp [h1] at hn
            omega
          go_wp2_with fail
          exact bodyPost_ret (v := .tuple #[.pointer none, .int .i64 0]) (by simp [results, Try.results61, go_sem]) rfl ⟨none, by rw [E.out]; rfl, by rw [E.out]; rfl, F01.out⟩
      · go_wp2_with fail
        exact bodyPost_ret (v := .tuple #[.pointer none, .int .i64 0]) (by simp [results, Try.results61, go_sem]) rfl ⟨none, by rw [E.out]; rfl, by rw [E.out]; rfl, F01.out⟩
end Go.Proofs.Ytjiikpmkedkbkaa
namespace Go.Proofs.Ytjiikpmkedkbkaa
open Go.RowKit

section
variable {P : Program} (w : World)
theorem run_append_full (t ty e : TypeId) (i : TypeInfo) (z : Value) (size bytes : Nat) (ht : P.underlying t = some (.slice e)) (hi : P.info? e = some i) (hz : i.zero = some z)
    (hsize : i.size = size) (hby : i.bytes = bytes) (hzs : z.cells.size = size)
    (B0 : Nat) (A0 : Option Addr) (n m sc : Nat) (xs : List Value) (h0 : Reads w B0 size A0 n xs) (hm : 0 < m) (hscn : sc ≤ n)
    (B : Nat) (A : Option Addr) (c : Nat) (news : List Value) (hr : Reads w B size A m news) (h1 : ∀ u ∈ news, u.oneCell' = true) (h63 : n + m ≤ maxLen) (hbytes : (n + m) * bytes ≤ 140737488355328) :
    ∃ v' w', (Builtin.append_ #[t, t] ty #[.slice A0 n sc, .slice A m c]).run P w = .ok v' w' ∧ w'.ownsRow 0 e size v' (n + m) (xs ++ news) ∧ w.grownBy w' none ∧ v'.ownBlock = some w.heap.size := by
  subst hsize
  subst hby

  obtain ⟨ad, rfl, hab, hac⟩ := hr.2 hm
  have hs : Src P i.size t (.slice (some ad) m c) m news w := Src.ofSlice w ht ad m c news hr.1 hac h1
  have hold : (Builtin.firstCells i.size n (.slice A0 n sc)).run P w.drew = .ok xs.toArray w.drew := by
    rcases A0 with _ | b
    · have hn : n = 0 := by
        rcases Nat.eq_zero_or_pos n with h2 | h2
        · exact h2
        · obtain ⟨ad', h, _⟩ := h0.2 h2
          cases h
      subst hn
      have hx : xs = [] := List.eq_nil_of_length_eq_zero (by simpa using h0.1)
      subst hx
      exact run_firstCells_none w.drew i.size 0 0 sc
    · refine run_firstCells_some w.drew i.size n b n sc xs h0.1 (fun j u hu => ?_)
      rcases Nat.eq_zero_or_pos n with h2 | h2
      · subst h2
        have hx : xs = [] := List.eq_nil_of_length_eq_zero (by simpa using h0.1)
        subst hx
        simp at hu
      · obtain ⟨b', e1, _, e2⟩ := h0.2 h2
        cases e1
        exact e2 j u hu
  have hrun := run_append_grow_src (P := P) w t t ty e i z ht hi hz A0 n sc xs hold _ m news hs (by omega) (by simp only [maxLen] at h63; omega) (growslice_fits (by omega) hbytes)
  refine ⟨_, _, hrun, ⟨by rw [List.length_append, h0.1, hr.1, Nat.add_mul], .inr ⟨w.heap.size, _, _, rfl, Nat.zero_le _, heap_alloc_new w.drew _, grownCap_ge w (n + m) sc e, grownCap_le_maxLen w (n + m) sc e h63, ?_, ?_⟩⟩, ⟨rfl, rfl, rfl, by simp, fun k hk _ => (Below.heap_alloc w.drew _ k hk)⟩, rfl⟩
  · have hge := grownCap_ge w (n + m) sc e
    simp only [Array.size_append, List.size_toArray, List.length_append, size_zeroCells, hzs, h0.1, hr.1, ← Nat.add_mul]
    congr 1
    omega
  · simp only [Array.toList_append]
    have hlen : (xs ++ news).length = (n + m) * i.size := by rw [List.length_append, h0.1, hr.1, Nat.add_mul]
    rw [← hlen]
    exact List.take_left
end

section
variable {X : Type} {P : Program} {t e size bytes : Nat} {i0 : TypeInfo} {z : Value} {enc : X → List Value} {w w' : World} {L : List X}
theorem wp_append_fullL {o : Oper} {a : Act} {K : Act → World → Prop} {Q : Exit → Act → World → Prop} (s x : Operand)
    (ho : o.op = .call { callee := .builtin .append, args := #[s, x], argTypes := #[t, t] }) (T : ET P t e size bytes i0 z) (h1 : ∀ x, ∀ u ∈ enc x, u.oneCell' = true)
    (B0 : Nat) (A0 : Option Addr) (n sc : Nat) (hs : a.eval s = .slice A0 n sc) (hn : n = L.length) (h0 : Reads w B0 size A0 n (L.flatMap enc)) (hscn : sc ≤ n)
    (B : Nat) (A : Option Addr) (m c : Nat) (N : List X) (hx : a.eval x = .slice A m c) (hm : m = N.length) (hpos : 0 < m) (hr : Reads w B size A m (N.flatMap enc))
    (h63 : L.length + N.length ≤ maxLen) (hbytes : (L.length + N.length) * bytes ≤ 140737488355328)
    (h : ∀ v' w', OwnL e size enc w' v' (L ++ N) → w.grownBy w' none → v'.ownBlock = some w.heap.size → K (a.put o.dst v') w') : o.wp P a w K Q := by
  subst hm
  subst hn
  obtain ⟨v', w', hrun, h2, h3, h4⟩ := run_append_full (P := P) w t o.type e i0 z size bytes T.ht T.hi T.hz T.hs T.hb T.hzs B0 A0 L.length N.length sc (L.flatMap enc) h0 hpos hscn B A c (N.flatMap enc) hr (fun u hu => by
    obtain ⟨y, hy, hu'⟩ := List.mem_flatMap.1 hu
    exact h1 y u hu') h63 hbytes
  unfold Oper.wp execOp
  simp only [ho, resolve, invoke, builtin, Sem.run_bind, Sem.run_pure, Result.andThen_ok, List.map_toArray, List.map_cons, List.map_nil, hs, hx, hrun]
  refine h v' w' ?_ h3 h4
  unfold OwnL
  rw [List.length_append, List.flatMap_append]
  exact h2
theorem wpList_append_fullL {ops : Array Oper} {rest : List Oper} {o : Oper} {a : Act} {Q : Exit → Act → World → Prop} (hgd : o.guard = none) (s x : Operand)
    (ho : o.op = .call { callee := .builtin .append, args := #[s, x], argTypes := #[t, t] }) (T : ET P t e size bytes i0 z) (h1 : ∀ x, ∀ u ∈ enc x, u.oneCell' = true)
    (B0 : Nat) (A0 : Option Addr) (n sc : Nat) (hs : a.eval s = .slice A0 n sc) (hn : n = L.length) (h0 : Reads w B0 size A0 n (L.flatMap enc)) (hscn : sc ≤ n)
    (B : Nat) (A : Option Addr) (m c : Nat) (N : List X) (hx : a.eval x = .slice A m c) (hm : m = N.length) (hpos : 0 < m) (hr : Reads w B size A m (N.flatMap enc))
    (h63 : L.length + N.length ≤ maxLen) (hbytes : (L.length + N.length) * bytes ≤ 140737488355328)
    (h : ∀ v' w', OwnL e size enc w' v' (L ++ N) → w.grownBy w' none → v'.ownBlock = some w.heap.size → wpList P ops Q rest (a.put o.dst v') w') : wpList P ops Q (o :: rest) a w :=
  wpList_plain hgd fun _ hK => wp_append_fullL s x ho T h1 B0 A0 n sc hs hn h0 hscn B A m c N hx hm hpos hr h63 hbytes fun v' w' h2 h3 h4 => hK _ _ (h v' w' h2 h3 h4)
theorem step_append_fullL {ops : Array Oper} {o : Oper} {a : Act} {K : Act → World → Prop} {Q : Exit → Act → World → Prop} {E : Prop} (hgd : o.guard = none) (s x : Operand)
    (ho : o.op = .call { callee := .builtin .append, args := #[s, x], argTypes := #[t, t] }) (T : ET P t e size bytes i0 z) (h1 : ∀ x, ∀ u ∈ enc x, u.oneCell' = true)
    (B0 : Nat) (A0 : Option Addr) (n sc : Nat) (hs : a.eval s = .slice A0 n sc) (hn : n = L.length) (h0 : Reads w B0 size A0 n (L.flatMap enc)) (hscn : sc ≤ n)
    (B : Nat) (A : Option Addr) (m c : Nat) (N : List X) (hx : a.eval x = .slice A m c) (hm : m = N.length) (hpos : 0 < m) (hr : Reads w B size A m (N.flatMap enc))
    (h63 : L.length + N.length ≤ maxLen) (hbytes : (L.length + N.length) * bytes ≤ 140737488355328)
    (h : ∀ v' w', OwnL e size enc w' v' (L ++ N) → w.grownBy w' none → v'.ownBlock = some w.heap.size → K (a.put o.dst v') w') : if Region.wanted o (yielded ops a.tmps) = true then Oper.wp P o a w K Q else E := by
  rw [if_pos (by simp [Region.wanted, hgd])]
  exact wp_append_fullL s x ho T h1 B0 A0 n sc hs hn h0 hscn B A m c N hx hm hpos hr h63 hbytes h
/-- A block of one element, just laid, as a row of its own. -/
theorem own_new (w : World) (x : X) (henc : ∀ x, (enc x).length = size) : OwnL e size enc (w.alloc (.cells (enc x).toArray e)) (.slice (some ⟨w.heap.size, 0, none⟩) 1 1) [x] := by
  refine ⟨by simp [henc], .inr ⟨w.heap.size, 1, (enc x).toArray, rfl, Nat.zero_le _, heap_alloc_new w _, Nat.le_refl _, by decide, by simp [henc], ?_⟩⟩
  simp only [List.flatMap_cons, List.flatMap_nil, List.append_nil]
  exact List.take_of_length_le (by simp [henc])
end
theorem own_cap2 {X : Type} {e size : Nat} {enc : X → List Value} {w : World} {A : Option Addr} {cap : Nat} {L : List X} (h : OwnL e size enc w (.slice A L.length cap) L) : L.length ≤ cap := by
  rcases h.2 with ⟨hv, h0⟩ | ⟨g, c, cur, hv, _, _, hnc, _⟩
  · omega
  · cases hv
    exact hnc
theorem own_open {X : Type} {e size : Nat} {enc : X → List Value} {w : World} {v : Value} {L : List X} (h : OwnL e size enc w v L) (h0 : 0 < L.length) : ∃ A n cap, v = .slice A n cap ∧ n = L.length ∧ Reads w w.heap.size size A n (L.flatMap enc) ∧ 0 < n := by
  obtain ⟨A, cap, hv⟩ := h.val
  exact ⟨A, L.length, cap, hv, rfl, h.reads hv, h0⟩
end Go.Proofs.Ytjiikpmkedkbkaa
namespace Go.Proofs.Ytjiikpmkedkbkaa
open Go.RowKit

/-- The array in which vs stand from o on. -/
def wr : Array Value → Nat → List Value → Array Value
  | a, _, [] => a
  | a, o, v :: r => wr (a.setIfInBounds o v) (o + 1) r
theorem wr_size : ∀ (vs : List Value) (a : Array Value) (o : Nat), (wr a o vs).size = a.size
  | [], _, _ => rfl
  | v :: r, a, o => by rw [wr, wr_size r]; simp
theorem wr_get : ∀ (vs : List Value) (a : Array Value) (o k : Nat), o + vs.length ≤ a.size → (wr a o vs)[k]? = if o ≤ k ∧ k < o + vs.length then vs[k - o]? else a[k]?
  | [], a, o, k, _ => by rw [wr, if_neg (by simp)]
  | v :: r, a, o, k, h => by
    rw [List.length_cons] at h
    rw [wr, wr_get r (a.setIfInBounds o v) (o + 1) k (by rw [Array.size_setIfInBounds]; omega)]
    by_cases h1 : k = o
    · subst h1
      rw [if_neg (by omega), if_pos (by simp)]
      simp only [Nat.sub_self, List.getElem?_cons_zero]
      rw [Array.getElem?_setIfInBounds_self_of_lt (by omega)]
    · by_cases h2 : o + 1 ≤ k ∧ k < o + 1 + r.length
      · rw [if_pos h2, if_pos (by rw [List.length_cons]; omega)]
        rw [show k - o = (k - (o + 1)) + 1 by omega, List.getElem?_cons_succ]
      · rw [if_neg h2, if_neg (by rw [List.length_cons]; omega)]
        rw [Array.getElem?_setIfInBounds_ne (by omega)]
theorem wr_all {a : Array Value} {vs : List Value} (h : a.size = vs.length) : wr a 0 vs = vs.toArray := by
  apply Array.ext_getElem?
  intro k
  rw [wr_get vs a 0 k (by omega)]
  by_cases h1 : k < vs.length
  · rw [if_pos (by omega)]
    simp
  · rw [if_neg (by omega)]
    rw [Array.getElem?_eq_none (by omega), Array.getElem?_eq_none (by simp; omega)]
theorem Blk.puts {g t : Nat} : ∀ (vs : List Value) {w : World} {cs : Array Value} (o : Nat), Blk w g t cs → Blk (w.setCells g o vs) g t (wr cs o vs)
  | [], _, _, _, h => h
  | v :: r, _, _, o, h => Blk.puts r (o + 1) (h.set_ o v)
theorem Fr.puts {S : List Nat} {a : World} {g : Nat} : ∀ (vs : List Value) {w : World} (o : Nat), Fr S a w → (g ∈ S ∨ a.heap.size ≤ g) → Fr S a (w.setCells g o vs)
  | [], _, _, h, _ => h
  | v :: r, _, o, h, hg => Fr.puts r (o + 1) (h.setCell hg v) hg
/-- A block whose cells are all written anew. -/
theorem Blk.fill {g t : Nat} {w : World} {cs : Array Value} (h : Blk w g t cs) (vs : List Value) (hs : cs.size = vs.length) : Blk (w.setCells g 0 vs) g t vs.toArray := by
  have h1 := Blk.puts vs 0 h
  rwa [wr_all hs] at h1

theorem Fr.setRow {S : List Nat} {a w : World} (h : Fr S a w) {g : Nat} (hg : g ∈ S ∨ a.heap.size ≤ g) (cs : Array Value) : Fr S a (w.setRow g cs) :=
  ⟨h.os, h.tape, h.output, by rw [setRow_size]; exact h.size, fun k hk hs => (setRow_other w g k cs (by rintro rfl; rcases hg with h1 | h1; exact hs h1; omega)).trans (h.block k hk hs)⟩
/-- A struct is built; its cells are told. -/
theorem wpList_build_is {P : Program} {ops : Array Oper} {rest : List Oper} {o : Oper} {a : Act} {w : World} {Q : Exit → Act → World → Prop} (hg : o.guard = none) (t : TypeId) (parts : Array (Nat × Operand)) (ho : o.op = .build t parts) (cells : Array Value)
    (hb : P.built t (parts.map fun (i, x) => (i, a.eval x)).toList = some cells) (h : wpList P ops Q rest (a.put o.dst (.agg cells)) w) : wpList P ops Q (o :: rest) a w :=
  wpList_build hg t parts ho (by rw [hb]; rfl) (by rw [hb]; exact h)
/-- A store of a whole struct into a block of its own: the world behind it has a name. -/
theorem wpList_store_blk {P : Program} {ops : Array Oper} {rest : List Oper} {o : Oper} {a : Act} {w : World} {Q : Exit → Act → World → Prop} (hgd : o.guard = none) (ty : TypeId) (x y : Operand) (ho : o.op = .store ty x y)
    (g : Nat) (cells : Array Value) (hx : a.eval x = .pointer (some ⟨g, 0, none⟩)) (hy : a.eval y = .agg cells)
    (t : TypeId) (old : Array Value) (hg : Blk w g t old) (hi : (P.info? ty).map (·.size) = some cells.size)
    (hold : old.size = cells.size) (h1 : cells.toList.all (·.oneCell') = true)
    (h : ∀ w', Blk w' g t cells → Fr [g] w w' → wpList P ops Q rest (a.put o.dst undef) w') : wpList P ops Q (o :: rest) a w :=
  wpList_store_row hgd ty x y ho g cells hx hy t old hg hi hold (by rw [← h1]; simp) (h _ (setRow_heap w g old cells t (0, 0) hg) ((Fr.refl [g] w).setRow (.inl (by simp)) cells))
section
variable {X : Type} {e size : Nat} {enc : X → List Value} {w w' : World} {L : List X}
/-- A row's own block. -/
theorem OwnL.blk {A : Option Addr} {n cap : Nat} (h : OwnL e size enc w (.slice A n cap) L) : n = L.length ∧ ((A = none ∧ L = [] ∧ cap = 0) ∨ ∃ g cur, A = some ⟨g, 0, none⟩ ∧ Blk w g e cur ∧ n ≤ cap ∧ cap ≤ maxLen ∧ cur.size = cap * size ∧ cur.toList.take (n * size) = L.flatMap enc) := by
  rcases h.2 with ⟨h0, h1⟩ | ⟨g, c, cur, hv, _, hg, r⟩
  · injection h0 with e1 e2 e3
    subst e1 e2 e3
    exact ⟨h1.symm, .inl ⟨rfl, List.eq_nil_of_length_eq_zero h1, rfl⟩⟩
  · injection hv with e1 e2 e3
    subst e1 e2 e3
    exact ⟨rfl, .inr ⟨g, cur, rfl, hg, r⟩⟩
theorem OwnL.of_blk {g n cap : Nat} {cur : Array Value} (henc : ∀ x, (enc x).length = size) (hb : Blk w g e cur) (hn : n = L.length) (hc : n ≤ cap) (hm : cap ≤ maxLen) (hs : cur.size = cap * size) (ht : ∀ k, k < n * size → cur[k]? = (L.flatMap enc)[k]?) :
    OwnL e size enc w (.slice (some ⟨g, 0, none⟩) n cap) L := by
  subst hn
  refine ⟨flat_len henc L, .inr ⟨g, cap, cur, rfl, Nat.zero_le _, hb, hc, hm, hs, ?_⟩⟩
  apply List.ext_getElem?
  intro k
  by_cases hk : k < L.length * size
  · rw [List.getElem?_take_of_lt hk, ← ht k hk]
    simp
  · rw [List.getElem?_eq_none (by rw [List.length_take]; omega), List.getElem?_eq_none (by rw [flat_len henc]; omega)]
theorem OwnL.cur_get {n size : Nat} {cur : Array Value} {fl : List Value} (h : cur.toList.take (n * size) = fl) {k : Nat} (hk : k < n * size) : cur[k]? = fl[k]? := by
  rw [← h, List.getElem?_take_of_lt hk]
  simp
/-- An element is written. -/
theorem OwnL.put (henc : ∀ x, (enc x).length = size) {g n cap : Nat} (h : OwnL e size enc w (.slice (some ⟨g, 0, none⟩) n cap) L) {i : Nat} (hi : i < n) (x : X) :
    OwnL e size enc (w.setCells g (i * size) (enc x)) (.slice (some ⟨g, 0, none⟩) n cap) (L.set i x) := by
  obtain ⟨hn, h0 | ⟨g', cur, hA, hb, hc, hm, hs, ht⟩⟩ := h.blk
  · cases h0.1
  · injection hA with hA
    injection hA with hA
    subst hA
    have hle : i * size + size ≤ n * size := by
      have := Nat.mul_le_mul_right size (show i + 1 ≤ n from hi)
      rw [Nat.add_mul] at this
      omega
    have hle2 : n * size ≤ cap * size := Nat.mul_le_mul_right _ hc
    refine OwnL.of_blk henc (Blk.puts _ _ hb) (by rw [List.length_set]; exact hn) hc hm (by rw [wr_size, hs]) (fun k hk => ?_)
    rw [wr_get _ _ _ _ (by rw [henc, hs]; omega), henc]
    have hpos : 0 < size := by
      rcases Nat.eq_zero_or_pos size with h1 | h1
      · subst h1; omega
      · exact h1
    have hq : k / size < L.length := by
      rw [Nat.div_lt_iff_lt_mul hpos, ← hn]
      exact hk
    have hk2 : k = k / size * size + k % size := by rw [Nat.mul_comm]; exact (Nat.div_add_mod k size).symm
    have hr : k % size < size := Nat.mod_lt _ hpos
    have h2 := flat_get henc (L.set i x) (k / size) (by rw [List.length_set]; exact hq) (k % size) hr
    rw [← hk2] at h2
    rw [h2]
    by_cases hki : k / size = i
    · have h3 : i * size ≤ k ∧ k < i * size + size := by rw [← hki]; omega
      rw [if_pos h3]
      have h4 : (L.set i x)[k / size]'(by rw [List.length_set]; exact hq) = x := by simp [hki]
      rw [h4, show k - i * size = k % size by rw [← hki]; omega]
    · have h3 : ¬ (i * size ≤ k ∧ k < i * size + size) := by
        rintro ⟨ha, hb'⟩
        apply hki
        have e1 : i ≤ k / size := by rw [Nat.le_div_iff_mul_le hpos]; exact ha
        have e2 : k / size < i + 1 := by rw [Nat.div_lt_iff_lt_mul hpos, Nat.add_mul]; omega
        omega
      rw [if_neg h3, OwnL.cur_get ht hk]
      have h5 := flat_get henc L (k / size) hq (k % size) hr
      rw [← hk2] at h5
      rw [h5]
      congr 2
      rw [List.getElem_set_ne (fun h => hki h.symm)]
/-- Fewer elements of a row. -/
theorem OwnL.shrink (henc : ∀ x, (enc x).length = size) {g n cap : Nat} (h : OwnL e size enc w (.slice (some ⟨g, 0, none⟩) n cap) L) {m : Nat} (hm : m ≤ n) : OwnL e size enc w (.slice (some ⟨g, 0, none⟩) m cap) (L.take m) := by
  obtain ⟨hn, h0 | ⟨g', cur, hA, hb, hc, hmx, hs, ht⟩⟩ := h.blk
  · cases h0.1
  · injection hA with hA
    injection hA with hA
    subst hA
    have hle : m * size ≤ n * size := Nat.mul_le_mul_right _ hm
    refine OwnL.of_blk henc hb (by rw [List.length_take]; omega) (by omega) hmx hs (fun k hk => ?_)
    rw [OwnL.cur_get ht (by omega), flat_take henc, List.getElem?_take_of_lt hk]
/-- What is written behind the first m elements leaves these. -/
theorem OwnL.tail (henc : ∀ x, (enc x).length = size) {g n cap o : Nat} (h : OwnL e size enc w (.slice (some ⟨g, 0, none⟩) n cap) L) {m : Nat} (hm : m ≤ n) (vs : List Value) (ho : m * size ≤ o) (hv : o + vs.length ≤ cap * size) : OwnL e size enc (w.setCells g o vs) (.slice (some ⟨g, 0, none⟩) m cap) (L.take m) := by
  obtain ⟨hn, h0 | ⟨g', cur, hA, hb, hc, hmx, hs, ht⟩⟩ := h.blk
  · cases h0.1
  · injection hA with hA
    injection hA with hA
    subst hA
    have hle : m * size ≤ n * size := Nat.mul_le_mul_right _ hm
    refine OwnL.of_blk henc (Blk.puts _ _ hb) (by rw [List.length_take]; omega) (by omega) hmx (by rw [wr_size, hs]) (fun k hk => ?_)
    rw [wr_get _ _ _ _ (by rw [hs]; exact hv), if_neg (by omega), OwnL.cur_get ht (by omega), flat_take henc, List.getElem?_take_of_lt hk]
end
end Go.Proofs.Ytjiikpmkedkbkaa
namespace Go.Proofs.Ytjiikpmkedkbkaa
open Go.RowKit

/-- The cells of an effect. -/
abbrev effArr (q : Qry) (c : Chg) (pb pa : Option Addr) (u v : Int) : Array Value := #[.int .i64 q.kind, .int .i64 q.table, .int .i64 q.column, .int .i64 q.low, .int .i64 q.high, .int .i64 q.by_, .int .i64 q.other, .int .i64 c.t, .int .i64 c.k, .bool c.had, .int .i64 c.o0, .int .i64 c.o1, .int .i64 c.o2, .bool c.has, .int .i64 c.n0, .int .i64 c.n1, .int .i64 c.n2, .pointer pb, .pointer pa, .int .i64 u, .int .i64 v]
/-- An effect in memory. -/
def EffAt (w : World) (g : Nat) (q : Qry) (c : Chg) (pb pa : Option Addr) (u v : Int) : Prop := Blk w g 78 (effArr q c pb pa u v)
section
variable {w w' : World} {g : Nat} {q : Qry} {c : Chg} {pb pa : Option Addr} {u v : Int}
theorem EffAt.fr {S : List Nat} (h : EffAt w g q c pb pa u v) (hf : Fr S w w') (hs : g ∉ S) : EffAt w' g q c pb pa u v := Blk.fr h hf hs
theorem EffAt.fr0 (h : EffAt w g q c pb pa u v) (hf : Fr [] w w') : EffAt w' g q c pb pa u v := Blk.fr h hf (by simp)
theorem EffAt.new (w : World) (q : Qry) (c : Chg) (pb pa : Option Addr) (u v : Int) : EffAt (w.alloc (.cells (effArr q c pb pa u v) 78)) w.heap.size q c pb pa u v := Blk.new _ _ _
theorem EffAt.c0 (h : EffAt w g q c pb pa u v) : w.cell? ⟨g, 0, none⟩ = some (.int .i64 q.kind) := Blk.cell h 0
theorem EffAt.c1 (h : EffAt w g q c pb pa u v) : w.cell? ⟨g, 1, none⟩ = some (.int .i64 q.table) := Blk.cell h 1
theorem EffAt.c2 (h : EffAt w g q c pb pa u v) : w.cell? ⟨g, 2, none⟩ = some (.int .i64 q.column) := Blk.cell h 2
theorem EffAt.c3 (h : EffAt w g q c pb pa u v) : w.cell? ⟨g, 3, none⟩ = some (.int .i64 q.low) := Blk.cell h 3
theorem EffAt.c4 (h : EffAt w g q c pb pa u v) : w.cell? ⟨g, 4, none⟩ = some (.int .i64 q.high) := Blk.cell h 4
theorem EffAt.c5 (h : EffAt w g q c pb pa u v) : w.cell? ⟨g, 5, none⟩ = some (.int .i64 q.by_) := Blk.cell h 5
theorem EffAt.c6 (h : EffAt w g q c pb pa u v) : w.cell? ⟨g, 6, none⟩ = some (.int .i64 q.other) := Blk.cell h 6
theorem EffAt.c7 (h : EffAt w g q c pb pa u v) : w.cell? ⟨g, 7, none⟩ = some (.int .i64 c.t) := Blk.cell h 7
theorem EffAt.c8 (h : EffAt w g q c pb pa u v) : w.cell? ⟨g, 8, none⟩ = some (.int .i64 c.k) := Blk.cell h 8
theorem EffAt.c9 (h : EffAt w g q c pb pa u v) : w.cell? ⟨g, 9, none⟩ = some (.bool c.had) := Blk.cell h 9
theorem EffAt.c10 (h : EffAt w g q c pb pa u v) : w.cell? ⟨g, 10, none⟩ = some (.int .i64 c.o0) := Blk.cell h 10
theorem EffAt.c11 (h : EffAt w g q c pb pa u v) : w.cell? ⟨g, 11, none⟩ = some (.int .i64 c.o1) := Blk.cell h 11
theorem EffAt.c12 (h : EffAt w g q c pb pa u v) : w.cell? ⟨g, 12, none⟩ = some (.int .i64 c.o2) := Blk.cell h 12
theorem EffAt.c13 (h : EffAt w g q c pb pa u v) : w.cell? ⟨g, 13, none⟩ = some (.bool c.has) := Blk.cell h 13
theorem EffAt.c14 (h : EffAt w g q c pb pa u v) : w.cell? ⟨g, 14, none⟩ = some (.int .i64 c.n0) := Blk.cell h 14
theorem EffAt.c15 (h : EffAt w g q c pb pa u v) : w.cell? ⟨g, 15, none⟩ = some (.int .i64 c.n1) := Blk.cell h 15
theorem EffAt.c16 (h : EffAt w g q c pb pa u v) : w.cell? ⟨g, 16, none⟩ = some (.int .i64 c.n2) := Blk.cell h 16
theorem EffAt.c17 (h : EffAt w g q c pb pa u v) : w.cell? ⟨g, 17, none⟩ = some (.pointer pb) := Blk.cell h 17
theorem EffAt.c18 (h : EffAt w g q c pb pa u v) : w.cell? ⟨g, 18, none⟩ = some (.pointer pa) := Blk.cell h 18
theorem EffAt.c19 (h : EffAt w g q c pb pa u v) : w.cell? ⟨g, 19, none⟩ = some (.int .i64 u) := Blk.cell h 19
theorem EffAt.c20 (h : EffAt w g q c pb pa u v) : w.cell? ⟨g, 20, none⟩ = some (.int .i64 v) := Blk.cell h 20
/-- The block of an effect is no row's. -/
theorem EffAt.ne_row (h : EffAt w g q c pb pa u v) : ∀ g' cs, Blk w g' 57 cs → g' ≠ g := fun g' cs hb e => by
  subst e
  unfold EffAt at h
  unfold Blk at h hb
  rw [h] at hb
  injection hb with hb
  injection hb with _ ht
  exact absurd ht (by decide)
theorem Blk.ne_row {cs : Array Value} (h : Blk w g 78 cs) : ∀ g' cs, Blk w g' 57 cs → g' ≠ g := fun g' cs hb e => by
  subst e
  unfold Blk at h hb
  rw [h] at hb
  injection hb with hb
  injection hb with _ ht
  exact absurd ht (by decide)
theorem PtrR.frE {p : Option Addr} {x : Option RowV} (h : PtrR w p x) (hf : Fr [g] w w') (hn : ∀ g' cs, Blk w g' 57 cs → g' ≠ g) : PtrR w' p x := by
  cases x with
  | none => exact h
  | some r =>
    obtain ⟨g', e, hb⟩ := h
    exact ⟨g', e, hb.fr hf (by rw [List.mem_singleton]; exact hn g' _ hb)⟩
theorem EffAt.fill {u0 u1 u2 u3 u4 u5 u6 u7 u8 u9 u10 u11 u12 u13 u14 u15 u16 u17 u18 u19 u20 : Value} (h : Blk w g 78 #[u0, u1, u2, u3, u4, u5, u6, u7, u8, u9, u10, u11, u12, u13, u14, u15, u16, u17, u18, u19, u20]) (v0 v1 v2 v3 v4 v5 v6 v7 v8 v9 v10 v11 v12 v13 v14 v15 v16 v17 v18 v19 v20 : Value) :
    ∃ w3, ((((((((((((((((((((w.setCell ⟨g, 0, none⟩ (v0)).setCell ⟨g, 1, none⟩ (v1)).setCell ⟨g, 2, none⟩ (v2)).setCell ⟨g, 3, none⟩ (v3)).setCell ⟨g, 4, none⟩ (v4)).setCell ⟨g, 5, none⟩ (v5)).setCell ⟨g, 6, none⟩ (v6)).setCell ⟨g, 7, none⟩ (v7)).setCell ⟨g, 8, none⟩ (v8)).setCell ⟨g, 9, none⟩ (v9)).setCell ⟨g, 10, none⟩ (v10)).setCell ⟨g, 11, none⟩ (v11)).setCell ⟨g, 12, none⟩ (v12)).setCell ⟨g, 13, none⟩ (v13)).setCell ⟨g, 14, none⟩ (v14)).setCell ⟨g, 15, none⟩ (v15)).setCell ⟨g, 16, none⟩ (v16)).setCell ⟨g, 17, none⟩ (v17)).setCell ⟨g, 18, none⟩ (v18)).setCell ⟨g, 19, none⟩ (v19)).setCell ⟨g, 20, none⟩ (v20) = w3 ∧ Blk w3 g 78 #[v0, v1, v2, v3, v4, v5, v6, v7, v8, v9, v10, v11, v12, v13, v14, v15, v16, v17, v18, v19, v20] ∧ Fr [g] w w3 :=
  ⟨_, rfl, Blk.fill h [v0, v1, v2, v3, v4, v5, v6, v7, v8, v9, v10, v11, v12, v13, v14, v15, v16, v17, v18, v19, v20] rfl, Fr.puts [v0, v1, v2, v3, v4, v5, v6, v7, v8, v9, v10, v11, v12, v13, v14, v15, v16, v17, v18, v19, v20] 0 (Fr.refl [g] w) (.inl (by simp))⟩
end
set_option maxRecDepth 100000 in
set_option maxHeartbeats 8000000 in
/-- What effectOf hands out. -/
theorem effectOf_any (q : Qry) (c : Chg) (w : World) : Calls Try.prog 30 #[q.val, c.val] w fun e w' => ∃ pb pa, e = .returned (.agg (effArr q c pb pa (Pm.old q c) (Pm.now q c))) ∧ PtrR w' pb (Pm.B q c) ∧ PtrR w' pa (Pm.A q c) ∧ Fr [] w w' := by
  have HBF := Lib.hid (pbefore_any c)
  have HAF := Lib.hid (pafter_any c)
  have HSC := Lib.hid (scanned_any q)
  obtain ⟨k, t, col, lo, hi, b, o⟩ := q
  obtain ⟨ct, ck, had, o0, o1, o2, has, n0, n1, n2⟩ := c
  obtain ⟨RB, hRB⟩ : ∃ x, Pm.B ⟨k, t, col, lo, hi, b, o⟩ ⟨ct, ck, had, o0, o1, o2, has, n0, n1, n2⟩ = x := ⟨_, rfl⟩
  obtain ⟨RA, hRA⟩ : ∃ x, Pm.A ⟨k, t, col, lo, hi, b, o⟩ ⟨ct, ck, had, o0, o1, o2, has, n0, n1, n2⟩ = x := ⟨_, rfl⟩
  obtain ⟨u, hu⟩ : ∃ x, Pm.old ⟨k, t, col, lo, hi, b, o⟩ ⟨ct, ck, had, o0, o1, o2, has, n0, n1, n2⟩ = x := ⟨_, rfl⟩
  obtain ⟨v, hv⟩ : ∃ x, Pm.now ⟨k, t, col, lo, hi, b, o⟩ ⟨ct, ck, had, o0, o1, o2, has, n0, n1, n2⟩ = x := ⟨_, rfl⟩
  rw [hRB, hRA, hu, hv]
  have HRB := Lib.hid hRB
  have HRA := Lib.hid hRA
  have HU : Hid (u = Pm.me ⟨k, t, col, lo, hi, b, o⟩ RB) := Lib.hid (by rw [← hu, ← hRB]; rfl)
  have HV : Hid (v = Pm.me ⟨k, t, col, lo, hi, b, o⟩ RA) := Lib.hid (by rw [← hv, ← hRA]; rfl)
  clear hRB hRA hu hv
  have F0 : Hid (Fr [] w (((w.alloc (.cells #[.int .i64 k, .int .i64 t, .int .i64 col, .int .i64 lo, .int .i64 hi, .int .i64 b, .int .i64 o] 24)).alloc (.cells #[.int .i64 ct, .int .i64 ck, .bool had, .int .i64 o0, .int .i64 o1, .int .i64 o2, .bool has, .int .i64 n0, .int .i64 n1, .int .i64 n2] 30)).alloc (.cells #[.int .i64 0, .int .i64 0, .int .i64 0, .int .i64 0, .int .i64 0, .int .i64 0, .int .i64 0, .int .i64 0, .int .i64 0, .bool false, .int .i64 0, .int .i64 0, .int .i64 0, .bool false, .int .i64 0, .int .i64 0, .int .i64 0, .pointer none, .pointer none, .int .i64 0, .int .i64 0] 78))) := Lib.hid ((((Fr.refl _ _).alloc _).alloc _).alloc _)
  have hq := QAt.new w ⟨k, t, col, lo, hi, b, o⟩
  have HQ : Hid (QAt (((w.alloc (.cells #[.int .i64 k, .int .i64 t, .int .i64 col, .int .i64 lo, .int .i64 hi, .int .i64 b, .int .i64 o] 24)).alloc (.cells #[.int .i64 ct, .int .i64 ck, .bool had, .int .i64 o0, .int .i64 o1, .int .i64 o2, .bool has, .int .i64 n0, .int .i64 n1, .int .i64 n2] 30)).alloc (.cells #[.int .i64 0, .int .i64 0, .int .i64 0, .int .i64 0, .int .i64 0, .int .i64 0, .int .i64 0, .int .i64 0, .int .i64 0, .bool false, .int .i64 0, .int .i64 0, .int .i64 0, .bool false, .int .i64 0, .int .i64 0, .int .i64 0, .pointer none, .pointer none, .int .i64 0, .int .i64 0] 78)) w.heap.size ⟨k, t, col, lo, hi, b, o⟩) := Lib.hid ((Blk.alloc hq _).alloc _)
  have hc := Blk.new (w.alloc (.cells #[.int .i64 k, .int .i64 t, .int .i64 col, .int .i64 lo, .int .i64 hi, .int .i64 b, .int .i64 o] 24)) 30 #[.int .i64 ct, .int .i64 ck, .bool had, .int .i64 o0, .int .i64 o1, .int .i64 o2, .bool has, .int .i64 n0, .int .i64 n1, .int .i64 n2]
  rw [World.size_alloc] at hc
  have HC : Hid (Blk (((w.alloc (.cells #[.int .i64 k, .int .i64 t, .int .i64 col, .int .i64 lo, .int .i64 hi, .int .i64 b, .int .i64 o] 24)).alloc (.cells #[.int .i64 ct, .int .i64 ck, .bool had, .int .i64 o0, .int .i64 o1, .int .i64 o2, .bool has, .int .i64 n0, .int .i64 n1, .int .i64 n2] 30)).alloc (.cells #[.int .i64 0, .int .i64 0, .int .i64 0, .int .i64 0, .int .i64 0, .int .i64 0, .int .i64 0, .int .i64 0, .int .i64 0, .bool false, .int .i64 0, .int .i64 0, .int .i64 0, .bool false, .int .i64 0, .int .i64 0, .int .i64 0, .pointer none, .pointer none, .int .i64 0, .int .i64 0] 78)) (w.heap.size + 1) 30 #[.int .i64 ct, .int .i64 ck, .bool had, .int .i64 o0, .int .i64 o1, .int .i64 o2, .bool has, .int .i64 n0, .int .i64 n1, .int .i64 n2]) := Lib.hid (hc.alloc _)
  have hz := Blk.new ((w.alloc (.cells #[.int .i64 k, .int .i64 t, .int .i64 col, .int .i64 lo, .int .i64 hi, .int .i64 b, .int .i64 o] 24)).alloc (.cells #[.int .i64 ct, .int .i64 ck, .bool had, .int .i64 o0, .int .i64 o1, .int .i64 o2, .bool has, .int .i64 n0, .int .i64 n1, .int .i64 n2] 30)) 78 #[.int .i64 0, .int .i64 0, .int .i64 0, .int .i64 0, .int .i64 0, .int .i64 0, .int .i64 0, .int .i64 0, .int .i64 0, .bool false, .int .i64 0, .int .i64 0, .int .i64 0, .bool false, .int .i64 0, .int .i64 0, .int .i64 0, .pointer none, .pointer none, .int .i64 0, .int .i64 0]
  rw [World.size_alloc, World.size_alloc] at hz
  have HZ := Lib.hid hz
  have HSZ : Hid ((((w.alloc (.cells #[.int .i64 k, .int .i64 t, .int .i64 col, .int .i64 lo, .int .i64 hi, .int .i64 b, .int .i64 o] 24)).alloc (.cells #[.int .i64 ct, .int .i64 ck, .bool had, .int .i64 o0, .int .i64 o1, .int .i64 o2, .bool has, .int .i64 n0, .int .i64 n1, .int .i64 n2] 30)).alloc (.cells #[.int .i64 0, .int .i64 0, .int .i64 0, .int .i64 0, .int .i64 0, .int .i64 0, .int .i64 0, .int .i64 0, .int .i64 0, .bool false, .int .i64 0, .int .i64 0, .int .i64 0, .bool false, .int .i64 0, .int .i64 0, .int .i64 0, .pointer none, .pointer none, .int .i64 0, .int .i64 0] 78)).heap.size = w.heap.size + 1 + 1 + 1) := Lib.hid (by simp [World.size_alloc])
  clear hq hc hz
  unfold Qry.val
  go_enter Try.func30, Try.ntmps30
  go_upto_region 1 with (fail)
  generalize (((w.alloc (.cells #[.int .i64 k, .int .i64 t, .int .i64 col, .int .i64 lo, .int .i64 hi, .int .i64 b, .int .i64 o] 24)).alloc (.cells #[.int .i64 ct, .int .i64 ck, .bool had, .int .i64 o0, .int .i64 o1, .int .i64 o2, .bool has, .int .i64 n0, .int .i64 n1, .int .i64 n2] 30)).alloc (.cells #[.int .i64 0, .int .i64 0, .int .i64 0, .int .i64 0, .int .i64 0, .int .i64 0, .int .i64 0, .int .i64 0, .int .i64 0, .bool false, .int .i64 0, .int .i64 0, .int .i64 0, .bool false, .int .i64 0, .int .i64 0, .int .i64 0, .pointer none, .pointer none, .int .i64 0, .int .i64 0] 78)) = w1 at *
  have q0 := HQ.out.c0
  have q1 := HQ.out.c1
  have q2 := HQ.out.c2
  have q3 := HQ.out.c3
  have q4 := HQ.out.c4
  have q5 := HQ.out.c5
  have q6 := HQ.out.c6
  dsimp only at q0 q1 q2 q3 q4 q5 q6

  have c0 := HC.out.cell 0
  have c1 := HC.out.cell 1
  have c2 := HC.out.cell 2
  have c3 := HC.out.cell 3
  have c4 := HC.out.cell 4
  have c5 := HC.out.cell 5
  have c6 := HC.out.cell 6
  have c7 := HC.out.cell 7
  have c8 := HC.out.cell 8
  have c9 := HC.out.cell 9
  go_upto_region 2 with (first
    | (refine wpList_build_is rfl _ _ rfl #[.int .i64 k, .int .i64 t, .int .i64 col, .int .i64 lo, .int .i64 hi, .int .i64 b, .int .i64 o, .int .i64 ct, .int .i64 ck, .bool had, .int .i64 o0, .int .i64 o1, .int .i64 o2, .bool has, .int .i64 n0, .int .i64 n1, .int .i64 n2, .pointer none, .pointer none, .int .i64 0, .int .i64 0] (by kernel_rfl) ?_)
    | (refine wpList_store_blk rfl _ _ _ rfl w1.heap.size #[.int .i64 k, .int .i64 t, .int .i64 col, .int .i64 lo, .int .i64 hi, .int .i64 b, .int .i64 o, .int .i64 ct, .int .i64 ck, .bool had, .int .i64 o0, .int .i64 o1, .int .i64 o2, .bool has, .int .i64 n0, .int .i64 n1, .int .i64 n2, .pointer none, .pointer none, .int .i64 0, .int .i64 0] rfl rfl 78 #[.int .i64 0, .int .i64 0, .int .i64 0, .int .i64 0, .int .i64 0, .int .i64 0, .int .i64 0, .int .i64 0, .int .i64 0, .bool false, .int .i64 0, .int .i64 0, .int .i64 0, .bool false, .int .i64 0, .int .i64 0, .int .i64 0, .pointer none, .pointer none, .int .i64 0, .int .i64 0] (Blk.new _ _ _) (by kernel_rfl) rfl rfl ?_
       intro w2 hb2 hf2
       have HB2 := Lib.hid hb2
       have HF2 := Lib.hid (((Fr.refl [] w1).alloc (.cells #[.int .i64 0, .int .i64 0, .int .i64 0, .int .i64 0, .int .i64 0, .int .i64 0, .int .i64 0, .int .i64 0, .int .i64 0, .bool false, .int .i64 0, .int .i64 0, .int .i64 0, .bool false, .int .i64 0, .int .i64 0, .int .i64 0, .pointer none, .pointer none, .int .i64 0, .int .i64 0] 78)).trans' hf2 (fun i hi => .inr (by rw [List.mem_singleton] at hi; omega)))
       clear hb2 hf2))
  have Q2 := Lib.hid (HQ.out.fr HF2.out (by simp))
  have C2 := Lib.hid (HC.out.fr HF2.out (by simp))
  have Z2 := Lib.hid (HZ.out.fr HF2.out (by simp))
  have E2 : Hid (EffAt w2 w1.heap.size ⟨k, t, col, lo, hi, b, o⟩ ⟨ct, ck, had, o0, o1, o2, has, n0, n1, n2⟩ none none 0 0) := HB2
  have F2 := Lib.hid (F0.out.trans HF2.out)
  have HGE := Lib.hid (HSZ.out)
  clear HQ HC HZ HF2 HB2 HSZ F0 q0 q1 q2 q3 q4 q5 q6 c0 c1 c2 c3 c4 c5 c6 c7 c8 c9
  obtain ⟨ge, hge⟩ : ∃ x, w1.heap.size = x := ⟨_, rfl⟩
  rw [hge] at E2 HGE ⊢
  clear hge
  go_upto_region 3 with (fail)
  have d0 := C2.out.cell 0
  have d1 := C2.out.cell 1
  have d2 := C2.out.cell 2
  have d3 := C2.out.cell 3
  have d4 := C2.out.cell 4
  have d5 := C2.out.cell 5
  have d6 := C2.out.cell 6
  have d7 := C2.out.cell 7
  have d8 := C2.out.cell 8
  have d9 := C2.out.cell 9
  go_upto_region 4 with (first
    | (go_at_call 63
       refine (HBF.out _).mono ?_
       rintro e w3 ⟨⟨rt, rk, rx, ry, rz⟩, rfl, hbe, f3⟩
       have Q3 := Lib.hid (Q2.out.fr f3 (by simp))
       have C3 := Lib.hid (C2.out.fr f3 (by simp))
       have Z3 := Lib.hid (Z2.out.fr f3 (by simp))
       have E3 := Lib.hid (E2.out.fr0 f3)
       have F3 := Lib.hid (F2.out.trans f3)
       have HX : Hid (Pm.sc ⟨k, t, col, lo, hi, b, o⟩ (if had = true then some ⟨rt, rk, rx, ry, rz⟩ else none) = RB) := Lib.hid (by rw [← HRB.out, ← hbe]; rfl)
       clear hbe f3)
    | (go_at_call 61
       refine (HSC.out ⟨rt, rk, rx, ry, rz⟩ had w.heap.size w3 Q3.out).mono ?_
       rintro e w4 ⟨pb, rfl, hp, f4⟩
       rw [HX.out] at hp ⊢
       rw [← HU.out]
       have Q4 := Lib.hid (Q3.out.fr f4 (by simp))
       have C4 := Lib.hid (C3.out.fr f4 (by simp))
       have Z4 := Lib.hid (Z3.out.fr f4 (by simp))
       have E4 := Lib.hid (E3.out.fr0 f4)
       have F4 := Lib.hid (F3.out.trans f4)
       have PB4 := Lib.hid hp
       have y17 := E4.out.c17
       have y19 := E4.out.c19
       have z17 := Blk.frozen E4.out 17
       have z19 := Blk.frozen E4.out 19
       clear hp f4 Q3 C3 Z3 E3 F3))
  have hE5 := Blk.set_ (Blk.set_ E4.out 17 (.pointer pb)) 19 (.int .i64 u)
  have E5 : Hid (EffAt ((w4.setCell ⟨ge, 17, none⟩ (.pointer pb)).setCell ⟨ge, 19, none⟩ (.int .i64 u)) ge ⟨k, t, col, lo, hi, b, o⟩ ⟨ct, ck, had, o0, o1, o2, has, n0, n1, n2⟩ pb none u 0) := Lib.hid hE5
  have f5 : Fr [ge] w4 ((w4.setCell ⟨ge, 17, none⟩ (.pointer pb)).setCell ⟨ge, 19, none⟩ (.int .i64 u)) := ((Fr.refl _ _).setCell (.inl (by simp)) _).setCell (.inl (by simp)) _
  have Q5 := Lib.hid (Q4.out.fr f5 (by rw [List.mem_singleton]; have := HGE.out; omega))
  have C5 := Lib.hid (C4.out.fr f5 (by rw [List.mem_singleton]; have := HGE.out; omega))
  have Z5 := Lib.hid (Z4.out.fr f5 (by rw [List.mem_singleton]; have := HGE.out; omega))
  have PB5 : Hid (PtrR ((w4.setCell ⟨ge, 17, none⟩ (.pointer pb)).setCell ⟨ge, 19, none⟩ (.int .i64 u)) pb RB) := Lib.hid (PB4.out.frE f5 (E4.out.ne_row))
  have F5 := Lib.hid (F4.out.trans' f5 (fun i hi => .inr (by rw [List.mem_singleton] at hi; have := HGE.out; omega)))
  clear hE5 f5 y17 y19 z17 z19 Q4 C4 Z4 E4 F4 PB4 Q2 C2 Z2 E2 F2 HX d0 d1 d2 d3 d4 d5 d6 d7 d8 d9
  generalize (w4.setCell ⟨ge, 17, none⟩ (.pointer pb)).setCell ⟨ge, 19, none⟩ (.int .i64 u) = w5 at *
  have d0 := C5.out.cell 0
  have d1 := C5.out.cell 1
  have d2 := C5.out.cell 2
  have d3 := C5.out.cell 3
  have d4 := C5.out.cell 4
  have d5 := C5.out.cell 5
  have d6 := C5.out.cell 6
  have d7 := C5.out.cell 7
  have d8 := C5.out.cell 8
  have d9 := C5.out.cell 9
  go_upto_region 5 with (first
    | (go_at_call 64
       refine (HAF.out _).mono ?_
       rintro e w6 ⟨⟨st, sk, sx, sy, sz⟩, rfl, hbe, f6⟩
       have Q6 := Lib.hid (Q5.out.fr f6 (by simp))
       have Z6 := Lib.hid (Z5.out.fr f6 (by simp))
       have E6 := Lib.hid (E5.out.fr0 f6)
       have F6 := Lib.hid (F5.out.trans f6)
       have PB6 := Lib.hid (PB5.out.fr0 f6)
       have HX : Hid (Pm.sc ⟨k, t, col, lo, hi, b, o⟩ (if has = true then some ⟨st, sk, sx, sy, sz⟩ else none) = RA) := Lib.hid (by rw [← HRA.out, ← hbe]; rfl)
       clear hbe f6)
    | (go_at_call 61
       refine (HSC.out ⟨st, sk, sx, sy, sz⟩ has w.heap.size w6 Q6.out).mono ?_
       rintro e w7 ⟨pa, rfl, hp, f7⟩
       rw [HX.out] at hp ⊢
       rw [← HV.out]
       have Z7 := Lib.hid (Z6.out.fr f7 (by simp))
       have E7 := Lib.hid (E6.out.fr0 f7)
       have F7 := Lib.hid (F6.out.trans f7)
       have PB7 := Lib.hid (PB6.out.fr0 f7)
       have PA7 := Lib.hid hp
       have y18 := E7.out.c18
       have y20 := E7.out.c20
       have z18 := Blk.frozen E7.out 18
       have z20 := Blk.frozen E7.out 20
       clear hp f7))
  have hE8 := Blk.set_ (Blk.set_ E7.out 18 (.pointer pa)) 20 (.int .i64 v)
  have E8 : Hid (EffAt ((w7.setCell ⟨ge, 18, none⟩ (.pointer pa)).setCell ⟨ge, 20, none⟩ (.int .i64 v)) ge ⟨k, t, col, lo, hi, b, o⟩ ⟨ct, ck, had, o0, o1, o2, has, n0, n1, n2⟩ pb pa u v) := Lib.hid hE8
  have f8 : Fr [ge] w7 ((w7.setCell ⟨ge, 18, none⟩ (.pointer pa)).setCell ⟨ge, 20, none⟩ (.int .i64 v)) := ((Fr.refl _ _).setCell (.inl (by simp)) _).setCell (.inl (by simp)) _
  have Z8 := Lib.hid (Z7.out.fr f8 (by rw [List.mem_singleton]; have := HGE.out; omega))
  have PB8 := Lib.hid (PB7.out.frE f8 (E7.out.ne_row))
  have PA8 := Lib.hid (PA7.out.frE f8 (E7.out.ne_row))
  have F8 := Lib.hid (F7.out.trans' f8 (fun i hi => .inr (by rw [List.mem_singleton] at hi; have := HGE.out; omega)))
  clear hE8 f8 y18 y20 z18 z20 Z7 E7 F7 PB7 PA7 Q6 Z6 E6 F6 PB6 HX d0 d1 d2 d3 d4 d5 d6 d7 d8 d9 Q5 C5 Z5 E5 F5 PB5
  generalize (w7.setCell ⟨ge, 18, none⟩ (.pointer pa)).setCell ⟨ge, 20, none⟩ (.int .i64 v) = w8 at *
  have HE8 := E8.out
  go_wp2_with (first
    | (refine wpList_load_row rfl _ _ rfl ge rfl 78 (effArr ⟨k, t, col, lo, hi, b, o⟩ ⟨ct, ck, had, o0, o1, o2, has, n0, n1, n2⟩ pb pa u v) (0, 0) _ HE8 Try.underlying78 rfl (by kernel_rfl) ?_)
    | (refine wpList_store_blk rfl _ _ _ rfl (w.heap.size + 1 + 1) (effArr ⟨k, t, col, lo, hi, b, o⟩ ⟨ct, ck, had, o0, o1, o2, has, n0, n1, n2⟩ pb pa u v) rfl rfl 78 #[.int .i64 0, .int .i64 0, .int .i64 0, .int .i64 0, .int .i64 0, .int .i64 0, .int .i64 0, .int .i64 0, .int .i64 0, .bool false, .int .i64 0, .int .i64 0, .int .i64 0, .bool false, .int .i64 0, .int .i64 0, .int .i64 0, .pointer none, .pointer none, .int .i64 0, .int .i64 0] Z8.out (by kernel_rfl) rfl rfl ?_
       intro w9 hb9 hf9
       have HB9 := Lib.hid hb9
       have PB9 := Lib.hid (PB8.out.frE hf9 (Z8.out.ne_row))
       have PA9 := Lib.hid (PA8.out.frE hf9 (Z8.out.ne_row))
       have F9 := Lib.hid (F8.out.trans' hf9 (fun i hi => .inr (by rw [List.mem_singleton] at hi; omega)))
       clear hb9 hf9))
  exact bodyPost_ret (results_cell_row rfl _ _ (w.heap.size + 1 + 1) 78 _ (0, 0) _ rfl HB9.out Try.underlying78 rfl (by kernel_rfl)) rfl ⟨pb, pa, rfl, PB9.out, PA9.out, F9.out⟩
end Go.Proofs.Ytjiikpmkedkbkaa
