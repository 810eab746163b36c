/-
  Law 07's sane.
-/
import Derived.Test.YtjiikpmkedkbkaaGbe
namespace Go.Proofs.Ytjiikpmkedkbkaa
open Go.RowKit

/-- sane's seven blocks. -/
structure Sane7.At (w wn : World) : Prop where
  q : Blk wn (w.heap.size) 24 #[.int .i64 5, .int .i64 0, .int .i64 1, .int .i64 10, .int .i64 19, .int .i64 2, .int .i64 0]
  r : Blk wn (w.heap.size + 1) 27 #[.slice none 0 0, .int .i64 7, .bool true]
  add : Blk wn (w.heap.size + 1 + 1) 30 #[.int .i64 0, .int .i64 5, .bool false, .int .i64 0, .int .i64 0, .int .i64 0, .bool true, .int .i64 12, .int .i64 3, .int .i64 0]
  far : Blk wn (w.heap.size + 1 + 1 + 1) 30 #[.int .i64 0, .int .i64 5, .bool false, .int .i64 0, .int .i64 0, .int .i64 0, .bool true, .int .i64 25, .int .i64 3, .int .i64 0]
  gone : Blk wn (w.heap.size + 1 + 1 + 1 + 1) 30 #[.int .i64 0, .int .i64 6, .bool true, .int .i64 12, .int .i64 7, .int .i64 0, .bool false, .int .i64 0, .int .i64 0, .int .i64 0]
  less : Blk wn (w.heap.size + 1 + 1 + 1 + 1 + 1) 30 #[.int .i64 0, .int .i64 6, .bool true, .int .i64 12, .int .i64 7, .int .i64 0, .bool true, .int .i64 12, .int .i64 5, .int .i64 0]
  moved : Blk wn (w.heap.size + 1 + 1 + 1 + 1 + 1 + 1) 30 #[.int .i64 0, .int .i64 6, .bool true, .int .i64 12, .int .i64 9, .int .i64 1, .bool true, .int .i64 13, .int .i64 9, .int .i64 1]
  fr : Fr [] w wn
theorem Sane7.At.fr0 {w wn wm : World} (h : Sane7.At w wn) (hf : Fr [] wn wm) : Sane7.At w wm :=
  ⟨h.q.fr hf (by simp), h.r.fr hf (by simp), h.add.fr hf (by simp), h.far.fr hf (by simp), h.gone.fr hf (by simp), h.less.fr hf (by simp), h.moved.fr hf (by simp), h.fr.trans hf⟩
theorem Sane7.At.new (w : World) : Sane7.At w (((((((w.alloc (.cells #[.int .i64 5, .int .i64 0, .int .i64 1, .int .i64 10, .int .i64 19, .int .i64 2, .int .i64 0] 24)).alloc (.cells #[.slice none 0 0, .int .i64 7, .bool true] 27)).alloc (.cells #[.int .i64 0, .int .i64 5, .bool false, .int .i64 0, .int .i64 0, .int .i64 0, .bool true, .int .i64 12, .int .i64 3, .int .i64 0] 30)).alloc (.cells #[.int .i64 0, .int .i64 5, .bool false, .int .i64 0, .int .i64 0, .int .i64 0, .bool true, .int .i64 25, .int .i64 3, .int .i64 0] 30)).alloc (.cells #[.int .i64 0, .int .i64 6, .bool true, .int .i64 12, .int .i64 7, .int .i64 0, .bool false, .int .i64 0, .int .i64 0, .int .i64 0] 30)).alloc (.cells #[.int .i64 0, .int .i64 6, .bool true, .int .i64 12, .int .i64 7, .int .i64 0, .bool true, .int .i64 12, .int .i64 5, .int .i64 0] 30)).alloc (.cells #[.int .i64 0, .int .i64 6, .bool true, .int .i64 12, .int .i64 9, .int .i64 1, .bool true, .int .i64 13, .int .i64 9, .int .i64 1] 30)) := by
  have h0 := Blk.new w 24 #[.int .i64 5, .int .i64 0, .int .i64 1, .int .i64 10, .int .i64 19, .int .i64 2, .int .i64 0]
  have h1 := Blk.new (w.alloc (.cells #[.int .i64 5, .int .i64 0, .int .i64 1, .int .i64 10, .int .i64 19, .int .i64 2, .int .i64 0] 24)) 27 #[.slice none 0 0, .int .i64 7, .bool true]
  simp only [World.size_alloc] at h1
  have h2 := Blk.new ((w.alloc (.cells #[.int .i64 5, .int .i64 0, .int .i64 1, .int .i64 10, .int .i64 19, .int .i64 2, .int .i64 0] 24)).alloc (.cells #[.slice none 0 0, .int .i64 7, .bool true] 27)) 30 #[.int .i64 0, .int .i64 5, .bool false, .int .i64 0, .int .i64 0, .int .i64 0, .bool true, .int .i64 12, .int .i64 3, .int .i64 0]
  simp only [World.size_alloc] at h2
  have h3 := Blk.new (((w.alloc (.cells #[.int .i64 5, .int .i64 0, .int .i64 1, .int .i64 10, .int .i64 19, .int .i64 2, .int .i64 0] 24)).alloc (.cells #[.slice none 0 0, .int .i64 7, .bool true] 27)).alloc (.cells #[.int .i64 0, .int .i64 5, .bool false, .int .i64 0, .int .i64 0, .int .i64 0, .bool true, .int .i64 12, .int .i64 3, .int .i64 0] 30)) 30 #[.int .i64 0, .int .i64 5, .bool false, .int .i64 0, .int .i64 0, .int .i64 0, .bool true, .int .i64 25, .int .i64 3, .int .i64 0]
  simp only [World.size_alloc] at h3
  have h4 := Blk.new ((((w.alloc (.cells #[.int .i64 5, .int .i64 0, .int .i64 1, .int .i64 10, .int .i64 19, .int .i64 2, .int .i64 0] 24)).alloc (.cells #[.slice none 0 0, .int .i64 7, .bool true] 27)).alloc (.cells #[.int .i64 0, .int .i64 5, .bool false, .int .i64 0, .int .i64 0, .int .i64 0, .bool true, .int .i64 12, .int .i64 3, .int .i64 0] 30)).alloc (.cells #[.int .i64 0, .int .i64 5, .bool false, .int .i64 0, .int .i64 0, .int .i64 0, .bool true, .int .i64 25, .int .i64 3, .int .i64 0] 30)) 30 #[.int .i64 0, .int .i64 6, .bool true, .int .i64 12, .int .i64 7, .int .i64 0, .bool false, .int .i64 0, .int .i64 0, .int .i64 0]
  simp only [World.size_alloc] at h4
  have h5 := Blk.new (((((w.alloc (.cells #[.int .i64 5, .int .i64 0, .int .i64 1, .int .i64 10, .int .i64 19, .int .i64 2, .int .i64 0] 24)).alloc (.cells #[.slice none 0 0, .int .i64 7, .bool true] 27)).alloc (.cells #[.int .i64 0, .int .i64 5, .bool false, .int .i64 0, .int .i64 0, .int .i64 0, .bool true, .int .i64 12, .int .i64 3, .int .i64 0] 30)).alloc (.cells #[.int .i64 0, .int .i64 5, .bool false, .int .i64 0, .int .i64 0, .int .i64 0, .bool true, .int .i64 25, .int .i64 3, .int .i64 0] 30)).alloc (.cells #[.int .i64 0, .int .i64 6, .bool true, .int .i64 12, .int .i64 7, .int .i64 0, .bool false, .int .i64 0, .int .i64 0, .int .i64 0] 30)) 30 #[.int .i64 0, .int .i64 6, .bool true, .int .i64 12, .int .i64 7, .int .i64 0, .bool true, .int .i64 12, .int .i64 5, .int .i64 0]
  simp only [World.size_alloc] at h5
  have h6 := Blk.new ((((((w.alloc (.cells #[.int .i64 5, .int .i64 0, .int .i64 1, .int .i64 10, .int .i64 19, .int .i64 2, .int .i64 0] 24)).alloc (.cells #[.slice none 0 0, .int .i64 7, .bool true] 27)).alloc (.cells #[.int .i64 0, .int .i64 5, .bool false, .int .i64 0, .int .i64 0, .int .i64 0, .bool true, .int .i64 12, .int .i64 3, .int .i64 0] 30)).alloc (.cells #[.int .i64 0, .int .i64 5, .bool false, .int .i64 0, .int .i64 0, .int .i64 0, .bool true, .int .i64 25, .int .i64 3, .int .i64 0] 30)).alloc (.cells #[.int .i64 0, .int .i64 6, .bool true, .int .i64 12, .int .i64 7, .int .i64 0, .bool false, .int .i64 0, .int .i64 0, .int .i64 0] 30)).alloc (.cells #[.int .i64 0, .int .i64 6, .bool true, .int .i64 12, .int .i64 7, .int .i64 0, .bool true, .int .i64 12, .int .i64 5, .int .i64 0] 30)) 30 #[.int .i64 0, .int .i64 6, .bool true, .int .i64 12, .int .i64 9, .int .i64 1, .bool true, .int .i64 13, .int .i64 9, .int .i64 1]
  simp only [World.size_alloc] at h6
  exact ⟨((((((h0.alloc _).alloc _).alloc _).alloc _).alloc _).alloc _), (((((h1.alloc _).alloc _).alloc _).alloc _).alloc _), ((((h2.alloc _).alloc _).alloc _).alloc _), (((h3.alloc _).alloc _).alloc _), ((h4.alloc _).alloc _), (h5.alloc _), h6, ((((((((Fr.refl [] w).alloc _).alloc _).alloc _).alloc _).alloc _).alloc _).alloc _)⟩

/-- A result's block with a value. -/
def R7V (w : World) (g : Nat) (m : Int) : Prop := ∃ v f, R7At w g v m f
theorem R7V.fr0 {w w' : World} {g : Nat} {m : Int} (h : R7V w g m) (hf : Fr [] w w') : R7V w' g m := by
  obtain ⟨v, f, h⟩ := h
  exact ⟨v, f, h.fr hf (by simp)⟩
theorem R7V.cell {w : World} {g : Nat} {m : Int} (h : R7V w g m) : w.cell? ⟨g, 1, none⟩ = some (.int .i64 m) := by
  obtain ⟨v, f, h⟩ := h
  exact h.c1

set_option maxRecDepth 100000 in
set_option maxHeartbeats 4000000 in
theorem sane7 (w : World) :
    Calls Try.prog 7 #[] w fun e w' => e = .returned (.bool true) ∧ Fr [] w w' := by
  have S0 : Hid (Sane7.At w (((((((w.alloc (.cells #[.int .i64 5, .int .i64 0, .int .i64 1, .int .i64 10, .int .i64 19, .int .i64 2, .int .i64 0] 24)).alloc (.cells #[.slice none 0 0, .int .i64 7, .bool true] 27)).alloc (.cells #[.int .i64 0, .int .i64 5, .bool false, .int .i64 0, .int .i64 0, .int .i64 0, .bool true, .int .i64 12, .int .i64 3, .int .i64 0] 30)).alloc (.cells #[.int .i64 0, .int .i64 5, .bool false, .int .i64 0, .int .i64 0, .int .i64 0, .bool true, .int .i64 25, .int .i64 3, .int .i64 0] 30)).alloc (.cells #[.int .i64 0, .int .i64 6, .bool true, .int .i64 12, .int .i64 7, .int .i64 0, .bool false, .int .i64 0, .int .i64 0, .int .i64 0] 30)).alloc (.cells #[.int .i64 0, .int .i64 6, .bool true, .int .i64 12, .int .i64 7, .int .i64 0, .bool true, .int .i64 12, .int .i64 5, .int .i64 0] 30)).alloc (.cells #[.int .i64 0, .int .i64 6, .bool true, .int .i64 12, .int .i64 9, .int .i64 1, .bool true, .int .i64 13, .int .i64 9, .int .i64 1] 30))) := Lib.hid (Sane7.At.new w)
  go_enter Try.func7, Try.ntmps7
  go_upto_region 8 with (fail)
  generalize (((((((w.alloc (.cells #[.int .i64 5, .int .i64 0, .int .i64 1, .int .i64 10, .int .i64 19, .int .i64 2, .int .i64 0] 24)).alloc (.cells #[.slice none 0 0, .int .i64 7, .bool true] 27)).alloc (.cells #[.int .i64 0, .int .i64 5, .bool false, .int .i64 0, .int .i64 0, .int .i64 0, .bool true, .int .i64 12, .int .i64 3, .int .i64 0] 30)).alloc (.cells #[.int .i64 0, .int .i64 5, .bool false, .int .i64 0, .int .i64 0, .int .i64 0, .bool true, .int .i64 25, .int .i64 3, .int .i64 0] 30)).alloc (.cells #[.int .i64 0, .int .i64 6, .bool true, .int .i64 12, .int .i64 7, .int .i64 0, .bool false, .int .i64 0, .int .i64 0, .int .i64 0] 30)).alloc (.cells #[.int .i64 0, .int .i64 6, .bool true, .int .i64 12, .int .i64 7, .int .i64 0, .bool true, .int .i64 12, .int .i64 5, .int .i64 0] 30)).alloc (.cells #[.int .i64 0, .int .i64 6, .bool true, .int .i64 12, .int .i64 9, .int .i64 1, .bool true, .int .i64 13, .int .i64 9, .int .i64 1] 30)) = wc at *
  have hq := S0.out.q
  have hr := S0.out.r
  have ha := S0.out.add
  have HP := Lib.hid (patch_any Sane7.q Sane7.add (by decide) none 0 0 7 true [] wc (by simp [AtL]) rfl (by simp) (by omega) (by omega))
  go_cut [8, 9] (fun p b wn => ∃ g1, p = .pointer (some ⟨g1, 0, none⟩) ∧ b = .bool true ∧ Hid (Sane7.At w wn ∧ R7V wn g1 3))
  case first =>
    go_wp2_with (first
      | (refine wpList_load_row rfl _ _ rfl w.heap.size rfl 24 _ (0, 0) _ hq Try.underlying24 rfl (by kernel_rfl) ?_)
      | (refine wpList_load_row rfl _ _ rfl (w.heap.size + 1) rfl 27 _ (0, 0) _ hr Try.underlying27 rfl (by kernel_rfl) ?_)
      | (refine wpList_load_row rfl _ _ rfl (w.heap.size + 1 + 1) rfl 30 _ (0, 0) _ ha Try.underlying30 rfl (by kernel_rfl) ?_)
      | (go_at_call 11; (refine HP.out.mono ?_); rintro e w3 ⟨A', n', c', m', f', k, rfl, hpp⟩; have HPP := Lib.hid hpp; clear hpp))
    go_meet
    have hk : k = true := by
      cases hk : k
      · have h := (HPP.out.2.1 hk).1
        exact absurd h (by decide)
      · rfl
    obtain ⟨L', hL, -⟩ := HPP.out.1 hk
    have hm : m' = 3 := by
      have h := Sane7.one
      rw [hL] at h
      simpa using h
    subst hk hm
    have hf := HPP.out.2.2.trans ((Fr.refl [] w3).alloc (.cells #[.slice A' n' c', .int .i64 3, .bool f'] 27))
    exact ⟨w3.heap.size, rfl, rfl, Lib.hid ⟨(S0.out).fr0 hf, ⟨_, _, R7At.new w3 _ _ _⟩⟩⟩
  case rest =>
  obtain ⟨g1, rfl, rfl, S1⟩ := hcut
  clear HP hq hr ha S0
  skip
  have hq := S1.out.1.q
  have hr := S1.out.1.r
  have ha := S1.out.1.far
  have HP := Lib.hid (patch_any Sane7.q Sane7.far (by decide) none 0 0 7 true [] wc (by simp [AtL]) rfl (by simp) (by omega) (by omega))
  go_upto_region 9 with (fail)
  go_cut [10, 11] (fun p b wn => ∃ g2, p = .pointer (some ⟨g2, 0, none⟩) ∧ b = .bool true ∧ Hid (Sane7.At w wn ∧ R7V wn g1 3 ∧ R7V wn g2 7))
  case first =>
    go_wp2_with (first
      | (refine wpList_load_row rfl _ _ rfl w.heap.size rfl 24 _ (0, 0) _ hq Try.underlying24 rfl (by kernel_rfl) ?_)
      | (refine wpList_load_row rfl _ _ rfl (w.heap.size + 1) rfl 27 _ (0, 0) _ hr Try.underlying27 rfl (by kernel_rfl) ?_)
      | (refine wpList_load_row rfl _ _ rfl (w.heap.size + 1 + 1 + 1) rfl 30 _ (0, 0) _ ha Try.underlying30 rfl (by kernel_rfl) ?_)
      | (go_at_call 11; (refine HP.out.mono ?_); rintro e w3 ⟨A', n', c', m', f', k, rfl, hpp⟩; have HPP := Lib.hid hpp; clear hpp))
    go_meet
    have hk : k = true := by
      cases hk : k
      · have h := (HPP.out.2.1 hk).1
        exact absurd h (by decide)
      · rfl
    obtain ⟨L', hL, -⟩ := HPP.out.1 hk
    have hm : m' = 7 := by
      have h := Sane7.two
      rw [hL] at h
      simpa using h
    subst hk hm
    have hf := HPP.out.2.2.trans ((Fr.refl [] w3).alloc (.cells #[.slice A' n' c', .int .i64 7, .bool f'] 27))
    exact ⟨w3.heap.size, rfl, rfl, Lib.hid ⟨(S1.out.1).fr0 hf, (S1.out.2).fr0 hf, ⟨_, _, R7At.new w3 _ _ _⟩⟩⟩
  case rest =>
  obtain ⟨g2, rfl, rfl, S2⟩ := hcut
  clear HP hq hr ha S1
  skip
  have hq := S2.out.1.q
  have hr := S2.out.1.r
  have ha := S2.out.1.gone
  have HP := Lib.hid (patch_any Sane7.q Sane7.gone (by decide) none 0 0 7 true [] wc (by simp [AtL]) rfl (by simp) (by omega) (by omega))
  go_upto_region 10 with (fail)
  go_cut [13] (fun b wn => b = .bool false ∧ Hid (Sane7.At w wn ∧ R7V wn g1 3 ∧ R7V wn g2 7))
  case first =>
    go_wp2_with (first
      | (refine wpList_load_row rfl _ _ rfl w.heap.size rfl 24 _ (0, 0) _ hq Try.underlying24 rfl (by kernel_rfl) ?_)
      | (refine wpList_load_row rfl _ _ rfl (w.heap.size + 1) rfl 27 _ (0, 0) _ hr Try.underlying27 rfl (by kernel_rfl) ?_)
      | (refine wpList_load_row rfl _ _ rfl (w.heap.size + 1 + 1 + 1 + 1) rfl 30 _ (0, 0) _ ha Try.underlying30 rfl (by kernel_rfl) ?_)
      | (go_at_call 11; (refine HP.out.mono ?_); rintro e w3 ⟨A', n', c', m', f', k, rfl, hpp⟩; have HPP := Lib.hid hpp; clear hpp))
    go_meet
    have hk : k = false := by
      cases hk : k
      · rfl
      · obtain ⟨L', hL, -⟩ := HPP.out.1 hk
        rw [Sane7.three] at hL
        cases hL
    subst hk
    have hf := HPP.out.2.2.trans ((Fr.refl [] w3).alloc (.cells #[.slice A' n' c', .int .i64 m', .bool f'] 27))
    exact ⟨rfl, Lib.hid ⟨(S2.out.1).fr0 hf, (S2.out.2.1).fr0 hf, (S2.out.2.2).fr0 hf⟩⟩
  case rest =>
  obtain ⟨rfl, S3⟩ := hcut
  clear HP hq hr ha S2
  skip
  have hq := S3.out.1.q
  have hr := S3.out.1.r
  have ha := S3.out.1.less
  have HP := Lib.hid (patch_any Sane7.q Sane7.less (by decide) none 0 0 7 true [] wc (by simp [AtL]) rfl (by simp) (by omega) (by omega))
  go_upto_region 11 with (fail)
  go_cut [14, 15] (fun p b wn => ∃ g3, p = .pointer (some ⟨g3, 0, none⟩) ∧ b = .bool true ∧ Hid (Sane7.At w wn ∧ R7V wn g1 3 ∧ R7V wn g2 7 ∧ R7V wn g3 5))
  case first =>
    go_wp2_with (first
      | (refine wpList_load_row rfl _ _ rfl w.heap.size rfl 24 _ (0, 0) _ hq Try.underlying24 rfl (by kernel_rfl) ?_)
      | (refine wpList_load_row rfl _ _ rfl (w.heap.size + 1) rfl 27 _ (0, 0) _ hr Try.underlying27 rfl (by kernel_rfl) ?_)
      | (refine wpList_load_row rfl _ _ rfl (w.heap.size + 1 + 1 + 1 + 1 + 1) rfl 30 _ (0, 0) _ ha Try.underlying30 rfl (by kernel_rfl) ?_)
      | (go_at_call 11; (refine HP.out.mono ?_); rintro e w3 ⟨A', n', c', m', f', k, rfl, hpp⟩; have HPP := Lib.hid hpp; clear hpp))
    go_meet
    have hk : k = true := by
      cases hk : k
      · have h := (HPP.out.2.1 hk).1
        exact absurd h (by decide)
      · rfl
    obtain ⟨L', hL, -⟩ := HPP.out.1 hk
    have hm : m' = 5 := by
      have h := Sane7.four
      rw [hL] at h
      simpa using h
    subst hk hm
    have hf := HPP.out.2.2.trans ((Fr.refl [] w3).alloc (.cells #[.slice A' n' c', .int .i64 5, .bool f'] 27))
    exact ⟨w3.heap.size, rfl, rfl, Lib.hid ⟨(S3.out.1).fr0 hf, (S3.out.2.1).fr0 hf, (S3.out.2.2).fr0 hf, ⟨_, _, R7At.new w3 _ _ _⟩⟩⟩
  case rest =>
  obtain ⟨g3, rfl, rfl, S4⟩ := hcut
  clear HP hq hr ha S3
  skip
  have hq1 := S4.out.1.add
  have hq2 := S4.out.1.gone
  have HP := Lib.hid (apply_any Sane7.qc (by decide) none 0 0 4 false [] 1 (some ⟨wc.heap.size, 0, none⟩) 2 2 [Sane7.add, Sane7.gone] (wc.alloc (.cells #[.int .i64 0, .int .i64 5, .bool false, .int .i64 0, .int .i64 0, .int .i64 0, .bool true, .int .i64 12, .int .i64 3, .int .i64 0, .int .i64 0, .int .i64 6, .bool true, .int .i64 12, .int .i64 7, .int .i64 0, .bool false, .int .i64 0, .int .i64 0, .int .i64 0] 30)) (by simp [AtL]) rfl (by simp) (by omega) (by omega) (AtL.of_blk Chg.len (Blk.new wc 30 #[.int .i64 0, .int .i64 5, .bool false, .int .i64 0, .int .i64 0, .int .i64 0, .bool true, .int .i64 12, .int .i64 3, .int .i64 0, .int .i64 0, .int .i64 6, .bool true, .int .i64 12, .int .i64 7, .int .i64 0, .bool false, .int .i64 0, .int .i64 0, .int .i64 0]) rfl) rfl)
  have FB : Hid (Fr [] wc (wc.alloc (.cells #[.int .i64 0, .int .i64 5, .bool false, .int .i64 0, .int .i64 0, .int .i64 0, .bool true, .int .i64 12, .int .i64 3, .int .i64 0, .int .i64 0, .int .i64 6, .bool true, .int .i64 12, .int .i64 7, .int .i64 0, .bool false, .int .i64 0, .int .i64 0, .int .i64 0] 30))) := Lib.hid ((Fr.refl [] wc).alloc _)
  go_upto_region 12 with (fail)
  go_cut [16, 17, 18] (fun p b d wn => ∃ g4, p = .pointer (some ⟨g4, 0, none⟩) ∧ b = .bool true ∧ d = .bool true ∧ Hid (Sane7.At w wn ∧ R7V wn g1 3 ∧ R7V wn g2 7 ∧ R7V wn g3 5 ∧ R7V wn g4 4))
  case first =>
    go_wp2_with (first
      | (refine wpList_load_row rfl _ _ rfl (w.heap.size + 1 + 1) rfl 30 _ (0, 0) _ hq1 Try.underlying30 rfl (by kernel_rfl) ?_)
      | (refine wpList_load_row rfl _ _ rfl (w.heap.size + 1 + 1 + 1 + 1) rfl 30 _ (0, 0) _ hq2 Try.underlying30 rfl (by kernel_rfl) ?_)
      | (go_at_call 18; (refine HP.out.mono ?_); rintro e w3 ⟨A', n', c', m', f', t', k, rfl, hpp⟩; have HPP := Lib.hid hpp; clear hpp))
    go_meet
    have hk : k = true := by
      cases hk : k
      · have h := (HPP.out.2.1 hk).1
        exact absurd h (by decide)
      · rfl
    obtain ⟨L', hL, -⟩ := HPP.out.1 hk
    have hm : m' = 4 ∧ t' = true := by
      have h := Sane7.five
      rw [hL] at h
      simpa using h
    obtain ⟨hm, ht⟩ := hm
    subst hk hm ht
    have hf := (FB.out.trans HPP.out.2.2).trans ((Fr.refl [] w3).alloc (.cells #[.slice A' n' c', .int .i64 4, .bool f'] 27))
    exact ⟨w3.heap.size, rfl, rfl, rfl, Lib.hid ⟨(S4.out.1).fr0 hf, (S4.out.2.1).fr0 hf, (S4.out.2.2.1).fr0 hf, (S4.out.2.2.2).fr0 hf, ⟨_, _, R7At.new w3 _ _ _⟩⟩⟩
  case rest =>
  obtain ⟨g4, rfl, rfl, rfl, S5⟩ := hcut
  clear HP FB hq1 hq2 S4
  have hq1 := S5.out.1.add
  have HP := Lib.hid (apply_any Sane7.qr (by decide) none 0 0 0 false [] 1 (some ⟨wc.heap.size, 0, none⟩) 1 1 [Sane7.add] (wc.alloc (.cells #[.int .i64 0, .int .i64 5, .bool false, .int .i64 0, .int .i64 0, .int .i64 0, .bool true, .int .i64 12, .int .i64 3, .int .i64 0] 30)) (by simp [AtL]) rfl (by simp) (by omega) (by omega) (AtL.of_blk Chg.len (Blk.new wc 30 #[.int .i64 0, .int .i64 5, .bool false, .int .i64 0, .int .i64 0, .int .i64 0, .bool true, .int .i64 12, .int .i64 3, .int .i64 0]) rfl) rfl)
  have FB : Hid (Fr [] wc (wc.alloc (.cells #[.int .i64 0, .int .i64 5, .bool false, .int .i64 0, .int .i64 0, .int .i64 0, .bool true, .int .i64 12, .int .i64 3, .int .i64 0] 30))) := Lib.hid ((Fr.refl [] wc).alloc _)
  go_upto_region 13 with (fail)
  go_cut [19, 21] (fun p d wn => ∃ ge A1 c1 m1 f1, p = .pointer (some ⟨ge, 0, none⟩) ∧ d = .bool true ∧ Hid (Sane7.At w wn ∧ R7V wn g1 3 ∧ R7V wn g2 7 ∧ R7V wn g3 5 ∧ R7V wn g4 4) ∧ Hid (R7At wn ge (.slice A1 1 c1) m1 f1 ∧ AtL RowV.cells 5 wn A1 [⟨0, 5, 12, 3, 0⟩]))
  case first =>
    go_wp2_with (first
      | (refine wpList_load_row rfl _ _ rfl (w.heap.size + 1 + 1) rfl 30 _ (0, 0) _ hq1 Try.underlying30 rfl (by kernel_rfl) ?_)
      | (go_at_call 18; (refine HP.out.mono ?_); rintro e w3 ⟨A', n', c', m', f', t', k, rfl, hpp⟩; have HPP := Lib.hid hpp; clear hpp))
    go_meet
    have hk : k = true := by
      cases hk : k
      · have h := (HPP.out.2.1 hk).1
        exact absurd h (by decide)
      · rfl
    obtain ⟨L', hL, hat, hn1, -⟩ := HPP.out.1 hk
    have hm : L' = [⟨0, 5, 12, 3, 0⟩] ∧ t' = true := by
      have h := Sane7.six
      rw [hL] at h
      simpa using h
    obtain ⟨hm, ht⟩ := hm
    subst hk hm ht
    have hn2 : n' = 1 := hn1
    subst hn2
    have hg := (Fr.refl [] w3).alloc (.cells #[.slice A' 1 c', .int .i64 m', .bool f'] 27)
    have hf := (FB.out.trans HPP.out.2.2).trans hg
    exact ⟨w3.heap.size, _, _, _, _, rfl, rfl, Lib.hid ⟨(S5.out.1).fr0 hf, (S5.out.2.1).fr0 hf, (S5.out.2.2.1).fr0 hf, (S5.out.2.2.2.1).fr0 hf, (S5.out.2.2.2.2).fr0 hf⟩, Lib.hid ⟨R7At.new w3 _ _ _, hat.fr0 hg⟩⟩
  case rest =>
  obtain ⟨ge, A1, c1, m1, f1, rfl, rfl, S6, SE⟩ := hcut
  clear HP FB hq1 S5
  have e0 : wc.cell? ⟨ge, 0, none⟩ = some (.slice A1 1 c1) := SE.out.1.c0
  go_upto_region 16 with (fail)
  clear e0

  have HT1 : Hid (∀ W, Calls Try.prog 13 #[.agg #[.int .i64 5, .int .i64 0, .int .i64 1, .int .i64 10, .int .i64 19, .int .i64 2, .int .i64 0], .agg #[.int .i64 0, .int .i64 5, .bool false, .int .i64 0, .int .i64 0, .int .i64 0, .bool true, .int .i64 12, .int .i64 3, .int .i64 0]] W fun e w' => e = .returned (.bool true) ∧ Fr [] W w') := Lib.hid (fun W => by
    have h := touches_any Sane7.q Sane7.add (by decide) W
    rw [Sane7.t1] at h
    exact h)
  have HT2 : Hid (∀ W, Calls Try.prog 13 #[.agg #[.int .i64 5, .int .i64 0, .int .i64 1, .int .i64 10, .int .i64 19, .int .i64 2, .int .i64 0], .agg #[.int .i64 0, .int .i64 5, .bool false, .int .i64 0, .int .i64 0, .int .i64 0, .bool true, .int .i64 25, .int .i64 3, .int .i64 0]] W fun e w' => e = .returned (.bool false) ∧ Fr [] W w') := Lib.hid (fun W => by
    have h := touches_any Sane7.q Sane7.far (by decide) W
    rw [Sane7.t2] at h
    exact h)
  have HT3 : Hid (∀ W, Calls Try.prog 13 #[.agg #[.int .i64 5, .int .i64 0, .int .i64 1, .int .i64 10, .int .i64 19, .int .i64 2, .int .i64 0], .agg #[.int .i64 0, .int .i64 6, .bool true, .int .i64 12, .int .i64 7, .int .i64 0, .bool false, .int .i64 0, .int .i64 0, .int .i64 0]] W fun e w' => e = .returned (.bool true) ∧ Fr [] W w') := Lib.hid (fun W => by
    have h := touches_any Sane7.q Sane7.gone (by decide) W
    rw [Sane7.t3] at h
    exact h)
  have HT4 : Hid (∀ W, Calls Try.prog 13 #[.agg #[.int .i64 5, .int .i64 0, .int .i64 1, .int .i64 10, .int .i64 19, .int .i64 2, .int .i64 0], .agg #[.int .i64 0, .int .i64 6, .bool true, .int .i64 12, .int .i64 9, .int .i64 1, .bool true, .int .i64 13, .int .i64 9, .int .i64 1]] W fun e w' => e = .returned (.bool false) ∧ Fr [] W w') := Lib.hid (fun W => by
    have h := touches_any Sane7.q Sane7.moved (by decide) W
    rw [Sane7.t4] at h
    exact h)
  have q0 : wc.cell? ⟨w.heap.size, 0, none⟩ = some (.int .i64 5) := S6.out.1.q.cell 0
  have q1 : wc.cell? ⟨w.heap.size, 1, none⟩ = some (.int .i64 0) := S6.out.1.q.cell 1
  have q2 : wc.cell? ⟨w.heap.size, 2, none⟩ = some (.int .i64 1) := S6.out.1.q.cell 2
  have q3 : wc.cell? ⟨w.heap.size, 3, none⟩ = some (.int .i64 10) := S6.out.1.q.cell 3
  have q4 : wc.cell? ⟨w.heap.size, 4, none⟩ = some (.int .i64 19) := S6.out.1.q.cell 4
  have q5 : wc.cell? ⟨w.heap.size, 5, none⟩ = some (.int .i64 2) := S6.out.1.q.cell 5
  have q6 : wc.cell? ⟨w.heap.size, 6, none⟩ = some (.int .i64 0) := S6.out.1.q.cell 6
  have k0 : wc.cell? ⟨w.heap.size + 1 + 1, 0, none⟩ = some (.int .i64 0) := S6.out.1.add.cell 0
  have k1 : wc.cell? ⟨w.heap.size + 1 + 1, 1, none⟩ = some (.int .i64 5) := S6.out.1.add.cell 1
  have k2 : wc.cell? ⟨w.heap.size + 1 + 1, 2, none⟩ = some (.bool false) := S6.out.1.add.cell 2
  have k3 : wc.cell? ⟨w.heap.size + 1 + 1, 3, none⟩ = some (.int .i64 0) := S6.out.1.add.cell 3
  have k4 : wc.cell? ⟨w.heap.size + 1 + 1, 4, none⟩ = some (.int .i64 0) := S6.out.1.add.cell 4
  have k5 : wc.cell? ⟨w.heap.size + 1 + 1, 5, none⟩ = some (.int .i64 0) := S6.out.1.add.cell 5
  have k6 : wc.cell? ⟨w.heap.size + 1 + 1, 6, none⟩ = some (.bool true) := S6.out.1.add.cell 6
  have k7 : wc.cell? ⟨w.heap.size + 1 + 1, 7, none⟩ = some (.int .i64 12) := S6.out.1.add.cell 7
  have k8 : wc.cell? ⟨w.heap.size + 1 + 1, 8, none⟩ = some (.int .i64 3) := S6.out.1.add.cell 8
  have k9 : wc.cell? ⟨w.heap.size + 1 + 1, 9, none⟩ = some (.int .i64 0) := S6.out.1.add.cell 9
  go_wp2_with fail
  refine (HT1.out _).mono ?_
  rintro e wt1 ⟨rfl, ft⟩
  have S7 : Hid (Sane7.At w wt1 ∧ R7V wt1 g1 3 ∧ R7V wt1 g2 7 ∧ R7V wt1 g3 5 ∧ R7V wt1 g4 4) := Lib.hid ⟨(S6.out.1).fr0 ft, (S6.out.2.1).fr0 ft, (S6.out.2.2.1).fr0 ft, (S6.out.2.2.2.1).fr0 ft, (S6.out.2.2.2.2).fr0 ft⟩
  replace SE := Lib.hid (And.intro (SE.out.1.fr ft (by simp)) (SE.out.2.fr0 ft))
  clear ft S6 HT1 q0 q1 q2 q3 q4 q5 q6 k0 k1 k2 k3 k4 k5 k6 k7 k8 k9
  have q0 : wt1.cell? ⟨w.heap.size, 0, none⟩ = some (.int .i64 5) := S7.out.1.q.cell 0
  have q1 : wt1.cell? ⟨w.heap.size, 1, none⟩ = some (.int .i64 0) := S7.out.1.q.cell 1
  have q2 : wt1.cell? ⟨w.heap.size, 2, none⟩ = some (.int .i64 1) := S7.out.1.q.cell 2
  have q3 : wt1.cell? ⟨w.heap.size, 3, none⟩ = some (.int .i64 10) := S7.out.1.q.cell 3
  have q4 : wt1.cell? ⟨w.heap.size, 4, none⟩ = some (.int .i64 19) := S7.out.1.q.cell 4
  have q5 : wt1.cell? ⟨w.heap.size, 5, none⟩ = some (.int .i64 2) := S7.out.1.q.cell 5
  have q6 : wt1.cell? ⟨w.heap.size, 6, none⟩ = some (.int .i64 0) := S7.out.1.q.cell 6
  have k0 : wt1.cell? ⟨w.heap.size + 1 + 1 + 1, 0, none⟩ = some (.int .i64 0) := S7.out.1.far.cell 0
  have k1 : wt1.cell? ⟨w.heap.size + 1 + 1 + 1, 1, none⟩ = some (.int .i64 5) := S7.out.1.far.cell 1
  have k2 : wt1.cell? ⟨w.heap.size + 1 + 1 + 1, 2, none⟩ = some (.bool false) := S7.out.1.far.cell 2
  have k3 : wt1.cell? ⟨w.heap.size + 1 + 1 + 1, 3, none⟩ = some (.int .i64 0) := S7.out.1.far.cell 3
  have k4 : wt1.cell? ⟨w.heap.size + 1 + 1 + 1, 4, none⟩ = some (.int .i64 0) := S7.out.1.far.cell 4
  have k5 : wt1.cell? ⟨w.heap.size + 1 + 1 + 1, 5, none⟩ = some (.int .i64 0) := S7.out.1.far.cell 5
  have k6 : wt1.cell? ⟨w.heap.size + 1 + 1 + 1, 6, none⟩ = some (.bool true) := S7.out.1.far.cell 6
  have k7 : wt1.cell? ⟨w.heap.size + 1 + 1 + 1, 7, none⟩ = some (.int .i64 25) := S7.out.1.far.cell 7
  have k8 : wt1.cell? ⟨w.heap.size + 1 + 1 + 1, 8, none⟩ = some (.int .i64 3) := S7.out.1.far.cell 8
  have k9 : wt1.cell? ⟨w.heap.size + 1 + 1 + 1, 9, none⟩ = some (.int .i64 0) := S7.out.1.far.cell 9
  go_wp2_with fail
  refine (HT2.out _).mono ?_
  rintro e wt2 ⟨rfl, ft⟩
  have S8 : Hid (Sane7.At w wt2 ∧ R7V wt2 g1 3 ∧ R7V wt2 g2 7 ∧ R7V wt2 g3 5 ∧ R7V wt2 g4 4) := Lib.hid ⟨(S7.out.1).fr0 ft, (S7.out.2.1).fr0 ft, (S7.out.2.2.1).fr0 ft, (S7.out.2.2.2.1).fr0 ft, (S7.out.2.2.2.2).fr0 ft⟩
  replace SE := Lib.hid (And.intro (SE.out.1.fr ft (by simp)) (SE.out.2.fr0 ft))
  clear ft S7 HT2 q0 q1 q2 q3 q4 q5 q6 k0 k1 k2 k3 k4 k5 k6 k7 k8 k9
  have q0 : wt2.cell? ⟨w.heap.size, 0, none⟩ = some (.int .i64 5) := S8.out.1.q.cell 0
  have q1 : wt2.cell? ⟨w.heap.size, 1, none⟩ = some (.int .i64 0) := S8.out.1.q.cell 1
  have q2 : wt2.cell? ⟨w.heap.size, 2, none⟩ = some (.int .i64 1) := S8.out.1.q.cell 2
  have q3 : wt2.cell? ⟨w.heap.size, 3, none⟩ = some (.int .i64 10) := S8.out.1.q.cell 3
  have q4 : wt2.cell? ⟨w.heap.size, 4, none⟩ = some (.int .i64 19) := S8.out.1.q.cell 4
  have q5 : wt2.cell? ⟨w.heap.size, 5, none⟩ = some (.int .i64 2) := S8.out.1.q.cell 5
  have q6 : wt2.cell? ⟨w.heap.size, 6, none⟩ = some (.int .i64 0) := S8.out.1.q.cell 6
  have k0 : wt2.cell? ⟨w.heap.size + 1 + 1 + 1 + 1, 0, none⟩ = some (.int .i64 0) := S8.out.1.gone.cell 0
  have k1 : wt2.cell? ⟨w.heap.size + 1 + 1 + 1 + 1, 1, none⟩ = some (.int .i64 6) := S8.out.1.gone.cell 1
  have k2 : wt2.cell? ⟨w.heap.size + 1 + 1 + 1 + 1, 2, none⟩ = some (.bool true) := S8.out.1.gone.cell 2
  have k3 : wt2.cell? ⟨w.heap.size + 1 + 1 + 1 + 1, 3, none⟩ = some (.int .i64 12) := S8.out.1.gone.cell 3
  have k4 : wt2.cell? ⟨w.heap.size + 1 + 1 + 1 + 1, 4, none⟩ = some (.int .i64 7) := S8.out.1.gone.cell 4
  have k5 : wt2.cell? ⟨w.heap.size + 1 + 1 + 1 + 1, 5, none⟩ = some (.int .i64 0) := S8.out.1.gone.cell 5
  have k6 : wt2.cell? ⟨w.heap.size + 1 + 1 + 1 + 1, 6, none⟩ = some (.bool false) := S8.out.1.gone.cell 6
  have k7 : wt2.cell? ⟨w.heap.size + 1 + 1 + 1 + 1, 7, none⟩ = some (.int .i64 0) := S8.out.1.gone.cell 7
  have k8 : wt2.cell? ⟨w.heap.size + 1 + 1 + 1 + 1, 8, none⟩ = some (.int .i64 0) := S8.out.1.gone.cell 8
  have k9 : wt2.cell? ⟨w.heap.size + 1 + 1 + 1 + 1, 9, none⟩ = some (.int .i64 0) := S8.out.1.gone.cell 9
  go_wp2_with fail
  refine (HT3.out _).mono ?_
  rintro e wt3 ⟨rfl, ft⟩
  have S9 : Hid (Sane7.At w wt3 ∧ R7V wt3 g1 3 ∧ R7V wt3 g2 7 ∧ R7V wt3 g3 5 ∧ R7V wt3 g4 4) := Lib.hid ⟨(S8.out.1).fr0 ft, (S8.out.2.1).fr0 ft, (S8.out.2.2.1).fr0 ft, (S8.out.2.2.2.1).fr0 ft, (S8.out.2.2.2.2).fr0 ft⟩
  replace SE := Lib.hid (And.intro (SE.out.1.fr ft (by simp)) (SE.out.2.fr0 ft))
  clear ft S8 HT3 q0 q1 q2 q3 q4 q5 q6 k0 k1 k2 k3 k4 k5 k6 k7 k8 k9
  have q0 : wt3.cell? ⟨w.heap.size, 0, none⟩ = some (.int .i64 5) := S9.out.1.q.cell 0
  have q1 : wt3.cell? ⟨w.heap.size, 1, none⟩ = some (.int .i64 0) := S9.out.1.q.cell 1
  have q2 : wt3.cell? ⟨w.heap.size, 2, none⟩ = some (.int .i64 1) := S9.out.1.q.cell 2
  have q3 : wt3.cell? ⟨w.heap.size, 3, none⟩ = some (.int .i64 10) := S9.out.1.q.cell 3
  have q4 : wt3.cell? ⟨w.heap.size, 4, none⟩ = some (.int .i64 19) := S9.out.1.q.cell 4
  have q5 : wt3.cell? ⟨w.heap.size, 5, none⟩ = some (.int .i64 2) := S9.out.1.q.cell 5
  have q6 : wt3.cell? ⟨w.heap.size, 6, none⟩ = some (.int .i64 0) := S9.out.1.q.cell 6
  have k0 : wt3.cell? ⟨w.heap.size + 1 + 1 + 1 + 1 + 1 + 1, 0, none⟩ = some (.int .i64 0) := S9.out.1.moved.cell 0
  have k1 : wt3.cell? ⟨w.heap.size + 1 + 1 + 1 + 1 + 1 + 1, 1, none⟩ = some (.int .i64 6) := S9.out.1.moved.cell 1
  have k2 : wt3.cell? ⟨w.heap.size + 1 + 1 + 1 + 1 + 1 + 1, 2, none⟩ = some (.bool true) := S9.out.1.moved.cell 2
  have k3 : wt3.cell? ⟨w.heap.size + 1 + 1 + 1 + 1 + 1 + 1, 3, none⟩ = some (.int .i64 12) := S9.out.1.moved.cell 3
  have k4 : wt3.cell? ⟨w.heap.size + 1 + 1 + 1 + 1 + 1 + 1, 4, none⟩ = some (.int .i64 9) := S9.out.1.moved.cell 4
  have k5 : wt3.cell? ⟨w.heap.size + 1 + 1 + 1 + 1 + 1 + 1, 5, none⟩ = some (.int .i64 1) := S9.out.1.moved.cell 5
  have k6 : wt3.cell? ⟨w.heap.size + 1 + 1 + 1 + 1 + 1 + 1, 6, none⟩ = some (.bool true) := S9.out.1.moved.cell 6
  have k7 : wt3.cell? ⟨w.heap.size + 1 + 1 + 1 + 1 + 1 + 1, 7, none⟩ = some (.int .i64 13) := S9.out.1.moved.cell 7
  have k8 : wt3.cell? ⟨w.heap.size + 1 + 1 + 1 + 1 + 1 + 1, 8, none⟩ = some (.int .i64 9) := S9.out.1.moved.cell 8
  have k9 : wt3.cell? ⟨w.heap.size + 1 + 1 + 1 + 1 + 1 + 1, 9, none⟩ = some (.int .i64 1) := S9.out.1.moved.cell 9
  go_wp2_with fail
  refine (HT4.out _).mono ?_
  rintro e wt4 ⟨rfl, ft⟩
  have S10 : Hid (Sane7.At w wt4 ∧ R7V wt4 g1 3 ∧ R7V wt4 g2 7 ∧ R7V wt4 g3 5 ∧ R7V wt4 g4 4) := Lib.hid ⟨(S9.out.1).fr0 ft, (S9.out.2.1).fr0 ft, (S9.out.2.2.1).fr0 ft, (S9.out.2.2.2.1).fr0 ft, (S9.out.2.2.2.2).fr0 ft⟩
  replace SE := Lib.hid (And.intro (SE.out.1.fr ft (by simp)) (SE.out.2.fr0 ft))
  clear ft S9 HT4 q0 q1 q2 q3 q4 q5 q6 k0 k1 k2 k3 k4 k5 k6 k7 k8 k9
  have v0 := R7V.cell (S10.out.2.1)
  have v1 := R7V.cell (S10.out.2.2.1)
  have v2 := R7V.cell (S10.out.2.2.2.1)
  have v3 := R7V.cell (S10.out.2.2.2.2)
  have e0 : wt4.cell? ⟨ge, 0, none⟩ = some (.slice A1 1 c1) := SE.out.1.c0
  obtain ⟨b1, off1, hA1, -, hc1⟩ := SE.out.2 (by simp)
  subst hA1
  have e3 : wt4.cell? ⟨b1, off1 + 3, none⟩ = some (.int .i64 3) := by
    have h := hc1 0 (by simp) 3 (by decide)
    simpa using h
  clear hc1 SE
  have FE : Hid (Fr [] w wt4) := Lib.hid S10.out.1.fr
  clear S10
  go_wp2_with fail
  go_ret
  exact ⟨rfl, FE.out⟩
end Go.Proofs.Ytjiikpmkedkbkaa
