/-
  A range divided into two: the plain law.
-/
import Derived.Test.YthiaaminkfkjpaaEbf
namespace Go.Proofs.Ythiaaminkfkjpaa
open Go.RowKit

theorem okI_wrap (n : Int) : okI (IntKind.i64.wrap n) := by rw [IntWalk.i64_left]; exact wrap64_wf n
theorem okI_wrap64 (n : Int) : okI (wrap64 n) := wrap64_wf n
theorem filter_parts {α : Type} (p q s : α → Bool) (h : ∀ x, s x = (p x || q x) ∧ (p x && q x) = false) : ∀ L : List α, (L.filter p ++ L.filter q).Perm (L.filter s)
  | [] => by simp
  | x :: L => by
    have ih := filter_parts p q s h L
    obtain ⟨h1, h2⟩ := h x
    cases hp : p x <;> cases hq : q x <;> rw [hp, hq] at h1 h2 <;> simp at h1 h2 <;> simp only [List.filter_cons, hp, hq, h1, if_true, Bool.false_eq_true, if_false]
    · exact ih
    · exact List.perm_middle.trans (ih.cons x)
    · exact ih.cons x
namespace Em
theorem sel_split {s : Sm.Sta} (ho : Sm.Ok s) {t c lo hi mid : Int} (h1 : lo ≤ mid) (h2 : mid < hi) : sel s c (inRng t c lo hi) = sel s c (inRng t c lo mid) ++ sel s c (inRng t c (mid + 1) hi) := by
  have ha := sel_picked s c (inRng t c lo mid)
  have hb := sel_picked s c (inRng t c (mid + 1) hi)
  refine (sel_picked s c (inRng t c lo hi)).uniq ⟨?_, ?_⟩ ho inRng_t
  · refine (ha.perm.append hb.perm).trans (filter_parts _ _ _ (fun x => ?_) _)
    unfold inRng
    by_cases e : x.t = t
    · by_cases e1 : lo ≤ x.value c <;> by_cases e2 : x.value c ≤ mid <;> by_cases e3 : mid + 1 ≤ x.value c <;> by_cases e4 : x.value c ≤ hi <;> simp [e, e1, e2, e3, e4] <;> omega
    · simp [e]
  · rw [List.pairwise_append]
    refine ⟨ha.srt, hb.srt, fun a haa b hbb => ?_⟩
    obtain ⟨_, _, _, p1⟩ := ha.mem haa
    obtain ⟨_, _, _, p2⟩ := hb.mem hbb
    unfold inRng at p1 p2
    simp only [Bool.and_eq_true, decide_eq_true_eq] at p1 p2
    unfold ahead2
    omega
theorem joined_append (q : Qry) (a b others : List RowV) : joined q (a ++ b) others = joined q a others ++ joined q b others := by unfold joined; rw [List.flatMap_append]
/-- How the results of the parts make that of the whole. -/
structure DivOk (k : Int) (one two whole : Res) : Prop where
  rows : whole.rows = one.rows ++ two.rows
  sum : k = 3 ∨ k = 4 → whole.value = one.value + two.value ∧ (-3000000000000 ≤ one.value ∧ one.value ≤ 3000000000000) ∧ (-3000000000000 ≤ two.value ∧ two.value ≤ 3000000000000)
  mn : k = 5 → whole.found = (one.found || two.found) ∧ (one.found = true → whole.value ≤ one.value) ∧ (two.found = true → whole.value ≤ two.value) ∧ (whole.found = true → one.found = true ∧ whole.value = one.value ∨ two.found = true ∧ whole.value = two.value)
  mx : k = 6 → whole.found = (one.found || two.found) ∧ (one.found = true → one.value ≤ whole.value) ∧ (two.found = true → two.value ≤ whole.value) ∧ (whole.found = true → one.found = true ∧ whole.value = one.value ∨ two.found = true ∧ whole.value = two.value)
theorem IsMin.split {a b : List Int} {v1 v2 v : Int} {f1 f2 f : Bool} (h1 : IsMin a v1 f1) (h2 : IsMin b v2 f2) (h : IsMin (a ++ b) v f) :
    f = (f1 || f2) ∧ (f1 = true → v ≤ v1) ∧ (f2 = true → v ≤ v2) ∧ (f = true → f1 = true ∧ v = v1 ∨ f2 = true ∧ v = v2) := by
  have n1 : f1 = true → a ≠ [] := fun e ha => by have := h1.found; rw [e, ha] at this; cases this
  have n2 : f2 = true → b ≠ [] := fun e ha => by have := h2.found; rw [e, ha] at this; cases this
  refine ⟨?_, fun e => ?_, fun e => ?_, fun e => ?_⟩
  · rw [h.found, h1.found, h2.found]
    cases a <;> cases b <;> rfl
  · exact h.le _ (List.mem_append_left _ (h1.mem (n1 e)))
  · exact h.le _ (List.mem_append_right _ (h2.mem (n2 e)))
  · have hne : a ++ b ≠ [] := fun ha => by have := h.found; rw [e, ha] at this; cases this
    have hm := h.mem hne
    rcases List.mem_append.1 hm with hm | hm
    · have hx : a ≠ [] := fun ha => by rw [ha] at hm; cases hm
      have hf : f1 = true := by rw [h1.found]; cases a with | nil => exact absurd rfl hx | cons => rfl
      have e1 := h1.le _ hm
      have e2 := h.le _ (List.mem_append_left _ (h1.mem hx))
      exact .inl ⟨hf, by omega⟩
    · have hx : b ≠ [] := fun ha => by rw [ha] at hm; cases hm
      have hf : f2 = true := by rw [h2.found]; cases b with | nil => exact absurd rfl hx | cons => rfl
      have e1 := h2.le _ hm
      have e2 := h.le _ (List.mem_append_right _ (h2.mem hx))
      exact .inr ⟨hf, by omega⟩
theorem IsMax.split {a b : List Int} {v1 v2 v : Int} {f1 f2 f : Bool} (h1 : IsMax a v1 f1) (h2 : IsMax b v2 f2) (h : IsMax (a ++ b) v f) :
    f = (f1 || f2) ∧ (f1 = true → v1 ≤ v) ∧ (f2 = true → v2 ≤ v) ∧ (f = true → f1 = true ∧ v = v1 ∨ f2 = true ∧ v = v2) := by
  have n1 : f1 = true → a ≠ [] := fun e ha => by have := h1.found; rw [e, ha] at this; cases this
  have n2 : f2 = true → b ≠ [] := fun e ha => by have := h2.found; rw [e, ha] at this; cases this
  refine ⟨?_, fun e => ?_, fun e => ?_, fun e => ?_⟩
  · rw [h.found, h1.found, h2.found]
    cases a <;> cases b <;> rfl
  · exact h.le _ (List.mem_append_left _ (h1.mem (n1 e)))
  · exact h.le _ (List.mem_append_right _ (h2.mem (n2 e)))
  · have hne : a ++ b ≠ [] := fun ha => by have := h.found; rw [e, ha] at this; cases this
    have hm := h.mem hne
    rcases List.mem_append.1 hm with hm | hm
    · have hx : a ≠ [] := fun ha => by rw [ha] at hm; cases hm
      have hf : f1 = true := by rw [h1.found]; cases a with | nil => exact absurd rfl hx | cons => rfl
      have e1 := h1.le _ hm
      have e2 := h.le _ (List.mem_append_left _ (h1.mem hx))
      exact .inl ⟨hf, by omega⟩
    · have hx : b ≠ [] := fun ha => by rw [ha] at hm; cases hm
      have hf : f2 = true := by rw [h2.found]; cases b with | nil => exact absurd rfl hx | cons => rfl
      have e1 := h2.le _ hm
      have e2 := h.le _ (List.mem_append_right _ (h2.mem hx))
      exact .inr ⟨hf, by omega⟩
theorem meas_bound {s : Sm.Sta} (hs : Sm.Sound s) (ho : Sm.Ok s) (q : Qry) : -3000000000000 ≤ tot (meas q (scan s q)) ∧ tot (meas q (scan s q)) ≤ 3000000000000 := by
  have h := tot_bound 1000000000 (meas q (scan s q)) (fun x hx => by
    unfold meas at hx
    obtain ⟨r, hr, rfl⟩ := List.mem_map.1 hx
    exact RowV.value_bounds (scan_mem hs hr) _)
  have hl := scan_len ho q
  unfold meas at h ⊢
  rw [List.length_map] at h
  omega
theorem divided {s : Sm.Sta} (hs : Sm.Sound s) (ho : Sm.Ok s) {k t c lo hi b o mid : Int} (hk : 2 ≤ k ∧ k ≤ 7) (h1 : lo ≤ mid) (h2 : mid < hi)
    (v1 : valid ⟨k, t, c, lo, mid, b, o⟩ = true) (v2 : valid ⟨k, t, c, mid + 1, hi, b, o⟩ = true) (v : valid ⟨k, t, c, lo, hi, b, o⟩ = true) :
    DivOk k (of s ⟨k, t, c, lo, mid, b, o⟩) (of s ⟨k, t, c, mid + 1, hi, b, o⟩) (of s ⟨k, t, c, lo, hi, b, o⟩) := by
  have hsc : scan s ⟨k, t, c, lo, hi, b, o⟩ = scan s ⟨k, t, c, lo, mid, b, o⟩ ++ scan s ⟨k, t, c, mid + 1, hi, b, o⟩ := sel_split ho h1 h2
  have hm : meas ⟨k, t, c, lo, hi, b, o⟩ (scan s ⟨k, t, c, lo, hi, b, o⟩) = meas ⟨k, t, c, lo, mid, b, o⟩ (scan s ⟨k, t, c, lo, mid, b, o⟩) ++ meas ⟨k, t, c, mid + 1, hi, b, o⟩ (scan s ⟨k, t, c, mid + 1, hi, b, o⟩) := by
    rw [hsc]
    unfold meas
    rw [List.map_append]
  have hk' : k = 2 ∨ k = 3 ∨ k = 4 ∨ k = 5 ∨ k = 6 ∨ k = 7 := by omega
  rcases hk' with rfl | rfl | rfl | rfl | rfl | rfl
  · rw [of_rows v (.inr rfl), of_rows v1 (.inr rfl), of_rows v2 (.inr rfl)]
    exact ⟨hsc, fun h => by omega, fun h => by omega, fun h => by omega⟩
  · rw [of_count v rfl, of_count v1 rfl, of_count v2 rfl]
    have l1 := scan_len ho ⟨3, t, c, lo, mid, b, o⟩
    have l2 := scan_len ho ⟨3, t, c, mid + 1, hi, b, o⟩
    refine ⟨rfl, fun _ => ⟨?_, ?_, ?_⟩, fun h => by omega, fun h => by omega⟩
    · dsimp only
      rw [hsc, List.length_append]
      omega
    · dsimp only; omega
    · dsimp only; omega
  · rw [of_sum v rfl, of_sum v1 rfl, of_sum v2 rfl]
    refine ⟨rfl, fun _ => ⟨?_, meas_bound hs ho _, meas_bound hs ho _⟩, fun h => by omega, fun h => by omega⟩
    dsimp only
    rw [hm, tot_append]
  · obtain ⟨a, f, e, h⟩ := of_min (s := s) v rfl
    obtain ⟨a1, f1, e1, g1⟩ := of_min (s := s) v1 rfl
    obtain ⟨a2, f2, e2, g2⟩ := of_min (s := s) v2 rfl
    rw [e, e1, e2]
    rw [hm] at h
    exact ⟨rfl, fun h => by omega, fun _ => g1.split g2 h, fun h => by omega⟩
  · obtain ⟨a, f, e, h⟩ := of_max (s := s) v rfl
    obtain ⟨a1, f1, e1, g1⟩ := of_max (s := s) v1 rfl
    obtain ⟨a2, f2, e2, g2⟩ := of_max (s := s) v2 rfl
    rw [e, e1, e2]
    rw [hm] at h
    exact ⟨rfl, fun h => by omega, fun h => by omega, fun _ => g1.split g2 h⟩
  · rw [of_join v rfl, of_join v1 rfl, of_join v2 rfl]
    refine ⟨?_, fun h => by omega, fun h => by omega, fun h => by omega⟩
    dsimp only
    rw [hsc, joined_append]
    rfl
theorem of_len {s : Sm.Sta} (ho : Sm.Ok s) (q : Qry) : (of s q).rows.length ≤ 4000 := by
  have h := scan_len ho q
  unfold of res
  split
  · split
    · rw [count_eq]; simp [zero]
    · split
      · rw [plus_eq]; simp [zero]
      · split
        · obtain ⟨v, f, e, _⟩ := least_is (meas q (scan s q)); rw [e]; simp
        · split
          · obtain ⟨v, f, e, _⟩ := most_is (meas q (scan s q)); rw [e]; simp
          · split
            · have := joined_len q (tab s q.other) (scan s q)
              dsimp only
              omega
            · dsimp only; omega
  · simp [zero]
end Em
end Go.Proofs.Ythiaaminkfkjpaa
