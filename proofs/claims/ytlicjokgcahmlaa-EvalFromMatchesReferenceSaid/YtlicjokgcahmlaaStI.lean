/-
  Rows and Range of a state.
-/
import Derived.Test.YtlicjokgcahmlaaStH
namespace Go.Proofs.Ytlicjokgcahmlaa
open Go.RowKit Go.Sort

def inTab (t : Int) (r : RowV) : Bool := decide (r.t = t)
def inRng (t c lo hi : Int) (r : RowV) : Bool := decide (r.t = t) && (decide (lo ≤ r.value c) && decide (r.value c ≤ hi))

theorem rowsC_any (r : RowV) (t : Int) (gt : Nat) (w : World) (h0 : w.cell? ⟨gt, 0, none⟩ = some (.int .i64 t)) :
    Calls Try.prog 60 #[r.val, .pointer (some ⟨gt, 0, none⟩)] w fun e w' => e = .returned (.bool (inTab t r)) ∧ Fr [] w w' := by
  obtain ⟨rt, k, x, y, z⟩ := r
  have hl := World.block_lt_of_cell? w _ h0
  have h1 : ∀ o, (w.alloc o).cell? ⟨gt, 0, none⟩ = some (.int .i64 t) := fun o => by rw [World.cell?_alloc_lt _ _ _ hl]; exact h0
  unfold RowV.val inTab
  dsimp only
  by_cases e : rt = t
  · have e' : (rt == t) = true := by simpa using e
    have E := Lib.hid e
    clear e
    go_enter Try.func60, Try.ntmps60
    go_wp2
    go_ret
    exact ⟨by rw [decide_eq_true E.out]; rfl, (Fr.refl _ _).alloc _⟩
  · have e' : (rt == t) = false := by simpa using e
    have E := Lib.hid e
    clear e
    go_enter Try.func60, Try.ntmps60
    go_wp2
    go_ret
    exact ⟨by rw [decide_eq_false E.out]; rfl, (Fr.refl _ _).alloc _⟩

theorem rangeC_any (r : RowV) (t c lo hi : Int) (gc gt gl gh : Nat) (w : World) (h0 : w.cell? ⟨gc, 0, none⟩ = some (.int .i64 c)) (h1 : w.cell? ⟨gt, 0, none⟩ = some (.int .i64 t)) (h2 : w.cell? ⟨gl, 0, none⟩ = some (.int .i64 lo)) (h3 : w.cell? ⟨gh, 0, none⟩ = some (.int .i64 hi)) :
    Calls Try.prog 59 #[r.val, .pointer (some ⟨gc, 0, none⟩), .pointer (some ⟨gt, 0, none⟩), .pointer (some ⟨gl, 0, none⟩), .pointer (some ⟨gh, 0, none⟩)] w fun e w' => e = .returned (.bool (inRng t c lo hi r)) ∧ Fr [] w w' := by
  obtain ⟨rt, k, x, y, z⟩ := r
  have l0 := World.block_lt_of_cell? w _ h0
  have l1 := World.block_lt_of_cell? w _ h1
  have l2 := World.block_lt_of_cell? w _ h2
  have l3 := World.block_lt_of_cell? w _ h3
  dsimp only at l0 l1 l2 l3
  have hb := Blk.new w 31 #[.int .i64 rt, .int .i64 k, .int .i64 x, .int .i64 y, .int .i64 z]
  have HV := Lib.hid (value5 rt k x y z c)
  have HE : Hid (inRng t c lo hi ⟨rt, k, x, y, z⟩ = (decide (rt = t) && (decide (lo ≤ RowV.value ⟨rt, k, x, y, z⟩ c) && decide (RowV.value ⟨rt, k, x, y, z⟩ c ≤ hi)))) := Lib.hid rfl
  generalize RowV.value ⟨rt, k, x, y, z⟩ c = v at *
  unfold RowV.val
  dsimp only
  have p0 : ∀ o, (w.alloc o).cell? ⟨gc, 0, none⟩ = some (.int .i64 c) := fun o => by rw [World.cell?_alloc_lt _ _ _ (by simpa using l0)]; exact h0
  have q1 : ∀ o o', ((w.alloc o).alloc o').cell? ⟨gt, 0, none⟩ = some (.int .i64 t) := fun o o' => by rw [World.cell?_alloc_lt _ _ _ (by simp; omega), World.cell?_alloc_lt _ _ _ (by simpa using l1)]; exact h1
  have q2 : ∀ o o', ((w.alloc o).alloc o').cell? ⟨gl, 0, none⟩ = some (.int .i64 lo) := fun o o' => by rw [World.cell?_alloc_lt _ _ _ (by simp; omega), World.cell?_alloc_lt _ _ _ (by simpa using l2)]; exact h2
  have q3 : ∀ o o', ((w.alloc o).alloc o').cell? ⟨gh, 0, none⟩ = some (.int .i64 hi) := fun o o' => by rw [World.cell?_alloc_lt _ _ _ (by simp; omega), World.cell?_alloc_lt _ _ _ (by simpa using l3)]; exact h3
  have F2 : ∀ o o', Fr [] w ((w.alloc o).alloc o') := fun o o' => ((Fr.refl _ _).alloc _).alloc _
  by_cases e : rt = t
  · have e' : (rt == t) = true := by simpa using e
    have HE2 : Hid (inRng t c lo hi ⟨rt, k, x, y, z⟩ = (decide (lo ≤ v) && decide (v ≤ hi))) := Lib.hid (by rw [HE.out]; simp [e])
    clear e HE
    by_cases e1 : lo ≤ v
    · by_cases e2 : v ≤ hi
      · have HE3 : Hid (inRng t c lo hi ⟨rt, k, x, y, z⟩ = true) := Lib.hid (by rw [HE2.out]; simp [e1, e2])
        go_enter Try.func59, Try.ntmps59
        go_wp2_with (go_at_call 26; refine (HV.out _).mono ?_; rintro e w' ⟨rfl, rfl⟩)
        go_ret
        exact ⟨by rw [HE3.out]; rfl, F2 _ _⟩
      · have HE3 : Hid (inRng t c lo hi ⟨rt, k, x, y, z⟩ = false) := Lib.hid (by rw [HE2.out]; simp [e2])
        go_enter Try.func59, Try.ntmps59
        go_wp2_with (go_at_call 26; refine (HV.out _).mono ?_; rintro e w' ⟨rfl, rfl⟩)
        go_ret
        refine ⟨?_, F2 _ _⟩
        rw [HE3.out]
        refine congrArg (fun b => Ending.returned (.bool b)) ?_
        (first | rfl | (simp; omega))
    · have HE3 : Hid (inRng t c lo hi ⟨rt, k, x, y, z⟩ = false) := Lib.hid (by rw [HE2.out]; simp [e1])
      go_enter Try.func59, Try.ntmps59
      go_wp2_with (go_at_call 26; refine (HV.out _).mono ?_; rintro e w' ⟨rfl, rfl⟩)
      go_ret
      exact ⟨by rw [HE3.out]; rfl, F2 _ _⟩
  · have e' : (rt == t) = false := by simpa using e
    have HE3 : Hid (inRng t c lo hi ⟨rt, k, x, y, z⟩ = false) := Lib.hid (by rw [HE.out]; simp [e])
    clear e
    go_enter Try.func59, Try.ntmps59
    go_wp2_with (go_at_call 26; refine (HV.out _).mono ?_; rintro e w' ⟨rfl, rfl⟩)
    go_ret
    exact ⟨by rw [HE3.out]; rfl, F2 _ _⟩

/-- What Rows and Range hand out. -/
structure Picked (s : Sm.Sta) (c : Int) (p : RowV → Bool) (R : List RowV) : Prop where
  perm : R.Perm ((s.M.map (·.2)).filter p)
  srt : R.Pairwise (fun x y => ¬ ahead2 c y x)

theorem srows_any (b m : Nat) (s : Sm.Sta) (t : Int) (w : World) (h : StaAt w b m s) :
    Calls Try.prog 29 #[.pointer (some ⟨b, 0, none⟩), .int .i64 t] w fun e w' => ∃ v R, e = .returned v ∧ RowsOwn w' v R ∧ Picked s 0 (inTab t) R ∧ Fr [] w w' ∧ ∀ g, v.ownBlock = some g → w.heap.size ≤ g := by
  have F0 : Fr [] w (w.alloc (.cells #[.int .i64 t] 3)) := (Fr.refl _ _).alloc _
  have hb := Blk.new w 3 #[.int .i64 t]
  have HC := Lib.hid (chosen_any b m s 0 60 #[.pointer (some ⟨w.heap.size, 0, none⟩)] (inTab t) (w.alloc (.cells #[.int .i64 t] 3)) (h.fr0 F0) (enters_of Try.func60 (by kernel_rfl) rfl)
    (fun W r hf => rowsC_any r t w.heap.size W ((hb.fr hf (by simp)).cell 0)))
  clear h
  go_enter Try.func29, Try.ntmps29
  go_wp2_with (go_at_call 58; refine HC.out.mono ?_; rintro e w' ⟨v, R, rfl, hr, hp, hs, hf, ho⟩; have HR := Lib.hid hr; have HPS := Lib.hid (And.intro hp hs); have HF := Lib.hid hf; have HO := Lib.hid ho; clear hr hp hs hf ho)
  go_ret
  exact ⟨v, R, rfl, HR.out, ⟨HPS.out.1, HPS.out.2⟩, F0.trans HF.out, fun g hg => by have := HO.out g hg; simp at this; omega⟩

theorem srange_bad (s : Value) (t c lo hi : Int) (w : World) (h : c < 0 ∨ 4 ≤ c) :
    Calls Try.prog 28 #[s, .int .i64 t, .int .i64 c, .int .i64 lo, .int .i64 hi] w fun e w' => e = .returned (.slice none 0 0) ∧ Fr [] w w' := by
  rcases h with h | h
  all_goals
    go_enter Try.func28, Try.ntmps28
    go_wp2
    go_ret
    exact ⟨rfl, ((((Fr.refl _ _).alloc _).alloc _).alloc _).alloc _⟩
set_option maxHeartbeats 2000000 in
theorem srange_any (b m : Nat) (s : Sm.Sta) (t c lo hi : Int) (w : World) (h : StaAt w b m s) (h0 : 0 ≤ c) (h4 : c < 4) :
    Calls Try.prog 28 #[.pointer (some ⟨b, 0, none⟩), .int .i64 t, .int .i64 c, .int .i64 lo, .int .i64 hi] w fun e w' => ∃ v R, e = .returned v ∧ RowsOwn w' v R ∧ Picked s c (inRng t c lo hi) R ∧ Fr [] w w' ∧ ∀ g, v.ownBlock = some g → w.heap.size ≤ g := by
  have hb0 := (((Blk.new w 3 #[.int .i64 t]).alloc (.cells #[.int .i64 c] 3)).alloc (.cells #[.int .i64 lo] 3)).alloc (.cells #[.int .i64 hi] 3)
  have hb1 := ((Blk.new (w.alloc (.cells #[.int .i64 t] 3)) 3 #[.int .i64 c]).alloc (.cells #[.int .i64 lo] 3)).alloc (.cells #[.int .i64 hi] 3)
  have hb2 := (Blk.new ((w.alloc (.cells #[.int .i64 t] 3)).alloc (.cells #[.int .i64 c] 3)) 3 #[.int .i64 lo]).alloc (.cells #[.int .i64 hi] 3)
  have hb3 := Blk.new (((w.alloc (.cells #[.int .i64 t] 3)).alloc (.cells #[.int .i64 c] 3)).alloc (.cells #[.int .i64 lo] 3)) 3 #[.int .i64 hi]
  have F0 : Fr [] w ((((w.alloc (.cells #[.int .i64 t] 3)).alloc (.cells #[.int .i64 c] 3)).alloc (.cells #[.int .i64 lo] 3)).alloc (.cells #[.int .i64 hi] 3)) := ((((Fr.refl _ _).alloc _).alloc _).alloc _).alloc _
  simp only [World.size_alloc] at hb1 hb2 hb3
  have HC := Lib.hid (chosen_any b m s c 59 #[.pointer (some ⟨w.heap.size + 1, 0, none⟩), .pointer (some ⟨w.heap.size, 0, none⟩), .pointer (some ⟨w.heap.size + 1 + 1, 0, none⟩), .pointer (some ⟨w.heap.size + 1 + 1 + 1, 0, none⟩)] (inRng t c lo hi) _ (h.fr0 F0) (enters_of Try.func59 (by kernel_rfl) rfl)
    (fun W r hf => rangeC_any r t c lo hi (w.heap.size + 1) w.heap.size (w.heap.size + 1 + 1) (w.heap.size + 1 + 1 + 1) W ((hb1.fr hf (by simp)).cell 0) ((hb0.fr hf (by simp)).cell 0) ((hb2.fr hf (by simp)).cell 0) ((hb3.fr hf (by simp)).cell 0)))
  clear h hb0 hb1 hb2 hb3
  go_enter Try.func28, Try.ntmps28
  go_wp2_with fail
  refine HC.out.mono ?_
  rintro e w' ⟨v, R, rfl, hr, hp, hs, hf, ho⟩
  have HR := Lib.hid hr
  have HPS := Lib.hid (And.intro hp hs)
  have HF := Lib.hid hf
  have HO := Lib.hid ho
  clear hr hp hs hf ho
  go_wp2_with fail
  go_ret
  exact ⟨v, R, rfl, HR.out, ⟨HPS.out.1, HPS.out.2⟩, F0.trans HF.out, fun g hg => by have := HO.out g hg; simp at this; omega⟩
end Go.Proofs.Ytlicjokgcahmlaa
