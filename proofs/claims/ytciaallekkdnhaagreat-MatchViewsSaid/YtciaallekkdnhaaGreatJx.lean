/-
  A CALL WHOSE CALLEE LEAVES THE WORLD AS IT IS MAY BE TAKEN FIRST in a drawn region's head, as a load may. And: what is held may become more on the way (the cells of a slice that the region itself has made).
-/
import Derived.Test.YtciaallekkdnhaaGreatJw
import Derived.Test.YtciaallekkdnhaaGreatJq
import Derived.Test.YtciaallekkdnhaaGreatJf
import Derived.Test.YtciaallekkdnhaaGreatJd
import Derived.Test.YtciaallekkdnhaaGreatJs
namespace Go.Proofs.YtciaallekkdnhaaGreat
open Go.RowKit

def pickI (c n : Int) : Int := (if c < 0 then -(c + 1) else c) % n
theorem pickI_nonneg (c : Int) {n : Int} (h : 1 ≤ n) : 0 ≤ pickI c n := Int.emod_nonneg _ (by omega)
theorem pickI_lt (c : Int) {n : Int} (h : 1 ≤ n) : pickI c n < n := Int.emod_lt_of_pos _ (by omega)
theorem pick_any (c n : Int) (w : World) (hc : okI c) (h3 : 1 ≤ n) (h4 : n ≤ 1000000000) :
    Calls Tryz.prog 35 #[.int .i64 c, .int .i64 n] w fun e w' => e = .returned (.int .i64 (pickI c n)) ∧ w = w' := by
  obtain ⟨h1, h2⟩ := okI_bounds hc
  have hn : (n == 0) = false := by simp; omega
  have hn' : ¬ n = 0 := by omega
  by_cases hc : c < 0
  · go_enter Tryz.func35, Tryz.ntmps35
    go_wp2
    go_ret
    have e1 : pickI c n = -(c + 1) % n := by unfold pickI; rw [if_pos hc]
    rw [e1]
    refine ⟨?_, rfl⟩
    show Ending.returned (.int .i64 (-((c + 1).tmod n))) = _
    rw [← Int.neg_tmod, Int.tmod_eq_emod_of_nonneg (by omega)]
  · go_enter Tryz.func35, Tryz.ntmps35
    go_wp2
    go_ret
    have e1 : pickI c n = c % n := by unfold pickI; rw [if_neg (by omega)]
    rw [e1]
    refine ⟨by simp, rfl⟩
abbrev PickIs (c n p : Int) : Prop := ∀ W : World, Calls Tryz.prog 35 #[.int .i64 c, .int .i64 n] W fun e w' => e = .returned (.int .i64 p) ∧ Fr [] W w'
theorem pick_is {c n : Int} (hc : okI c) (h3 : 1 ≤ n) (h4 : n ≤ 1000000000) : ∃ p, (0 ≤ p ∧ p < n) ∧ Hid (pickI c n = p) ∧ Hid (PickIs c n p) :=
  ⟨_, ⟨pickI_nonneg c h3, pickI_lt c h3⟩, Lib.hid rfl, Lib.hid (fun W => (pick_any c n W hc h3 h4).mono fun _ _ h => ⟨h.1, h.2 ▸ Fr.refl _ _⟩)⟩
abbrev PickEq (c n p : Int) : Prop := ∀ W : World, Calls Tryz.prog 35 #[.int .i64 c, .int .i64 n] W fun e w' => e = .returned (.int .i64 p) ∧ W = w'
theorem pick_is2 {c n : Int} (hc : okI c) (h3 : 1 ≤ n) (h4 : n ≤ 1000000000) : ∃ p, (0 ≤ p ∧ p < n) ∧ Hid (pickI c n = p) ∧ Hid (PickEq c n p) :=
  ⟨_, ⟨pickI_nonneg c h3, pickI_lt c h3⟩, Lib.hid rfl, Lib.hid (fun W => pick_any c n W hc h3 h4)⟩
theorem okI_tdiv {x : Int} (h : okI x) {n : Int} (hn : 2 ≤ n) : okI (x.tdiv n) := by
  obtain ⟨h1, h2⟩ := okI_bounds h
  rcases Int.le_total 0 x with h0 | h0
  · rw [Int.tdiv_eq_ediv_of_nonneg h0]
    have a1 : 0 ≤ x / n := Int.ediv_nonneg h0 (by omega)
    have a2 : x / n ≤ x := Int.ediv_le_self n h0
    exact okI_mk (by omega) (by omega)
  · have e : x.tdiv n = -((-x) / n) := by
      rw [← Int.tdiv_eq_ediv_of_nonneg (by omega), Int.neg_tdiv, Int.neg_neg]
    have a1 : 0 ≤ (-x) / n := Int.ediv_nonneg (by omega) (by omega)
    have a2 : (-x) / n < 9223372036854775808 := Int.ediv_lt_of_lt_mul (by omega) (by omega)
    rw [e]
    exact okI_mk (by omega) (by omega)
/-- Five integers in memory. -/
def Five (w : World) (g : Nat) (x0 x1 x2 x3 x4 : Int) : Prop := Blk w g 33 #[.int .i64 x0, .int .i64 x1, .int .i64 x2, .int .i64 x3, .int .i64 x4]
theorem Five.cells {w : World} {g : Nat} {x0 x1 x2 x3 x4 : Int} (h : Five w g x0 x1 x2 x3 x4) : w.cell? ⟨g, 0, none⟩ = some (.int .i64 x0) ∧ w.cell? ⟨g, 1, none⟩ = some (.int .i64 x1) ∧ w.cell? ⟨g, 2, none⟩ = some (.int .i64 x2) ∧ w.cell? ⟨g, 3, none⟩ = some (.int .i64 x3) ∧ w.cell? ⟨g, 4, none⟩ = some (.int .i64 x4) :=
  ⟨Blk.cell h 0, Blk.cell h 1, Blk.cell h 2, Blk.cell h 3, Blk.cell h 4⟩
theorem Five.fr {w w' : World} {g : Nat} {x0 x1 x2 x3 x4 : Int} {S : List Nat} (h : Five w g x0 x1 x2 x3 x4) (hf : Fr S w w') (hs : g ∉ S) : Five w' g x0 x1 x2 x3 x4 := Blk.fr h hf hs
/-- What stands between the parts of Query. -/
structure QwRel (w wc : World) (g : Nat) (x0 x1 x2 x3 x4 : Int) (q : Qry) : Prop where
  five : Five wc w.heap.size x0 x1 x2 x3 x4
  res : QAt wc (w.heap.size + 1) ⟨0, 0, 0, 0, 0, 0, 0⟩
  q : QAt wc g q
  fr : Fr [] w wc
  lt : w.heap.size + 1 < g
section
variable {w wc w' : World} {g : Nat} {x0 x1 x2 x3 x4 : Int} {q q' : Qry}
theorem QAt.z (h : QAt w g q) (k : Nat) : w.frozen? ⟨g, k, none⟩ = false := Blk.frozen h k
theorem QwRel.fr0 (h : QwRel w wc g x0 x1 x2 x3 x4 q) (hf : Fr [] wc w') : QwRel w w' g x0 x1 x2 x3 x4 q := ⟨h.five.fr hf (by simp), h.res.fr hf (by simp), h.q.fr hf (by simp), h.fr.trans hf, h.lt⟩
theorem QwRel.set {k : Nat} {v : Value} (h : QwRel w wc g x0 x1 x2 x3 x4 q) (hq : QAt (wc.setCell ⟨g, k, none⟩ v) g q') : QwRel w (wc.setCell ⟨g, k, none⟩ v) g x0 x1 x2 x3 x4 q' := by
  have hf : Fr [g] wc (wc.setCell ⟨g, k, none⟩ v) := (Fr.refl _ _).setCell (.inl (by simp)) _
  have := h.lt
  exact ⟨h.five.fr hf (by simp; omega), h.res.fr hf (by simp; omega), hq, h.fr.trans' hf (by simp; omega), h.lt⟩
theorem QwRel.set2 (h : QwRel w wc g x0 x1 x2 x3 x4 q) (v : Int) : QwRel w (wc.setCell ⟨g, 2, none⟩ (.int .i64 v)) g x0 x1 x2 x3 x4 ⟨q.kind, q.table, v, q.low, q.high, q.by_, q.other⟩ := h.set (Blk.set_ h.q 2 _)
theorem QwRel.set3 (h : QwRel w wc g x0 x1 x2 x3 x4 q) (v : Int) : QwRel w (wc.setCell ⟨g, 3, none⟩ (.int .i64 v)) g x0 x1 x2 x3 x4 ⟨q.kind, q.table, q.column, v, q.high, q.by_, q.other⟩ := h.set (Blk.set_ h.q 3 _)
theorem QwRel.set4 (h : QwRel w wc g x0 x1 x2 x3 x4 q) (v : Int) : QwRel w (wc.setCell ⟨g, 4, none⟩ (.int .i64 v)) g x0 x1 x2 x3 x4 ⟨q.kind, q.table, q.column, q.low, v, q.by_, q.other⟩ := h.set (Blk.set_ h.q 4 _)
theorem QwRel.set5 (h : QwRel w wc g x0 x1 x2 x3 x4 q) (v : Int) : QwRel w (wc.setCell ⟨g, 5, none⟩ (.int .i64 v)) g x0 x1 x2 x3 x4 ⟨q.kind, q.table, q.column, q.low, q.high, v, q.other⟩ := h.set (Blk.set_ h.q 5 _)
theorem QwRel.set6 (h : QwRel w wc g x0 x1 x2 x3 x4 q) (v : Int) : QwRel w (wc.setCell ⟨g, 6, none⟩ (.int .i64 v)) g x0 x1 x2 x3 x4 ⟨q.kind, q.table, q.column, q.low, q.high, q.by_, v⟩ := h.set (Blk.set_ h.q 6 _)
def lay7 (w : World) (g : Nat) (q : Qry) : World := ((((((w.setCell ⟨g, 0, none⟩ (.int .i64 q.kind)).setCell ⟨g, 1, none⟩ (.int .i64 q.table)).setCell ⟨g, 2, none⟩ (.int .i64 q.column)).setCell ⟨g, 3, none⟩ (.int .i64 q.low)).setCell ⟨g, 4, none⟩ (.int .i64 q.high)).setCell ⟨g, 5, none⟩ (.int .i64 q.by_)).setCell ⟨g, 6, none⟩ (.int .i64 q.other)
theorem QwRel.fin (h : QwRel w wc g x0 x1 x2 x3 x4 q) : ∃ w4, lay7 wc (w.heap.size + 1) q = w4 ∧ QAt w4 (w.heap.size + 1) q ∧ Fr [] w w4 := by
  have h2 := ((((((Blk.set_ h.res 0 (.int .i64 q.kind)).set_ 1 (.int .i64 q.table)).set_ 2 (.int .i64 q.column)).set_ 3 (.int .i64 q.low)).set_ 4 (.int .i64 q.high)).set_ 5 (.int .i64 q.by_)).set_ 6 (.int .i64 q.other)
  exact ⟨_, rfl, h2, ((((((h.fr.setCell (.inr (Nat.le_succ _)) _).setCell (.inr (Nat.le_succ _)) _).setCell (.inr (Nat.le_succ _)) _).setCell (.inr (Nat.le_succ _)) _).setCell (.inr (Nat.le_succ _)) _).setCell (.inr (Nat.le_succ _)) _).setCell (.inr (Nat.le_succ _)) _⟩
end
/-- What the law's queries keep to. -/
structure QrOk (q : Qry) : Prop where
  valid : Em.valid q = true
  t : 0 ≤ q.table ∧ q.table ≤ 2
  c : 0 ≤ q.column ∧ q.column ≤ 3
  k : 1 ≤ q.kind ∧ q.kind ≤ 7
  lo : -100 ≤ q.low ∧ q.low ≤ q.high ∧ q.high ≤ 100
  o : 0 ≤ q.other ∧ q.other ≤ 2
  b : 0 ≤ q.by_ ∧ q.by_ ≤ 3
set_option maxRecDepth 100000 in
set_option maxHeartbeats 8000000 in
theorem query_any (x0 x1 x2 x3 x4 : Int) (w : World) (h0 : okI x0) (h1 : okI x1) (h2 : okI x2) (h3 : okI x3) (h4 : okI x4) :
    Calls Tryz.prog 14 #[.agg #[.int .i64 x0, .int .i64 x1, .int .i64 x2, .int .i64 x3, .int .i64 x4]] w fun e w' => ∃ q : Qry, e = .returned q.val ∧ QrOk q ∧ Fr [] w w' := by
  have F0 := ((Fr.refl [] w).alloc (.cells #[.int .i64 x0, .int .i64 x1, .int .i64 x2, .int .i64 x3, .int .i64 x4] 33)).alloc (.cells #[.int .i64 0, .int .i64 0, .int .i64 0, .int .i64 0, .int .i64 0, .int .i64 0, .int .i64 0] 35)
  have HB : Hid (Five ((w.alloc (.cells #[.int .i64 x0, .int .i64 x1, .int .i64 x2, .int .i64 x3, .int .i64 x4] 33)).alloc (.cells #[.int .i64 0, .int .i64 0, .int .i64 0, .int .i64 0, .int .i64 0, .int .i64 0, .int .i64 0] 35)) w.heap.size x0 x1 x2 x3 x4) := Lib.hid (Blk.fr (Blk.new w _ _) ((Fr.refl [] _).alloc _) (by simp))
  have hr := QAt.new (w.alloc (.cells #[.int .i64 x0, .int .i64 x1, .int .i64 x2, .int .i64 x3, .int .i64 x4] 33)) ⟨0, 0, 0, 0, 0, 0, 0⟩
  rw [World.size_alloc] at hr
  have hs : ((w.alloc (.cells #[.int .i64 x0, .int .i64 x1, .int .i64 x2, .int .i64 x3, .int .i64 x4] 33)).alloc (.cells #[.int .i64 0, .int .i64 0, .int .i64 0, .int .i64 0, .int .i64 0, .int .i64 0, .int .i64 0] 35)).heap.size = w.heap.size + 1 + 1 := by rw [World.size_alloc, World.size_alloc]
  have HS := Lib.hid hs
  have HR := Lib.hid hr
  have HF0 := Lib.hid F0
  clear hr F0 hs
  obtain ⟨p0, b0, -, K0⟩ := pick_is2 h0 (n := 7) (by decide) (by decide)
  obtain ⟨p1, b1, -, K1⟩ := pick_is2 (okI_tdiv h0 (n := 7) (by decide)) (n := 3) (by decide) (by decide)
  obtain ⟨p2, b2, -, K2⟩ := pick_is2 h1 (n := 9) (by decide) (by decide)
  obtain ⟨p3, b3, -, K3⟩ := pick_is2 (okI_tdiv h1 (n := 9) (by decide)) (n := 4) (by decide) (by decide)
  obtain ⟨p4, b4, -, K4⟩ := pick_is2 h2 (n := 14) (by decide) (by decide)
  obtain ⟨p5, b5, -, K5⟩ := pick_is h3 (n := 14) (by decide) (by decide)
  obtain ⟨p6, b6, -, K6⟩ := pick_is2 h4 (n := 3) (by decide) (by decide)
  obtain ⟨p7, b7, -, K7⟩ := pick_is2 (okI_tdiv h4 (n := 3) (by decide)) (n := 3) (by decide) (by decide)
  obtain ⟨p8, b8, -, K8⟩ := pick_is2 (okI_tdiv h4 (n := 9) (by decide)) (n := 3) (by decide) (by decide)
  have HQ := Lib.hid (IntWalk.i64_in (x0.tdiv 7) (okI_bounds (okI_tdiv h0 (n := 7) (by decide))))
  rw [← HQ.out] at K1
  have K3' := K3
  have HQ3 := Lib.hid (IntWalk.wrap64_in (x1.tdiv 9) (okI_bounds (okI_tdiv h1 (n := 9) (by decide))))
  rw [← HQ3.out] at K3
  have K7' := K7
  have HQ7 := Lib.hid (IntWalk.wrap64_in (x4.tdiv 3) (okI_bounds (okI_tdiv h4 (n := 3) (by decide))))
  rw [← HQ7.out] at K7
  have K8' := K8
  have HQ8 := Lib.hid (IntWalk.wrap64_in (x4.tdiv 9) (okI_bounds (okI_tdiv h4 (n := 9) (by decide))))
  rw [← HQ8.out] at K8
  have HW0 : Hid (IntKind.i64.wrap (1 + p0) = 1 + p0) := Lib.hid (IntWalk.i64_in _ ⟨by omega, by omega⟩)
  clear h0 h1 h2 h3 h4
  go_enter Tryz.func14, Tryz.ntmps14
  go_upto_region 1 with (fail)
  generalize hw2 : (w.alloc (.cells #[.int .i64 x0, .int .i64 x1, .int .i64 x2, .int .i64 x3, .int .i64 x4] 33)).alloc (.cells #[.int .i64 0, .int .i64 0, .int .i64 0, .int .i64 0, .int .i64 0, .int .i64 0, .int .i64 0] 35) = w2 at *
  clear hw2
  have a0 : w2.cell? ⟨w.heap.size, 0, none⟩ = some (.int .i64 x0) := HB.out.cells.1
  go_cut [3] (fun v wc => v = .pointer (some ⟨w2.heap.size, 0, none⟩) ∧ Hid (QwRel w wc w2.heap.size x0 x1 x2 x3 x4 ⟨1 + p0, p1, 0, 0, 0, 0, 0⟩))
  case first =>
    go_region_held3 (fun w' => w'.cell? ⟨w.heap.size, 0, none⟩ = some (.int .i64 x0))
      (first | exact a0 | go_keep)
      (first
        | (go_at_call 35; (with_reducible refine (K0.out _).mono ?_); rintro e w' ⟨rfl, rfl⟩)
        | (go_at_call 35; (with_reducible refine (K1.out _).mono ?_); rintro e w' ⟨rfl, rfl⟩))
    all_goals
      go_wp2_with fail
      go_meet
      refine ⟨rfl, Lib.hid ?_⟩
      rw [HW0.out]
      have hn := QAt.new w2 ⟨1 + p0, p1, 0, 0, 0, 0, 0⟩
      have hf : Fr [] w2 (w2.alloc (.cells #[.int .i64 (1 + p0), .int .i64 p1, .int .i64 0, .int .i64 0, .int .i64 0, .int .i64 0, .int .i64 0] 35)).drew := ((Fr.refl [] w2).alloc _).drew
      exact ⟨HB.out.fr hf (by simp), HR.out.fr hf (by simp), hn.fr (Fr.refl [] _).drew (by simp), HF0.out.trans hf, by rw [HS.out]; omega⟩
  case rest =>
    obtain ⟨rfl, R1⟩ := hcut
    clear HB HR HF0 a0 HW0
    generalize w2.heap.size = g at *
    have g0 := R1.out.five.cells.1
    have g1 := R1.out.five.cells.2.1
    have g2 := R1.out.five.cells.2.2.1
    have g3 := R1.out.five.cells.2.2.2.1
    have g4 := R1.out.five.cells.2.2.2.2

    by_cases hk : p0 = 0
    · subst hk
      have ek : ((1 + 0 : Int) == 1) = true := by decide
      have c0 := R1.out.q.c0
      have z0 := R1.out.q.z 0
      have c1 := R1.out.q.c1
      have z1 := R1.out.q.z 1
      have c2 := R1.out.q.c2
      have z2 := R1.out.q.z 2
      have c3 := R1.out.q.c3
      have z3 := R1.out.q.z 3
      have c4 := R1.out.q.c4
      have z4 := R1.out.q.z 4
      have c5 := R1.out.q.c5
      have z5 := R1.out.q.z 5
      have c6 := R1.out.q.c6
      have z6 := R1.out.q.z 6
      go_upto_region 3 with (fail)
      go_cut [] (fun wc => Hid (QwRel w wc g x0 x1 x2 x3 x4 ⟨1, p1, 0, 1 + p2, 0, 0, 0⟩))
      case first =>
        go_wp2_with (first | (go_at_call 35; (with_reducible refine (K2.out _).mono ?_); rintro e w' ⟨rfl, rfl⟩))
        go_meet
        exact Lib.hid (R1.out.set3 _)
      case rest =>
      have R2 := hcut
      clear hcut R1 c0 c1 c2 c3 c4 c5 c6 z0 z1 z2 z3 z4 z5 z6 g0 g1 g2 g3 g4
      have c0 := R2.out.q.c0
      have z0 := R2.out.q.z 0
      have c1 := R2.out.q.c1
      have z1 := R2.out.q.z 1
      have c2 := R2.out.q.c2
      have z2 := R2.out.q.z 2
      have c3 := R2.out.q.c3
      have z3 := R2.out.q.z 3
      have c4 := R2.out.q.c4
      have z4 := R2.out.q.z 4
      have c5 := R2.out.q.c5
      have z5 := R2.out.q.z 5
      have c6 := R2.out.q.c6
      have z6 := R2.out.q.z 6
      have g0 := R2.out.five.cells.1
      have g1 := R2.out.five.cells.2.1
      have g2 := R2.out.five.cells.2.2.1
      have g3 := R2.out.five.cells.2.2.2.1
      have g4 := R2.out.five.cells.2.2.2.2
      go_upto_region 4 with (fail)
      go_cut [] (fun wc => Hid (QwRel w wc g x0 x1 x2 x3 x4 ⟨1, p1, 0, 1 + p2, 1 + p2, 0, 0⟩))
      case first =>
        go_wp2_with (fail)
        go_meet
        exact Lib.hid (R2.out.set4 _)
      case rest =>
      have R3 := hcut
      clear hcut R2 c0 c1 c2 c3 c4 c5 c6 z0 z1 z2 z3 z4 z5 z6 g0 g1 g2 g3 g4
      have c0 := R3.out.q.c0
      have z0 := R3.out.q.z 0
      have c1 := R3.out.q.c1
      have z1 := R3.out.q.z 1
      have c2 := R3.out.q.c2
      have z2 := R3.out.q.z 2
      have c3 := R3.out.q.c3
      have z3 := R3.out.q.z 3
      have c4 := R3.out.q.c4
      have z4 := R3.out.q.z 4
      have c5 := R3.out.q.c5
      have z5 := R3.out.q.z 5
      have c6 := R3.out.q.c6
      have z6 := R3.out.q.z 6
      have g0 := R3.out.five.cells.1
      have g1 := R3.out.five.cells.2.1
      have g2 := R3.out.five.cells.2.2.1
      have g3 := R3.out.five.cells.2.2.2.1
      have g4 := R3.out.five.cells.2.2.2.2
      clear c0 c1 c2 c3 c4 c5 c6 z0 z1 z2 z3 z4 z5 z6 g0 g1 g2 g3 g4
      have c0 := R3.out.q.c0
      have c1 := R3.out.q.c1
      have c2 := R3.out.q.c2
      have c3 := R3.out.q.c3
      have c4 := R3.out.q.c4
      have c5 := R3.out.q.c5
      have c6 := R3.out.q.c6
      have y0 := R3.out.res.c0
      have v0 := R3.out.res.z 0
      have y1 := R3.out.res.c1
      have v1 := R3.out.res.z 1
      have y2 := R3.out.res.c2
      have v2 := R3.out.res.z 2
      have y3 := R3.out.res.c3
      have v3 := R3.out.res.z 3
      have y4 := R3.out.res.c4
      have v4 := R3.out.res.z 4
      have y5 := R3.out.res.c5
      have v5 := R3.out.res.z 5
      have y6 := R3.out.res.c6
      have v6 := R3.out.res.z 6
      dsimp only at c0 c1 c2 c3 c4 c5 c6 y0 y1 y2 y3 y4 y5 y6
      go_wp2_with fail
      obtain ⟨w9, e9, h9, f9⟩ := R3.out.fin
      unfold lay7 at e9
      dsimp only at e9
      rw [e9]
      have r0 := h9.c0
      have r1 := h9.c1
      have r2 := h9.c2
      have r3 := h9.c3
      have r4 := h9.c4
      have r5 := h9.c5
      have r6 := h9.c6
      dsimp only at r0 r1 r2 r3 r4 r5 r6
      refine bodyPost_ret (v := .agg #[.int .i64 (1), .int .i64 (p1), .int .i64 (0), .int .i64 (1 + p2), .int .i64 (1 + p2), .int .i64 (0), .int .i64 (0)]) (by simp [results, Tryz.results14, go_sem, r0, r1, r2, r3, r4, r5, r6]) rfl ⟨⟨1, p1, 0, 1 + p2, 1 + p2, 0, 0⟩, rfl, ?_, f9⟩
      refine ⟨?_, by dsimp only; omega, by dsimp only; omega, by dsimp only; omega, by dsimp only; omega, by dsimp only; omega, by dsimp only; omega⟩
      unfold Em.valid Em.base Em.within
      dsimp only
      simp; omega

    have hk1 : ((1 + p0 : Int) == 1) = false := by simp; omega
    have c0 := R1.out.q.c0
    have z0 := R1.out.q.z 0
    have c1 := R1.out.q.c1
    have z1 := R1.out.q.z 1
    have c2 := R1.out.q.c2
    have z2 := R1.out.q.z 2
    have c3 := R1.out.q.c3
    have z3 := R1.out.q.z 3
    have c4 := R1.out.q.c4
    have z4 := R1.out.q.z 4
    have c5 := R1.out.q.c5
    have z5 := R1.out.q.z 5
    have c6 := R1.out.q.c6
    have z6 := R1.out.q.z 6
    go_upto_region 6 with (fail)
    go_cut [] (fun wc => Hid (QwRel w wc g x0 x1 x2 x3 x4 ⟨1 + p0, p1, p3, 0, 0, 0, 0⟩))
    case first =>
      go_wp2_with (first | (go_at_call 35; (with_reducible refine (K3.out _).mono ?_); rintro e w' ⟨rfl, rfl⟩) | (go_at_call 35; (with_reducible refine (K3'.out _).mono ?_); rintro e w' ⟨rfl, rfl⟩))
      go_meet
      exact Lib.hid (R1.out.set2 _)
    case rest =>
    have R2 := hcut
    clear hcut R1 c0 c1 c2 c3 c4 c5 c6 z0 z1 z2 z3 z4 z5 z6 g0 g1 g2 g3 g4
    have c0 := R2.out.q.c0
    have z0 := R2.out.q.z 0
    have c1 := R2.out.q.c1
    have z1 := R2.out.q.z 1
    have c2 := R2.out.q.c2
    have z2 := R2.out.q.z 2
    have c3 := R2.out.q.c3
    have z3 := R2.out.q.z 3
    have c4 := R2.out.q.c4
    have z4 := R2.out.q.z 4
    have c5 := R2.out.q.c5
    have z5 := R2.out.q.z 5
    have c6 := R2.out.q.c6
    have z6 := R2.out.q.z 6
    have g0 := R2.out.five.cells.1
    have g1 := R2.out.five.cells.2.1
    have g2 := R2.out.five.cells.2.2.1
    have g3 := R2.out.five.cells.2.2.2.1
    have g4 := R2.out.five.cells.2.2.2.2
    go_upto_region 7 with (fail)
    go_cut [] (fun wc => Hid (QwRel w wc g x0 x1 x2 x3 x4 ⟨1 + p0, p1, p3, p4 - 2, 0, 0, 0⟩))
    case first =>
      go_wp2_with (first | (go_at_call 35; (with_reducible refine (K4.out _).mono ?_); rintro e w' ⟨rfl, rfl⟩))
      go_meet
      exact Lib.hid (R2.out.set3 _)
    case rest =>
    have R3 := hcut
    clear hcut R2 c0 c1 c2 c3 c4 c5 c6 z0 z1 z2 z3 z4 z5 z6 g0 g1 g2 g3 g4
    have c0 := R3.out.q.c0
    have z0 := R3.out.q.z 0
    have c1 := R3.out.q.c1
    have z1 := R3.out.q.z 1
    have c2 := R3.out.q.c2
    have z2 := R3.out.q.z 2
    have c3 := R3.out.q.c3
    have z3 := R3.out.q.z 3
    have c4 := R3.out.q.c4
    have z4 := R3.out.q.z 4
    have c5 := R3.out.q.c5
    have z5 := R3.out.q.z 5
    have c6 := R3.out.q.c6
    have z6 := R3.out.q.z 6
    have g0 := R3.out.five.cells.1
    have g1 := R3.out.five.cells.2.1
    have g2 := R3.out.five.cells.2.2.1
    have g3 := R3.out.five.cells.2.2.2.1
    have g4 := R3.out.five.cells.2.2.2.2

    clear c0 c1 c2 c3 c4 c5 c6 z0 z1 z2 z3 z4 z5 z6 g0 g1 g2 g3 g4
    go_upto_region 8 with (fail)
    go_cut [] (fun wc => Hid (QwRel w wc g x0 x1 x2 x3 x4 ⟨1 + p0, p1, p3, p4 - 2, p4 - 2 + p5, 0, 0⟩))
    case first =>
      have hl2 := Blk.lt R3.out.five
      have hl3 := Blk.lt R3.out.q
      have a2 : ∀ p : Later wc, p.w.cell? ⟨w.heap.size, 3, none⟩ = some (.int .i64 x3) := fun p => p.cell hl2 R3.out.five.cells.2.2.2.1
      have a3 : ∀ p : Later wc, p.w.cell? ⟨g, 3, none⟩ = some (.int .i64 (p4 - 2)) := fun p => p.cell hl3 R3.out.q.c3
      clear hl2 hl3
      refine wp_region_quiet_tail (C := fun w' => ∃ p : Later wc, w' = p.w) 7 (by kernel_rfl) (by kernel_rfl) ⟨⟨_, (Fr.refl [] wc).drew⟩, rfl⟩ ?_
      simp only [List.take_succ_cons, List.take_zero, List.drop_succ_cons, List.drop_zero]
      repeat (go_big_quiet_step (with_reducible exact Later.calls (K5.out _)))
      refine wpQuiet_nil ?_
      rintro wq ⟨p, hp⟩
      have fq : Fr [] wc wq := hp ▸ p.fr
      clear hp p a2 a3
      have RQ := Lib.hid (R3.out.fr0 fq)
      clear fq R3
      have c4 := RQ.out.q.c4
      have z4 := RQ.out.q.z 4
      go_wp2_with fail
      go_meet
      exact Lib.hid (RQ.out.set4 _)
    case rest =>
    have R4 := hcut
    clear hcut R3
    have c0 := R4.out.q.c0
    have z0 := R4.out.q.z 0
    have c1 := R4.out.q.c1
    have z1 := R4.out.q.z 1
    have c2 := R4.out.q.c2
    have z2 := R4.out.q.z 2
    have c3 := R4.out.q.c3
    have z3 := R4.out.q.z 3
    have c4 := R4.out.q.c4
    have z4 := R4.out.q.z 4
    have c5 := R4.out.q.c5
    have z5 := R4.out.q.z 5
    have c6 := R4.out.q.c6
    have z6 := R4.out.q.z 6
    have g0 := R4.out.five.cells.1
    have g1 := R4.out.five.cells.2.1
    have g2 := R4.out.five.cells.2.2.1
    have g3 := R4.out.five.cells.2.2.2.1
    have g4 := R4.out.five.cells.2.2.2.2

    go_upto_if 44 with (fail)
    go_cut [] (fun wn => ∃ l h : Int, (-100 ≤ l ∧ l ≤ h ∧ h ≤ 100) ∧ Hid (QwRel w wn g x0 x1 x2 x3 x4 ⟨1 + p0, p1, p3, l, h, 0, 0⟩))
    case first =>
      by_cases h3 : p3 = 3
      · subst h3
        have ec : ((3 : Int) == 3) = true := by decide
        have RA := Lib.hid ((R4.out.set3 ((p4 - 2) * 3 - 20)).set4 ((p4 - 2 + p5) * 3 - 20))
        go_wp2_with fail
        go_meet
        exact ⟨_, _, ⟨by omega, by omega, by omega⟩, RA⟩
      · have ec : (p3 == 3) = false := by simp [h3]
        go_wp2_with fail
        go_meet
        exact ⟨_, _, ⟨by omega, by omega, by omega⟩, R4⟩
    case rest =>
    obtain ⟨l, h, ⟨bl, blh, bh⟩, R5⟩ := hcut
    clear R4 c0 c1 c2 c3 c4 c5 c6 z0 z1 z2 z3 z4 z5 z6 g0 g1 g2 g3 g4
    have c0 := R5.out.q.c0
    have z0 := R5.out.q.z 0
    have c1 := R5.out.q.c1
    have z1 := R5.out.q.z 1
    have c2 := R5.out.q.c2
    have z2 := R5.out.q.z 2
    have c3 := R5.out.q.c3
    have z3 := R5.out.q.z 3
    have c4 := R5.out.q.c4
    have z4 := R5.out.q.z 4
    have c5 := R5.out.q.c5
    have z5 := R5.out.q.z 5
    have c6 := R5.out.q.c6
    have z6 := R5.out.q.z 6
    have g0 := R5.out.five.cells.1
    have g1 := R5.out.five.cells.2.1
    have g2 := R5.out.five.cells.2.2.1
    have g3 := R5.out.five.cells.2.2.2.1
    have g4 := R5.out.five.cells.2.2.2.2
    go_upto_if 57 with (fail)
    go_cut [] (fun wn => ∃ b : Int, ((3 ≤ p0 ∧ 1 ≤ b ∧ b ≤ 3) ∨ (p0 < 3 ∧ b = 0)) ∧ Hid (QwRel w wn g x0 x1 x2 x3 x4 ⟨1 + p0, p1, p3, l, h, b, 0⟩))
    case first =>
      by_cases h3 : 3 ≤ p0
      · have e4 : (4 : Int) ≤ 1 + p0 := by omega
        have R6 := Lib.hid (R5.out.set5 (1 + p6))
        go_wp2_with (first | (go_at_call 35; (with_reducible refine (K6.out _).mono ?_); rintro e w' ⟨rfl, rfl⟩))
        go_meet
        exact ⟨_, .inl ⟨h3, by omega, by omega⟩, R6⟩
      · have e4 : ¬ (4 : Int) ≤ 1 + p0 := by omega
        go_wp2_with fail
        go_meet
        exact ⟨0, .inr ⟨by omega, rfl⟩, R5⟩
    case rest =>
    obtain ⟨qb, hqb, R6⟩ := hcut
    clear R5 c0 c1 c2 c3 c4 c5 c6 z0 z1 z2 z3 z4 z5 z6 g0 g1 g2 g3 g4
    have HQB := Lib.hid hqb
    clear hqb
    have c0 : wc.cell? ⟨g, 0, none⟩ = some (.int .i64 (1 + p0)) := R6.out.q.c0
    have c5 : wc.cell? ⟨g, 5, none⟩ = some (.int .i64 qb) := R6.out.q.c5
    have c6 : wc.cell? ⟨g, 6, none⟩ = some (.int .i64 0) := R6.out.q.c6
    have z5 := R6.out.q.z 5
    have z6 := R6.out.q.z 6
    have g4 := R6.out.five.cells.2.2.2.2
    go_upto_if 65 with (fail)
    go_cut [] (fun wn => ∃ q : Qry, Hid (QrOk q) ∧ Hid (QwRel w wn g x0 x1 x2 x3 x4 q))
    case first =>
      by_cases h6 : p0 = 6
      · subst h6
        have e7 : ((1 + 6 : Int) == 7) = true := by decide
        by_cases h8 : 0 < p8
        · have R8 := Lib.hid ((R6.out.set6 p7).set5 2)
          go_wp2_with (first | (go_at_call 35; (with_reducible refine (K7.out _).mono ?_); rintro e w' ⟨rfl, rfl⟩) | (go_at_call 35; (with_reducible refine (K7'.out _).mono ?_); rintro e w' ⟨rfl, rfl⟩) | (go_at_call 35; (with_reducible refine (K8.out _).mono ?_); rintro e w' ⟨rfl, rfl⟩) | (go_at_call 35; (with_reducible refine (K8'.out _).mono ?_); rintro e w' ⟨rfl, rfl⟩))
          go_meet
          exact ⟨_, Lib.hid (by
            refine ⟨?_, by dsimp only; omega, by dsimp only; omega, by dsimp only; omega, by dsimp only; omega, by dsimp only; omega, by dsimp only; omega⟩
            unfold Em.valid Em.base Em.within
            dsimp only
            simp
            omega), R8⟩
        · have R8 := Lib.hid (R6.out.set6 p7)
          go_wp2_with (first | (go_at_call 35; (with_reducible refine (K7.out _).mono ?_); rintro e w' ⟨rfl, rfl⟩) | (go_at_call 35; (with_reducible refine (K7'.out _).mono ?_); rintro e w' ⟨rfl, rfl⟩) | (go_at_call 35; (with_reducible refine (K8.out _).mono ?_); rintro e w' ⟨rfl, rfl⟩) | (go_at_call 35; (with_reducible refine (K8'.out _).mono ?_); rintro e w' ⟨rfl, rfl⟩))
          go_meet
          have hqb := HQB.out
          exact ⟨_, Lib.hid (by
            refine ⟨?_, by dsimp only; omega, by dsimp only; omega, by dsimp only; omega, by dsimp only; omega, by dsimp only; omega, by dsimp only; omega⟩
            unfold Em.valid Em.base Em.within
            dsimp only
            simp
            omega), R8⟩
      · have e7 : ((1 + p0 : Int) == 7) = false := by simp; omega
        go_wp2_with fail
        go_meet
        have hqb := HQB.out
        exact ⟨_, Lib.hid (by
          refine ⟨?_, by dsimp only; omega, by dsimp only; omega, by dsimp only; omega, by dsimp only; omega, by dsimp only; omega, by dsimp only; omega⟩
          unfold Em.valid Em.base Em.within
          dsimp only
          have hx : p0 = 1 ∨ p0 = 2 ∨ p0 = 3 ∨ p0 = 4 ∨ p0 = 5 := by omega
          rcases hx with rfl | rfl | rfl | rfl | rfl <;> simp <;> omega), R6⟩
    case rest =>
    obtain ⟨⟨qk, qt, qc, ql, qh, qb, qo⟩, HQR, R7⟩ := hcut
    clear R6 HQB c0 c5 c6 z5 z6 g4 b0 b1 b2 b3 b4 b5 b6 b7 b8 bl blh bh hk1 hk
    have HQF : Blk wc g 35 #[.int .i64 qk, .int .i64 qt, .int .i64 qc, .int .i64 ql, .int .i64 qh, .int .i64 qb, .int .i64 qo] := R7.out.q
    have HRF : Blk wc (w.heap.size + 1) 35 #[.int .i64 0, .int .i64 0, .int .i64 0, .int .i64 0, .int .i64 0, .int .i64 0, .int .i64 0] := R7.out.res
    go_upto_region 18 with (fail)
    go_cut [] (fun wn => Hid (QAt wn (w.heap.size + 1) ⟨qk, qt, qc, ql, qh, qb, qo⟩) ∧ Hid (Fr [] w wn))
    case first =>
      go_wp2_with (first
        | (refine wpList_load_row rfl _ _ rfl g rfl 35 _ (0, 0) _ HQF Tryz.underlying35 rfl (by kernel_rfl) ?_)
        | (refine wpList_store_blk rfl _ _ _ rfl (w.heap.size + 1) #[.int .i64 qk, .int .i64 qt, .int .i64 qc, .int .i64 ql, .int .i64 qh, .int .i64 qb, .int .i64 qo] rfl rfl 35 _ HRF (by kernel_rfl) rfl rfl ?_; intro w9 hb9 hf9; have HB9 := Lib.hid hb9; have HF9 := Lib.hid hf9; clear hb9 hf9))
      go_meet
      exact ⟨HB9, Lib.hid (R7.out.fr.trans' HF9.out (fun i hi => .inr (by rw [List.mem_singleton] at hi; omega)))⟩
    case rest =>
    obtain ⟨HB9, HF9⟩ := hcut
    clear R7 HQF HRF
    have HB9' : Blk wc (w.heap.size + 1) 35 #[.int .i64 qk, .int .i64 qt, .int .i64 qc, .int .i64 ql, .int .i64 qh, .int .i64 qb, .int .i64 qo] := HB9.out
    have r0 : wc.cell? ⟨w.heap.size + 1, 0, none⟩ = some (.int .i64 qk) := HB9'.cell 0
    have r1 : wc.cell? ⟨w.heap.size + 1, 1, none⟩ = some (.int .i64 qt) := HB9'.cell 1
    have r2 : wc.cell? ⟨w.heap.size + 1, 2, none⟩ = some (.int .i64 qc) := HB9'.cell 2
    have r3 : wc.cell? ⟨w.heap.size + 1, 3, none⟩ = some (.int .i64 ql) := HB9'.cell 3
    have r4 : wc.cell? ⟨w.heap.size + 1, 4, none⟩ = some (.int .i64 qh) := HB9'.cell 4
    have r5 : wc.cell? ⟨w.heap.size + 1, 5, none⟩ = some (.int .i64 qb) := HB9'.cell 5
    have r6 : wc.cell? ⟨w.heap.size + 1, 6, none⟩ = some (.int .i64 qo) := HB9'.cell 6
    refine (‹∀ (a : Act) (w : World), Code.wp Tryz.prog Code.ret _ a w → _› : _) _ _ ?_
    refine wp_ret ?_
    refine bodyPost_ret (v := .agg #[.int .i64 qk, .int .i64 qt, .int .i64 qc, .int .i64 ql, .int .i64 qh, .int .i64 qb, .int .i64 qo]) ?hr ?hd ?hR
    case hd => rfl
    case hR => exact ⟨⟨qk, qt, qc, ql, qh, qb, qo⟩, rfl, HQR.out, HF9.out⟩
    case hr =>
      simp [results, Tryz.results14, go_sem, r0, r1, r2, r3, r4, r5, r6]
end Go.Proofs.YtciaallekkdnhaaGreat
namespace Go.Proofs.YtciaallekkdnhaaGreat
open Go.RowKit

theorem Em.valid_base {q : Qry} (h : Em.base q = false) : Em.valid q = false := by
  unfold Em.valid
  rw [h]
  simp
end Go.Proofs.YtciaallekkdnhaaGreat
namespace Go.Proofs.YtciaallekkdnhaaGreat
namespace Sm

theorem perm_of_mget {M M' : List (IdK × RowV)} (h : Nd M) (h' : Nd M') (he : ∀ i, mget M i = mget M' i) : M.Perm M' := by
  have nd : ∀ {L : List (IdK × RowV)}, Nd L → L.Nodup := fun hL => List.Pairwise.imp (fun hne e => hne (by rw [e])) hL
  refine (List.perm_ext_iff_of_nodup (nd h) (nd h')).2 fun e => ?_
  obtain ⟨i, r⟩ := e
  rw [← mget_iff h, ← mget_iff h', he]
end Sm
end Go.Proofs.YtciaallekkdnhaaGreat
namespace Go.Proofs.YtciaallekkdnhaaGreat
open Go

section
variable {P : Program} {ops : Array Oper} {Q : Exit → Act → World → Prop} {md : Region.Mode} {S S' : World → Prop}
/-- In state 'a', in every world of S, the call 'o' hands back 'v' and leaves the world as it is. -/
def CallIf (P : Program) (ops : Array Oper) (S : World → Prop) (o : Oper) (v : Value) (a : Act) : Prop :=
  Region.wanted o (yielded ops a.tmps) = true ∧ ∀ w, S w → ∃ f args, (execOp a.eval o).run P w = .ok (.enter f args) w ∧ Calls P f args w (fun e w' => e = .returned v ∧ w = w')
theorem CallIf.same {o : Oper} {v : Value} {a a' : Act} (hy : CallIf P ops S o v a) (he : execOp a'.eval o = execOp a.eval o) (hw : Region.wanted o (yielded ops a'.tmps) = Region.wanted o (yielded ops a.tmps)) : CallIf P ops S o v a' := by
  unfold CallIf at *
  rw [he, hw]
  exact hy
theorem HeadS.more {n : Nat} {L : Array Bool → Act → World → Prop} (hm : ∀ w, S' w → S w) : ∀ (f : Nat) (done : Array Bool) (a : Act) (w : World), HeadS P md ops Q S' n L f done a w → HeadS P md ops Q S n L f done a w
  | 0, _, _, _, h => h
  | f + 1, _, _, _, h => ⟨h.1, fun i hi => ⟨(h.2 i hi).1, wpOp_mono (fun _ _ h' => ⟨hm _ h'.1, HeadS.more hm f _ _ _ h'.2⟩) (h.2 i hi).2⟩⟩
/-- What is held may be stated anew where it is equivalent: less is held from here on, on a world of which all is known. -/
theorem CallIf.of {o : Oper} {v : Value} {a : Act} (hw : Region.wanted o (yielded ops a.tmps) = true) {f : Nat} {args : Array Value} (he : ∀ w, S w → (execOp a.eval o).run P w = .ok (.enter f args) w) (hc : ∀ w, S w → Calls P f args w (fun e w' => e = .returned v ∧ w = w')) : CallIf P ops S o v a :=
  ⟨hw, fun w h => ⟨f, args, he w h, hc w h⟩⟩
end
end Go.Proofs.YtciaallekkdnhaaGreat
