/-
  A drawn region's head where two operations may come up: both orders.
-/
import Derived.Test.YtjiikpmkedkbkaaFo
import Derived.Test.YtjiikpmkedkbkaaFb
import Derived.Deep.DeepCutAuto
import Derived.StillTailTactics
import Derived.Test.YtjiikpmkedkbkaaFg
namespace Go.Proofs.Ytjiikpmkedkbkaa
open Go.RowKit

set_option maxRecDepth 100000 in
set_option maxHeartbeats 1000000 in
theorem rin_any (q : Qry) (r : RowV) (e : Bool) (w : World) : Calls Try.prog 31 #[q.val, r.val, .bool e] w fun e' w' => e' = .returned (.bool (e && Pm.inq q r)) ∧ Fr [] w w' := by
  have F0 : Hid (Fr [] w ((w.alloc (.cells #[.int .i64 q.kind, .int .i64 q.table, .int .i64 q.column, .int .i64 q.low, .int .i64 q.high, .int .i64 q.by_, .int .i64 q.other] 24)).alloc (.cells #[.int .i64 r.t, .int .i64 r.k, .int .i64 r.x, .int .i64 r.y, .int .i64 r.z] 57))) := Lib.hid (((Fr.refl [] w).alloc _).alloc _)
  have HQ : Hid (QAt ((w.alloc (.cells #[.int .i64 q.kind, .int .i64 q.table, .int .i64 q.column, .int .i64 q.low, .int .i64 q.high, .int .i64 q.by_, .int .i64 q.other] 24)).alloc (.cells #[.int .i64 r.t, .int .i64 r.k, .int .i64 r.x, .int .i64 r.y, .int .i64 r.z] 57)) w.heap.size q) := Lib.hid (Blk.alloc (QAt.new w q) _)
  have hb := Blk.new (w.alloc (.cells #[.int .i64 q.kind, .int .i64 q.table, .int .i64 q.column, .int .i64 q.low, .int .i64 q.high, .int .i64 q.by_, .int .i64 q.other] 24)) 57 #[.int .i64 r.t, .int .i64 r.k, .int .i64 r.x, .int .i64 r.y, .int .i64 r.z]
  rw [World.size_alloc] at hb
  have HR : Hid (Blk ((w.alloc (.cells #[.int .i64 q.kind, .int .i64 q.table, .int .i64 q.column, .int .i64 q.low, .int .i64 q.high, .int .i64 q.by_, .int .i64 q.other] 24)).alloc (.cells #[.int .i64 r.t, .int .i64 r.k, .int .i64 r.x, .int .i64 r.y, .int .i64 r.z] 57)) (w.heap.size + 1) 57 #[.int .i64 r.t, .int .i64 r.k, .int .i64 r.x, .int .i64 r.y, .int .i64 r.z]) := Lib.hid hb
  clear hb
  obtain ⟨v, HV⟩ : ∃ v, Hid (r.value q.column = v) := ⟨_, Lib.hid rfl⟩
  have HC := Lib.hid (fun W => rfValue_any r q.column W)
  rw [HV.out] at HC
  have HI : Hid (Pm.inq q r = (decide (r.t = q.table) && (decide (q.low ≤ v) && decide (v ≤ q.high)))) := Lib.hid (by rw [← HV.out]; rfl)
  obtain ⟨o, HRES⟩ : ∃ o, Hid ((e && Pm.inq q r) = o) := ⟨_, Lib.hid rfl⟩
  rw [HRES.out]
  rw [HI.out] at HRES
  go_enter Try.func31, Try.ntmps31
  go_upto_region 1 with (fail)
  generalize ((w.alloc (.cells #[.int .i64 q.kind, .int .i64 q.table, .int .i64 q.column, .int .i64 q.low, .int .i64 q.high, .int .i64 q.by_, .int .i64 q.other] 24)).alloc (.cells #[.int .i64 r.t, .int .i64 r.k, .int .i64 r.x, .int .i64 r.y, .int .i64 r.z] 57)) = w2 at *
  have hr := HR.out
  have q2 := HQ.out.c2
  go_upto_region 2 with (first
    | (refine wpList_load_row rfl _ _ rfl (w.heap.size + 1) rfl 57 _ (0, 0) _ hr Try.underlying57 rfl (by kernel_rfl) ?_)
    | (go_at_call 23; refine (HC.out _).mono ?_; rintro e w3 ⟨rfl, f3⟩; have F3 := Lib.hid f3; clear f3))
  clear hr q2 HC HI HV
  replace F0 := Lib.hid (F0.out.trans F3.out)
  have q1 := (HQ.out.fr F3.out (by simp)).c1
  have q3 := (HQ.out.fr F3.out (by simp)).c3
  have q4 := (HQ.out.fr F3.out (by simp)).c4
  have r0 := (HR.out.fr F3.out (by simp)).cell 0
  have r0 : w3.cell? ⟨w.heap.size + 1, 0, none⟩ = some (.int .i64 r.t) := r0
  clear F3 HQ HR
  cases e
  · have HO : Hid (o = false) := Lib.hid (by rw [← HRES.out]; rfl)
    go_wp2_with fail
    go_ret
    exact ⟨by rw [HO.out]; rfl, F0.out⟩
  · by_cases e1 : r.t = q.table
    · have e1' : (r.t == q.table) = true := by simpa using e1
      by_cases e2 : q.low ≤ v
      · by_cases e3 : v ≤ q.high
        · have HO : Hid (o = true) := Lib.hid (by rw [← HRES.out]; simp [e1, e2, e3])
          clear e1
          go_wp2_with fail
          go_ret
          exact ⟨by rw [HO.out]; rfl, F0.out⟩
        · have HO : Hid (o = false) := Lib.hid (by rw [← HRES.out]; simp [e1, e2, e3])
          have e3' : decide (v ≤ q.high) = false := decide_eq_false e3
          clear e1
          go_wp2_with fail
          go_ret
          exact ⟨by rw [HO.out]; rfl, F0.out⟩
      · have HO : Hid (o = false) := Lib.hid (by rw [← HRES.out]; simp [e1, e2])
        have e2' : decide (q.low ≤ v) = false := decide_eq_false e2
        clear e1
        go_wp2_with fail
        go_ret
        exact ⟨by rw [HO.out]; rfl, F0.out⟩
    · have HO : Hid (o = false) := Lib.hid (by rw [← HRES.out]; simp [e1])
      have e1' : (r.t == q.table) = false := by simpa using e1
      clear e1
      go_wp2_with fail
      go_ret
      exact ⟨by rw [HO.out]; rfl, F0.out⟩

set_option maxRecDepth 100000 in
set_option maxHeartbeats 1000000 in
theorem rmeasure_any (q : Qry) (r : RowV) (i : Bool) (w : World) : Calls Try.prog 33 #[q.val, r.val, .bool i] w fun e' w' => e' = .returned (.int .i64 (if i = true then r.value q.by_ else 0)) ∧ Fr [] w w' := by
  have F0 : Hid (Fr [] w ((w.alloc (.cells #[.int .i64 q.kind, .int .i64 q.table, .int .i64 q.column, .int .i64 q.low, .int .i64 q.high, .int .i64 q.by_, .int .i64 q.other] 24)).alloc (.cells #[.int .i64 r.t, .int .i64 r.k, .int .i64 r.x, .int .i64 r.y, .int .i64 r.z] 57))) := Lib.hid (((Fr.refl [] w).alloc _).alloc _)
  have HQ : Hid (QAt ((w.alloc (.cells #[.int .i64 q.kind, .int .i64 q.table, .int .i64 q.column, .int .i64 q.low, .int .i64 q.high, .int .i64 q.by_, .int .i64 q.other] 24)).alloc (.cells #[.int .i64 r.t, .int .i64 r.k, .int .i64 r.x, .int .i64 r.y, .int .i64 r.z] 57)) w.heap.size q) := Lib.hid (Blk.alloc (QAt.new w q) _)
  have hb := Blk.new (w.alloc (.cells #[.int .i64 q.kind, .int .i64 q.table, .int .i64 q.column, .int .i64 q.low, .int .i64 q.high, .int .i64 q.by_, .int .i64 q.other] 24)) 57 #[.int .i64 r.t, .int .i64 r.k, .int .i64 r.x, .int .i64 r.y, .int .i64 r.z]
  rw [World.size_alloc] at hb
  have HR : Hid (Blk ((w.alloc (.cells #[.int .i64 q.kind, .int .i64 q.table, .int .i64 q.column, .int .i64 q.low, .int .i64 q.high, .int .i64 q.by_, .int .i64 q.other] 24)).alloc (.cells #[.int .i64 r.t, .int .i64 r.k, .int .i64 r.x, .int .i64 r.y, .int .i64 r.z] 57)) (w.heap.size + 1) 57 #[.int .i64 r.t, .int .i64 r.k, .int .i64 r.x, .int .i64 r.y, .int .i64 r.z]) := Lib.hid hb
  clear hb
  obtain ⟨v, HV⟩ : ∃ v, Hid (r.value q.by_ = v) := ⟨_, Lib.hid rfl⟩
  have HC := Lib.hid (fun W => rfValue_any r q.by_ W)
  rw [HV.out] at HC ⊢
  clear HV
  obtain ⟨o, HRES⟩ : ∃ o, Hid ((if i = true then v else 0) = o) := ⟨_, Lib.hid rfl⟩
  rw [HRES.out]
  go_enter Try.func33, Try.ntmps33
  go_upto_region 1 with (fail)
  generalize ((w.alloc (.cells #[.int .i64 q.kind, .int .i64 q.table, .int .i64 q.column, .int .i64 q.low, .int .i64 q.high, .int .i64 q.by_, .int .i64 q.other] 24)).alloc (.cells #[.int .i64 r.t, .int .i64 r.k, .int .i64 r.x, .int .i64 r.y, .int .i64 r.z] 57)) = w2 at *
  cases i
  · have HO : Hid (o = 0) := Lib.hid (by rw [← HRES.out]; rfl)
    go_wp2_with fail
    go_ret
    exact ⟨by rw [HO.out]; rfl, F0.out⟩
  · have HO : Hid (o = v) := Lib.hid (by rw [← HRES.out]; rfl)
    have hr := HR.out
    have q5 := HQ.out.c5
    go_wp2_with (first
      | (refine wpList_load_row rfl _ _ rfl (w.heap.size + 1) rfl 57 _ (0, 0) _ hr Try.underlying57 rfl (by kernel_rfl) ?_)
      | (go_at_call 23; refine (HC.out _).mono ?_; rintro e w3 ⟨rfl, f3⟩; have F3 := Lib.hid f3; clear f3))
    go_ret
    exact ⟨by rw [HO.out]; rfl, F0.out.trans F3.out⟩

set_option maxRecDepth 100000 in
set_option maxHeartbeats 1000000 in
theorem rbefore_any (q : Qry) (x y : RowV) (w : World) : Calls Try.prog 65 #[q.val, x.val, y.val] w fun e' w' => e' = .returned (.bool (Pm.behind q x y)) ∧ Fr [] w w' := by
  have F0 : Hid (Fr [] w (((w.alloc (.cells #[.int .i64 q.kind, .int .i64 q.table, .int .i64 q.column, .int .i64 q.low, .int .i64 q.high, .int .i64 q.by_, .int .i64 q.other] 24)).alloc (.cells #[.int .i64 x.t, .int .i64 x.k, .int .i64 x.x, .int .i64 x.y, .int .i64 x.z] 57)).alloc (.cells #[.int .i64 y.t, .int .i64 y.k, .int .i64 y.x, .int .i64 y.y, .int .i64 y.z] 57))) := Lib.hid ((((Fr.refl [] w).alloc _).alloc _).alloc _)
  have HQ : Hid (QAt (((w.alloc (.cells #[.int .i64 q.kind, .int .i64 q.table, .int .i64 q.column, .int .i64 q.low, .int .i64 q.high, .int .i64 q.by_, .int .i64 q.other] 24)).alloc (.cells #[.int .i64 x.t, .int .i64 x.k, .int .i64 x.x, .int .i64 x.y, .int .i64 x.z] 57)).alloc (.cells #[.int .i64 y.t, .int .i64 y.k, .int .i64 y.x, .int .i64 y.y, .int .i64 y.z] 57)) w.heap.size q) := Lib.hid (Blk.alloc (Blk.alloc (QAt.new w q) _) _)
  have hb := Blk.new (w.alloc (.cells #[.int .i64 q.kind, .int .i64 q.table, .int .i64 q.column, .int .i64 q.low, .int .i64 q.high, .int .i64 q.by_, .int .i64 q.other] 24)) 57 #[.int .i64 x.t, .int .i64 x.k, .int .i64 x.x, .int .i64 x.y, .int .i64 x.z]
  rw [World.size_alloc] at hb
  have HX : Hid (Blk (((w.alloc (.cells #[.int .i64 q.kind, .int .i64 q.table, .int .i64 q.column, .int .i64 q.low, .int .i64 q.high, .int .i64 q.by_, .int .i64 q.other] 24)).alloc (.cells #[.int .i64 x.t, .int .i64 x.k, .int .i64 x.x, .int .i64 x.y, .int .i64 x.z] 57)).alloc (.cells #[.int .i64 y.t, .int .i64 y.k, .int .i64 y.x, .int .i64 y.y, .int .i64 y.z] 57)) (w.heap.size + 1) 57 #[.int .i64 x.t, .int .i64 x.k, .int .i64 x.x, .int .i64 x.y, .int .i64 x.z]) := Lib.hid (hb.alloc _)
  have hb2 := Blk.new ((w.alloc (.cells #[.int .i64 q.kind, .int .i64 q.table, .int .i64 q.column, .int .i64 q.low, .int .i64 q.high, .int .i64 q.by_, .int .i64 q.other] 24)).alloc (.cells #[.int .i64 x.t, .int .i64 x.k, .int .i64 x.x, .int .i64 x.y, .int .i64 x.z] 57)) 57 #[.int .i64 y.t, .int .i64 y.k, .int .i64 y.x, .int .i64 y.y, .int .i64 y.z]
  rw [World.size_alloc, World.size_alloc] at hb2
  have HY : Hid (Blk (((w.alloc (.cells #[.int .i64 q.kind, .int .i64 q.table, .int .i64 q.column, .int .i64 q.low, .int .i64 q.high, .int .i64 q.by_, .int .i64 q.other] 24)).alloc (.cells #[.int .i64 x.t, .int .i64 x.k, .int .i64 x.x, .int .i64 x.y, .int .i64 x.z] 57)).alloc (.cells #[.int .i64 y.t, .int .i64 y.k, .int .i64 y.x, .int .i64 y.y, .int .i64 y.z] 57)) (w.heap.size + 1 + 1) 57 #[.int .i64 y.t, .int .i64 y.k, .int .i64 y.x, .int .i64 y.y, .int .i64 y.z]) := Lib.hid hb2
  clear hb hb2
  obtain ⟨v, HV⟩ : ∃ v, Hid (x.value q.column = v) := ⟨_, Lib.hid rfl⟩
  obtain ⟨u, HU⟩ : ∃ v, Hid (y.value q.column = v) := ⟨_, Lib.hid rfl⟩
  have HCX := Lib.hid (fun W => rfValue_any x q.column W)
  rw [HV.out] at HCX
  have HCY := Lib.hid (fun W => rfValue_any y q.column W)
  rw [HU.out] at HCY
  have HI : Hid (Pm.behind q x y = (decide (v < u) || (decide (u = v) && decide (x.k < y.k)))) := Lib.hid (by rw [← HV.out, ← HU.out]; rfl)
  obtain ⟨o, HRES⟩ : ∃ o, Hid (Pm.behind q x y = o) := ⟨_, Lib.hid rfl⟩
  rw [HRES.out]
  rw [HI.out] at HRES
  clear HI HV HU
  go_enter Try.func65, Try.ntmps65
  go_upto_region 1 with (fail)
  generalize (((w.alloc (.cells #[.int .i64 q.kind, .int .i64 q.table, .int .i64 q.column, .int .i64 q.low, .int .i64 q.high, .int .i64 q.by_, .int .i64 q.other] 24)).alloc (.cells #[.int .i64 x.t, .int .i64 x.k, .int .i64 x.x, .int .i64 x.y, .int .i64 x.z] 57)).alloc (.cells #[.int .i64 y.t, .int .i64 y.k, .int .i64 y.x, .int .i64 y.y, .int .i64 y.z] 57)) = w2 at *
  have hr := HX.out
  have q2 := HQ.out.c2
  go_upto_region 2 with (first
    | (refine wpList_load_row rfl _ _ rfl (w.heap.size + 1) rfl 57 _ (0, 0) _ hr Try.underlying57 rfl (by kernel_rfl) ?_)
    | (go_at_call 23; refine (HCX.out _).mono ?_; rintro e w3 ⟨rfl, f3⟩; have F3 := Lib.hid f3; clear f3))
  clear hr q2 HCX
  replace HQ := Lib.hid (HQ.out.fr F3.out (by simp))
  replace HX := Lib.hid (HX.out.fr F3.out (by simp))
  replace HY := Lib.hid (HY.out.fr F3.out (by simp))
  replace F0 := Lib.hid (F0.out.trans F3.out)
  clear F3
  have hr := HY.out
  have q2 := HQ.out.c2
  go_upto_region 3 with (first
    | (refine wpList_load_row rfl _ _ rfl (w.heap.size + 1 + 1) rfl 57 _ (0, 0) _ hr Try.underlying57 rfl (by kernel_rfl) ?_)
    | (go_at_call 23; refine (HCY.out _).mono ?_; rintro e w4 ⟨rfl, f3⟩; have F3 := Lib.hid f3; clear f3))
  clear hr q2 HCY
  replace HX := Lib.hid (HX.out.fr F3.out (by simp))
  replace HY := Lib.hid (HY.out.fr F3.out (by simp))
  replace F0 := Lib.hid (F0.out.trans F3.out)
  clear F3 HQ
  have x1 : w4.cell? ⟨w.heap.size + 1, 1, none⟩ = some (.int .i64 x.k) := HX.out.cell 1
  have y1 : w4.cell? ⟨w.heap.size + 1 + 1, 1, none⟩ = some (.int .i64 y.k) := HY.out.cell 1
  by_cases e1 : v < u
  · have HO : Hid (o = true) := Lib.hid (by rw [← HRES.out]; simp [e1])
    go_wp2_with fail
    go_ret
    exact ⟨by rw [HO.out]; rfl, F0.out⟩
  · by_cases e2 : u = v
    · subst e2
      have e1' : decide (u < u) = false := by simp
      clear e1
      by_cases e3 : x.k < y.k
      · have HO : Hid (o = true) := Lib.hid (by rw [← HRES.out]; simp [e3])
        go_wp2_with fail
        go_ret
        exact ⟨by rw [HO.out]; rfl, F0.out⟩
      · have HO : Hid (o = false) := Lib.hid (by rw [← HRES.out]; simp [e3])
        have e3' : decide (x.k < y.k) = false := decide_eq_false e3
        go_wp2_with fail
        go_ret
        exact ⟨by rw [HO.out]; rfl, F0.out⟩
    · have HO : Hid (o = false) := Lib.hid (by rw [← HRES.out]; simp [e1, e2])
      have e1' : decide (v < u) = false := decide_eq_false e1
      have e2' : (u == v) = false := by simpa using e2
      clear e2
      go_wp2_with fail
      go_ret
      exact ⟨by rw [HO.out]; rfl, F0.out⟩

set_option maxRecDepth 100000 in
theorem rless_min (a b : Int) (w : World) : Calls Try.prog 66 #[.int .i64 1, .int .i64 a, .int .i64 b] w fun e' w' => e' = .returned (.bool (Pm.better 5 a b)) ∧ w = w' := by
  have HB : Hid (Pm.better 5 a b = decide (a < b)) := Lib.hid (by unfold Pm.better; rw [if_pos rfl])
  rw [HB.out]
  go_enter Try.func66, Try.ntmps66
  go_wp2_with fail
  go_ret
  exact ⟨rfl, rfl⟩
set_option maxRecDepth 100000 in
theorem rless_max (a b : Int) (w : World) : Calls Try.prog 66 #[.int .i64 (-1), .int .i64 a, .int .i64 b] w fun e' w' => e' = .returned (.bool (Pm.better 6 a b)) ∧ w = w' := by
  have HB : Hid (Pm.better 6 a b = decide (b < a)) := Lib.hid (by unfold Pm.better; rw [if_neg (by decide)])
  rw [HB.out]
  go_enter Try.func66, Try.ntmps66
  go_wp2_with fail
  go_ret
  exact ⟨rfl, rfl⟩

end Go.Proofs.Ytjiikpmkedkbkaa
namespace Go.Proofs.Ytjiikpmkedkbkaa
open Go

section
variable {P : Program} {md : Region.Mode} {ops : Array Oper} {Q : Exit → Act → World → Prop} {S : World → Prop}
/-- Two operations may come up: each is carried out, S shown anew. -/
theorem wpHead_two {n i j : Nat} {oi oj : Oper} {f : Nat} {done : Array Bool} {a : Act} {w : World} (hoi : ops[i]? = some oi) (hoj : ops[j]? = some oj) (hr : Region.ready md ops done = [i, j]) (hin : i < n) (hjn : j < n)
    (h1 : ∀ K' : Act → World → Prop, Shut (∀ a w, S w → (S w → wpHead P md ops Q S n f (done.setIfInBounds i true) a w) → K' a w) → if Region.wanted oi (yielded ops a.tmps) = true then Oper.wp P oi a w K' Q else K' (a.put oi.dst undef) w)
    (h2 : ∀ K' : Act → World → Prop, Shut (∀ a w, S w → (S w → wpHead P md ops Q S n f (done.setIfInBounds j true) a w) → K' a w) → if Region.wanted oj (yielded ops a.tmps) = true then Oper.wp P oj a w K' Q else K' (a.put oj.dst undef) w) :
    wpHead P md ops Q S n (f + 1) done a w := fun inv => by
  refine ⟨by rw [hr]; simp, fun k hk => ?_⟩
  have hk' : k = i ∨ k = j := by rw [hr] at hk; simpa using hk
  rcases hk' with hk' | hk'
  · subst hk'
    exact ⟨hin, wpOp_step hoi (fun K' hK => h1 K' (fun a w hS hW => hK a w ⟨hS, hW hS (inv.set hk hin)⟩))⟩
  · subst hk'
    exact ⟨hjn, wpOp_step hoj (fun K' hK => h2 K' (fun a w hS hW => hK a w ⟨hS, hW hS (inv.set hk hjn)⟩))⟩
end
end Go.Proofs.Ytjiikpmkedkbkaa
