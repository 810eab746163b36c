/-
  Reference 07: In, measure, before, less, Touches.
-/
import Derived.Test.YtjiikpmkedkbkaaGaj
import Derived.Test.YtjiikpmkedkbkaaGag
import Derived.Test.YtjiikpmkedkbkaaGak
import Derived.Deep.DeepCutAuto
import Derived.StillTailTactics
namespace Go.Proofs.Ytjiikpmkedkbkaa
open Go.RowKit

namespace Pm
/-- The row before or behind a change, zero if there is none. -/
def rowB (c : Chg) : RowV := if c.had = true then ⟨c.t, c.k, c.o0, c.o1, c.o2⟩ else ⟨0, 0, 0, 0, 0⟩
def rowA (c : Chg) : RowV := if c.has = true then ⟨c.t, c.k, c.n0, c.n1, c.n2⟩ else ⟨0, 0, 0, 0, 0⟩
theorem inB (q : Qry) (c : Chg) : (c.had && inq q (rowB c)) = (B q c).isSome := by
  unfold B sc bef rowB
  cases c.had with
  | false => rfl
  | true =>
    rw [if_pos rfl, if_pos rfl]
    cases h : inq q ⟨c.t, c.k, c.o0, c.o1, c.o2⟩ <;> simp [Option.filter, h]
theorem inA (q : Qry) (c : Chg) : (c.has && inq q (rowA c)) = (A q c).isSome := by
  unfold A sc aft rowA
  cases c.has with
  | false => rfl
  | true =>
    rw [if_pos rfl, if_pos rfl]
    cases h : inq q ⟨c.t, c.k, c.n0, c.n1, c.n2⟩ <;> simp [Option.filter, h]
theorem B_some {q : Qry} {c : Chg} {b : RowV} (h : B q c = some b) : b = rowB c := by
  unfold B sc bef at h
  unfold rowB
  cases hh : c.had with
  | false => rw [hh] at h; cases h
  | true =>
    rw [hh, if_pos rfl] at h
    rw [if_pos rfl]
    cases hi : inq q ⟨c.t, c.k, c.o0, c.o1, c.o2⟩ <;> simp [Option.filter, hi] at h
    exact h.symm
theorem A_some {q : Qry} {c : Chg} {b : RowV} (h : A q c = some b) : b = rowA c := by
  unfold A sc aft at h
  unfold rowA
  cases hh : c.has with
  | false => rw [hh] at h; cases h
  | true =>
    rw [hh, if_pos rfl] at h
    rw [if_pos rfl]
    cases hi : inq q ⟨c.t, c.k, c.n0, c.n1, c.n2⟩ <;> simp [Option.filter, hi] at h
    exact h.symm
theorem mB (q : Qry) (c : Chg) : (if (B q c).isSome = true then (rowB c).value q.by_ else 0) = old q c := by
  unfold old
  cases h : B q c with
  | none => rfl
  | some b => rw [B_some h]; rfl
theorem mA (q : Qry) (c : Chg) : (if (A q c).isSome = true then (rowA c).value q.by_ else 0) = now q c := by
  unfold now
  cases h : A q c with
  | none => rfl
  | some b => rw [A_some h]; rfl
end Pm
theorem rhad_row (c : Chg) (w : World) : Calls Try.prog 21 #[c.val] w fun e w' => e = .returned (.tuple #[(Pm.rowB c).val, .bool c.had]) ∧ Fr [] w w' := by
  have h := rfBefore_any c w
  have e : (if c.had = true then rowVal c.t c.k c.o0 c.o1 c.o2 else rowVal 0 0 0 0 0) = (Pm.rowB c).val := by
    unfold Pm.rowB
    split <;> rfl
  rw [e] at h
  exact h
theorem rhas_row (c : Chg) (w : World) : Calls Try.prog 22 #[c.val] w fun e w' => e = .returned (.tuple #[(Pm.rowA c).val, .bool c.has]) ∧ Fr [] w w' := by
  have h := rfAfter_any c w
  have e : (if c.has = true then rowVal c.t c.k c.n0 c.n1 c.n2 else rowVal 0 0 0 0 0) = (Pm.rowA c).val := by
    unfold Pm.rowA
    split <;> rfl
  rw [e] at h
  exact h
end Go.Proofs.Ytjiikpmkedkbkaa
namespace Go.Proofs.Ytjiikpmkedkbkaa
open Go.RowKit

theorem Em.valid_base {q : Qry} (h : Em.base q = false) : Em.valid q = false := by
  unfold Em.valid
  rw [h]
  simp
theorem rwithin_any (n a b : Int) (w : World) : Calls Try.prog 47 #[.int .i64 n, .int .i64 a, .int .i64 b] w fun e w' => e = .returned (.bool (Em.within n a b)) ∧ w = w' := by
  go_enter Try.func47, Try.ntmps47
  by_cases h1 : a ≤ n
  · by_cases h2 : n ≤ b
    · go_wp2
      go_ret
      simp [Em.within, h1, h2]
    · go_wp2
      go_ret
      simp [Em.within, h1, h2]
  · have e : Em.within n a b = false := by simp [Em.within, h1]
    have E := Lib.hid e
    clear e
    go_wp2
    go_ret
    rw [E.out]
    exact ⟨rfl, rfl⟩
set_option maxRecDepth 100000 in
set_option maxHeartbeats 4000000 in
theorem rvalid_any (q : Qry) (w : World) : Calls Try.prog 25 #[q.val] w fun e w' => e = .returned (.bool (Em.valid q)) ∧ Fr [] w w' := by
  have F0 : Hid (Fr [] w (w.alloc (.cells #[.int .i64 q.kind, .int .i64 q.table, .int .i64 q.column, .int .i64 q.low, .int .i64 q.high, .int .i64 q.by_, .int .i64 q.other] 24))) := Lib.hid ((Fr.refl _ _).alloc _)
  have HB := Lib.hid (QAt.new w q)
  have HW := Lib.hid rwithin_any
  obtain ⟨k, t, c, lo, hi, b, o⟩ := q
  unfold Qry.val
  dsimp only at *
  have c0 := HB.out.c0
  have c1 := HB.out.c1
  have c2 := HB.out.c2
  have c3 := HB.out.c3
  have c4 := HB.out.c4
  have c5 := HB.out.c5
  have c6 := HB.out.c6
  dsimp only at c0 c1 c2 c3 c4 c5 c6
  go_enter Try.func25, Try.ntmps25
  go_upto_region 1 with (fail)
  generalize w.alloc (.cells #[.int .i64 k, .int .i64 t, .int .i64 c, .int .i64 lo, .int .i64 hi, .int .i64 b, .int .i64 o] 24) = w1 at *
  go_cut [37] (fun v wc => w1 = wc ∧ ∃ nb : Bool, v = .bool nb ∧ nb = !Em.base ⟨k, t, c, lo, hi, b, o⟩)
  case first =>
    go_wp2_with fail
    all_goals
      go_meet
      case rel => exact ⟨rfl, _, rfl, by rw [Bool.eq_iff_iff]; simp [Em.base, Em.within]; omega⟩
  case rest =>
    obtain ⟨rfl, nb, rfl, hnb⟩ := hcut
    cases nb
    case true =>
      have hbs : Em.base ⟨k, t, c, lo, hi, b, o⟩ = false := by simpa using hnb
      clear hnb
      have E : Hid (Em.valid ⟨k, t, c, lo, hi, b, o⟩ = false) := Lib.hid (Em.valid_base hbs)
      clear hbs
      go_wp2_with fail
      go_ret
      exact ⟨by rw [E.out]; rfl, F0.out⟩
    case false =>
      have hbs : Em.base ⟨k, t, c, lo, hi, b, o⟩ = true := by simpa using hnb
      clear hnb
      by_cases k1 : k = 1
      · subst k1
        cases h1 : Em.within lo 1 1000000
        · go_wp2_with (go_at_call 47; refine (HW.out _ _ _ _).mono ?_; rintro e w' ⟨rfl, rfl⟩)
          all_goals
            go_ret
            exact ⟨by simp_all [Em.valid] <;> rfl, F0.out⟩
        · skip
          go_wp2_with (go_at_call 47; refine (HW.out _ _ _ _).mono ?_; rintro e w' ⟨rfl, rfl⟩)
          all_goals
            go_ret
            exact ⟨by simp_all [Em.valid] <;> rfl, F0.out⟩
      · skip
        by_cases k2 : k = 2
        · subst k2
          go_wp2_with (go_at_call 47; refine (HW.out _ _ _ _).mono ?_; rintro e w' ⟨rfl, rfl⟩)
          all_goals
            go_ret
            exact ⟨by simp_all [Em.valid] <;> rfl, F0.out⟩
        · skip
          by_cases k3 : k = 3
          · subst k3
            go_wp2_with (go_at_call 47; refine (HW.out _ _ _ _).mono ?_; rintro e w' ⟨rfl, rfl⟩)
            all_goals
              go_ret
              exact ⟨by simp_all [Em.valid] <;> rfl, F0.out⟩
          · skip
            by_cases k4 : k = 4
            · subst k4
              cases h3 : Em.within b 1 3
              · go_wp2_with (go_at_call 47; refine (HW.out _ _ _ _).mono ?_; rintro e w' ⟨rfl, rfl⟩)
                all_goals
                  go_ret
                  exact ⟨by simp_all [Em.valid] <;> rfl, F0.out⟩
              · skip
                go_wp2_with (go_at_call 47; refine (HW.out _ _ _ _).mono ?_; rintro e w' ⟨rfl, rfl⟩)
                all_goals
                  go_ret
                  exact ⟨by simp_all [Em.valid] <;> rfl, F0.out⟩
            · skip
              by_cases k5 : k = 5
              · subst k5
                cases h3 : Em.within b 1 3
                · go_wp2_with (go_at_call 47; refine (HW.out _ _ _ _).mono ?_; rintro e w' ⟨rfl, rfl⟩)
                  all_goals
                    go_ret
                    exact ⟨by simp_all [Em.valid] <;> rfl, F0.out⟩
                · skip
                  go_wp2_with (go_at_call 47; refine (HW.out _ _ _ _).mono ?_; rintro e w' ⟨rfl, rfl⟩)
                  all_goals
                    go_ret
                    exact ⟨by simp_all [Em.valid] <;> rfl, F0.out⟩
              · skip
                by_cases k6 : k = 6
                · subst k6
                  cases h3 : Em.within b 1 3
                  · go_wp2_with (go_at_call 47; refine (HW.out _ _ _ _).mono ?_; rintro e w' ⟨rfl, rfl⟩)
                    all_goals
                      go_ret
                      exact ⟨by simp_all [Em.valid] <;> rfl, F0.out⟩
                  · skip
                    go_wp2_with (go_at_call 47; refine (HW.out _ _ _ _).mono ?_; rintro e w' ⟨rfl, rfl⟩)
                    all_goals
                      go_ret
                      exact ⟨by simp_all [Em.valid] <;> rfl, F0.out⟩
                · skip
                  by_cases k7 : k = 7
                  · subst k7
                    cases h3 : Em.within b 1 3
                    · go_wp2_with (go_at_call 47; refine (HW.out _ _ _ _).mono ?_; rintro e w' ⟨rfl, rfl⟩)
                      all_goals
                        go_ret
                        exact ⟨by simp_all [Em.valid] <;> rfl, F0.out⟩
                    · skip
                      cases h2 : Em.within o 0 3
                      · go_wp2_with (go_at_call 47; refine (HW.out _ _ _ _).mono ?_; rintro e w' ⟨rfl, rfl⟩)
                        all_goals
                          go_ret
                          exact ⟨by simp_all [Em.valid] <;> rfl, F0.out⟩
                      · skip
                        go_wp2_with (go_at_call 47; refine (HW.out _ _ _ _).mono ?_; rintro e w' ⟨rfl, rfl⟩)
                        all_goals
                          go_ret
                          exact ⟨by simp_all [Em.valid] <;> rfl, F0.out⟩
                  · skip
                    have e1 : (k == 1) = false := by simp [k1]
                    have e2 : (k == 2) = false := by simp [k2]
                    have e3 : (k == 3) = false := by simp [k3]
                    have e4 : (k == 4) = false := by simp [k4]
                    have e5 : (k == 5) = false := by simp [k5]
                    have e6 : (k == 6) = false := by simp [k6]
                    have e7 : (k == 7) = false := by simp [k7]
                    go_wp2_with (go_at_call 47; refine (HW.out _ _ _ _).mono ?_; rintro e w' ⟨rfl, rfl⟩)
                    all_goals
                      go_ret
                      exact ⟨by simp_all [Em.valid] <;> rfl, F0.out⟩
end Go.Proofs.Ytjiikpmkedkbkaa
namespace Go.Proofs.Ytjiikpmkedkbkaa
open Go.RowKit

set_option maxRecDepth 100000 in
set_option maxHeartbeats 1000000 in
theorem rin_any (q : Qry) (r : RowV) (e : Bool) (w : World) : Calls Try.prog 31 #[q.val, r.val, .bool e] w fun e' w' => e' = .returned (.bool (e && Pm.inq q r)) ∧ Fr [] w w' := by
  have F0 : Hid (Fr [] w ((w.alloc (.cells #[.int .i64 q.kind, .int .i64 q.table, .int .i64 q.column, .int .i64 q.low, .int .i64 q.high, .int .i64 q.by_, .int .i64 q.other] 24)).alloc (.cells #[.int .i64 r.t, .int .i64 r.k, .int .i64 r.x, .int .i64 r.y, .int .i64 r.z] 57))) := Lib.hid (((Fr.refl [] w).alloc _).alloc _)
  have HQ : Hid (QAt ((w.alloc (.cells #[.int .i64 q.kind, .int .i64 q.table, .int .i64 q.column, .int .i64 q.low, .int .i64 q.high, .int .i64 q.by_, .int .i64 q.other] 24)).alloc (.cells #[.int .i64 r.t, .int .i64 r.k, .int .i64 r.x, .int .i64 r.y, .int .i64 r.z] 57)) w.heap.size q) := Lib.hid (Blk.alloc (QAt.new w q) _)
  have hb := Blk.new (w.alloc (.cells #[.int .i64 q.kind, .int .i64 q.table, .int .i64 q.column, .int .i64 q.low, .int .i64 q.high, .int .i64 q.by_, .int .i64 q.other] 24)) 57 #[.int .i64 r.t, .int .i64 r.k, .int .i64 r.x, .int .i64 r.y, .int .i64 r.z]
  rw [World.size_alloc] at hb
  have HR : Hid (Blk ((w.alloc (.cells #[.int .i64 q.kind, .int .i64 q.table, .int .i64 q.column, .int .i64 q.low, .int .i64 q.high, .int .i64 q.by_, .int .i64 q.other] 24)).alloc (.cells #[.int .i64 r.t, .int .i64 r.k, .int .i64 r.x, .int .i64 r.y, .int .i64 r.z] 57)) (w.heap.size + 1) 57 #[.int .i64 r.t, .int .i64 r.k, .int .i64 r.x, .int .i64 r.y, .int .i64 r.z]) := Lib.hid hb
  clear hb
  obtain ⟨v, HV⟩ : ∃ v, Hid (r.value q.column = v) := ⟨_, Lib.hid rfl⟩
  have HC := Lib.hid (fun W => rfValue_any r q.column W)
  rw [HV.out] at HC
  have HI : Hid (Pm.inq q r = (decide (r.t = q.table) && (decide (q.low ≤ v) && decide (v ≤ q.high)))) := Lib.hid (by rw [← HV.out]; rfl)
  obtain ⟨o, HRES⟩ : ∃ o, Hid ((e && Pm.inq q r) = o) := ⟨_, Lib.hid rfl⟩
  rw [HRES.out]
  rw [HI.out] at HRES
  go_enter Try.func31, Try.ntmps31
  go_upto_region 1 with (fail)
  generalize ((w.alloc (.cells #[.int .i64 q.kind, .int .i64 q.table, .int .i64 q.column, .int .i64 q.low, .int .i64 q.high, .int .i64 q.by_, .int .i64 q.other] 24)).alloc (.cells #[.int .i64 r.t, .int .i64 r.k, .int .i64 r.x, .int .i64 r.y, .int .i64 r.z] 57)) = w2 at *
  have hr := HR.out
  have q2 := HQ.out.c2
  go_upto_region 2 with (first
    | (refine wpList_load_row rfl _ _ rfl (w.heap.size + 1) rfl 57 _ (0, 0) _ hr Try.underlying57 rfl (by kernel_rfl) ?_)
    | (go_at_call 23; refine (HC.out _).mono ?_; rintro e w3 ⟨rfl, f3⟩; have F3 := Lib.hid f3; clear f3))
  clear hr q2 HC HI HV
  replace F0 := Lib.hid (F0.out.trans F3.out)
  have q1 := (HQ.out.fr F3.out (by simp)).c1
  have q3 := (HQ.out.fr F3.out (by simp)).c3
  have q4 := (HQ.out.fr F3.out (by simp)).c4
  have r0 := (HR.out.fr F3.out (by simp)).cell 0
  have r0 : w3.cell? ⟨w.heap.size + 1, 0, none⟩ = some (.int .i64 r.t) := r0
  clear F3 HQ HR
  cases e
  · have HO : Hid (o = false) := Lib.hid (by rw [← HRES.out]; rfl)
    go_wp2_with fail
    go_ret
    exact ⟨by rw [HO.out]; rfl, F0.out⟩
  · by_cases e1 : r.t = q.table
    · have e1' : (r.t == q.table) = true := by simpa using e1
      by_cases e2 : q.low ≤ v
      · by_cases e3 : v ≤ q.high
        · have HO : Hid (o = true) := Lib.hid (by rw [← HRES.out]; simp [e1, e2, e3])
          clear e1
          go_wp2_with fail
          go_ret
          exact ⟨by rw [HO.out]; rfl, F0.out⟩
        · have HO : Hid (o = false) := Lib.hid (by rw [← HRES.out]; simp [e1, e2, e3])
          have e3' : decide (v ≤ q.high) = false := decide_eq_false e3
          clear e1
          go_wp2_with fail
          go_ret
          exact ⟨by rw [HO.out]; rfl, F0.out⟩
      · have HO : Hid (o = false) := Lib.hid (by rw [← HRES.out]; simp [e1, e2])
        have e2' : decide (q.low ≤ v) = false := decide_eq_false e2
        clear e1
        go_wp2_with fail
        go_ret
        exact ⟨by rw [HO.out]; rfl, F0.out⟩
    · have HO : Hid (o = false) := Lib.hid (by rw [← HRES.out]; simp [e1])
      have e1' : (r.t == q.table) = false := by simpa using e1
      clear e1
      go_wp2_with fail
      go_ret
      exact ⟨by rw [HO.out]; rfl, F0.out⟩

set_option maxRecDepth 100000 in
set_option maxHeartbeats 1000000 in
theorem rmeasure_any (q : Qry) (r : RowV) (i : Bool) (w : World) : Calls Try.prog 33 #[q.val, r.val, .bool i] w fun e' w' => e' = .returned (.int .i64 (if i = true then r.value q.by_ else 0)) ∧ Fr [] w w' := by
  have F0 : Hid (Fr [] w ((w.alloc (.cells #[.int .i64 q.kind, .int .i64 q.table, .int .i64 q.column, .int .i64 q.low, .int .i64 q.high, .int .i64 q.by_, .int .i64 q.other] 24)).alloc (.cells #[.int .i64 r.t, .int .i64 r.k, .int .i64 r.x, .int .i64 r.y, .int .i64 r.z] 57))) := Lib.hid (((Fr.refl [] w).alloc _).alloc _)
  have HQ : Hid (QAt ((w.alloc (.cells #[.int .i64 q.kind, .int .i64 q.table, .int .i64 q.column, .int .i64 q.low, .int .i64 q.high, .int .i64 q.by_, .int .i64 q.other] 24)).alloc (.cells #[.int .i64 r.t, .int .i64 r.k, .int .i64 r.x, .int .i64 r.y, .int .i64 r.z] 57)) w.heap.size q) := Lib.hid (Blk.alloc (QAt.new w q) _)
  have hb := Blk.new (w.alloc (.cells #[.int .i64 q.kind, .int .i64 q.table, .int .i64 q.column, .int .i64 q.low, .int .i64 q.high, .int .i64 q.by_, .int .i64 q.other] 24)) 57 #[.int .i64 r.t, .int .i64 r.k, .int .i64 r.x, .int .i64 r.y, .int .i64 r.z]
  rw [World.size_alloc] at hb
  have HR : Hid (Blk ((w.alloc (.cells #[.int .i64 q.kind, .int .i64 q.table, .int .i64 q.column, .int .i64 q.low, .int .i64 q.high, .int .i64 q.by_, .int .i64 q.other] 24)).alloc (.cells #[.int .i64 r.t, .int .i64 r.k, .int .i64 r.x, .int .i64 r.y, .int .i64 r.z] 57)) (w.heap.size + 1) 57 #[.int .i64 r.t, .int .i64 r.k, .int .i64 r.x, .int .i64 r.y, .int .i64 r.z]) := Lib.hid hb
  clear hb
  obtain ⟨v, HV⟩ : ∃ v, Hid (r.value q.by_ = v) := ⟨_, Lib.hid rfl⟩
  have HC := Lib.hid (fun W => rfValue_any r q.by_ W)
  rw [HV.out] at HC ⊢
  clear HV
  obtain ⟨o, HRES⟩ : ∃ o, Hid ((if i = true then v else 0) = o) := ⟨_, Lib.hid rfl⟩
  rw [HRES.out]
  go_enter Try.func33, Try.ntmps33
  go_upto_region 1 with (fail)
  generalize ((w.alloc (.cells #[.int .i64 q.kind, .int .i64 q.table, .int .i64 q.column, .int .i64 q.low, .int .i64 q.high, .int .i64 q.by_, .int .i64 q.other] 24)).alloc (.cells #[.int .i64 r.t, .int .i64 r.k, .int .i64 r.x, .int .i64 r.y, .int .i64 r.z] 57)) = w2 at *
  cases i
  · have HO : Hid (o = 0) := Lib.hid (by rw [← HRES.out]; rfl)
    go_wp2_with fail
    go_ret
    exact ⟨by rw [HO.out]; rfl, F0.out⟩
  · have HO : Hid (o = v) := Lib.hid (by rw [← HRES.out]; rfl)
    have hr := HR.out
    have q5 := HQ.out.c5
    go_wp2_with (first
      | (refine wpList_load_row rfl _ _ rfl (w.heap.size + 1) rfl 57 _ (0, 0) _ hr Try.underlying57 rfl (by kernel_rfl) ?_)
      | (go_at_call 23; refine (HC.out _).mono ?_; rintro e w3 ⟨rfl, f3⟩; have F3 := Lib.hid f3; clear f3))
    go_ret
    exact ⟨by rw [HO.out]; rfl, F0.out.trans F3.out⟩

set_option maxRecDepth 100000 in
set_option maxHeartbeats 1000000 in
theorem rbefore_any (q : Qry) (x y : RowV) (w : World) : Calls Try.prog 65 #[q.val, x.val, y.val] w fun e' w' => e' = .returned (.bool (Pm.behind q x y)) ∧ Fr [] w w' := by
  have F0 : Hid (Fr [] w (((w.alloc (.cells #[.int .i64 q.kind, .int .i64 q.table, .int .i64 q.column, .int .i64 q.low, .int .i64 q.high, .int .i64 q.by_, .int .i64 q.other] 24)).alloc (.cells #[.int .i64 x.t, .int .i64 x.k, .int .i64 x.x, .int .i64 x.y, .int .i64 x.z] 57)).alloc (.cells #[.int .i64 y.t, .int .i64 y.k, .int .i64 y.x, .int .i64 y.y, .int .i64 y.z] 57))) := Lib.hid ((((Fr.refl [] w).alloc _).alloc _).alloc _)
  have HQ : Hid (QAt (((w.alloc (.cells #[.int .i64 q.kind, .int .i64 q.table, .int .i64 q.column, .int .i64 q.low, .int .i64 q.high, .int .i64 q.by_, .int .i64 q.other] 24)).alloc (.cells #[.int .i64 x.t, .int .i64 x.k, .int .i64 x.x, .int .i64 x.y, .int .i64 x.z] 57)).alloc (.cells #[.int .i64 y.t, .int .i64 y.k, .int .i64 y.x, .int .i64 y.y, .int .i64 y.z] 57)) w.heap.size q) := Lib.hid (Blk.alloc (Blk.alloc (QAt.new w q) _) _)
  have hb := Blk.new (w.alloc (.cells #[.int .i64 q.kind, .int .i64 q.table, .int .i64 q.column, .int .i64 q.low, .int .i64 q.high, .int .i64 q.by_, .int .i64 q.other] 24)) 57 #[.int .i64 x.t, .int .i64 x.k, .int .i64 x.x, .int .i64 x.y, .int .i64 x.z]
  rw [World.size_alloc] at hb
  have HX : Hid (Blk (((w.alloc (.cells #[.int .i64 q.kind, .int .i64 q.table, .int .i64 q.column, .int .i64 q.low, .int .i64 q.high, .int .i64 q.by_, .int .i64 q.other] 24)).alloc (.cells #[.int .i64 x.t, .int .i64 x.k, .int .i64 x.x, .int .i64 x.y, .int .i64 x.z] 57)).alloc (.cells #[.int .i64 y.t, .int .i64 y.k, .int .i64 y.x, .int .i64 y.y, .int .i64 y.z] 57)) (w.heap.size + 1) 57 #[.int .i64 x.t, .int .i64 x.k, .int .i64 x.x, .int .i64 x.y, .int .i64 x.z]) := Lib.hid (hb.alloc _)
  have hb2 := Blk.new ((w.alloc (.cells #[.int .i64 q.kind, .int .i64 q.table, .int .i64 q.column, .int .i64 q.low, .int .i64 q.high, .int .i64 q.by_, .int .i64 q.other] 24)).alloc (.cells #[.int .i64 x.t, .int .i64 x.k, .int .i64 x.x, .int .i64 x.y, .int .i64 x.z] 57)) 57 #[.int .i64 y.t, .int .i64 y.k, .int .i64 y.x, .int .i64 y.y, .int .i64 y.z]
  rw [World.size_alloc, World.size_alloc] at hb2
  have HY : Hid (Blk (((w.alloc (.cells #[.int .i64 q.kind, .int .i64 q.table, .int .i64 q.column, .int .i64 q.low, .int .i64 q.high, .int .i64 q.by_, .int .i64 q.other] 24)).alloc (.cells #[.int .i64 x.t, .int .i64 x.k, .int .i64 x.x, .int .i64 x.y, .int .i64 x.z] 57)).alloc (.cells #[.int .i64 y.t, .int .i64 y.k, .int .i64 y.x, .int .i64 y.y, .int .i64 y.z] 57)) (w.heap.size + 1 + 1) 57 #[.int .i64 y.t, .int .i64 y.k, .int .i64 y.x, .int .i64 y.y, .int .i64 y.z]) := Lib.hid hb2
  clear hb hb2
  obtain ⟨v, HV⟩ : ∃ v, Hid (x.value q.column = v) := ⟨_, Lib.hid rfl⟩
  obtain ⟨u, HU⟩ : ∃ v, Hid (y.value q.column = v) := ⟨_, Lib.hid rfl⟩
  have HCX := Lib.hid (fun W => rfValue_any x q.column W)
  rw [HV.out] at HCX
  have HCY := Lib.hid (fun W => rfValue_any y q.column W)
  rw [HU.out] at HCY
  have HI : Hid (Pm.behind q x y = (decide (v < u) || (decide (u = v) && decide (x.k < y.k)))) := Lib.hid (by rw [← HV.out, ← HU.out]; rfl)
  obtain ⟨o, HRES⟩ : ∃ o, Hid (Pm.behind q x y = o) := ⟨_, Lib.hid rfl⟩
  rw [HRES.out]
  rw [HI.out] at HRES
  clear HI HV HU
  go_enter Try.func65, Try.ntmps65
  go_upto_region 1 with (fail)
  generalize (((w.alloc (.cells #[.int .i64 q.kind, .int .i64 q.table, .int .i64 q.column, .int .i64 q.low, .int .i64 q.high, .int .i64 q.by_, .int .i64 q.other] 24)).alloc (.cells #[.int .i64 x.t, .int .i64 x.k, .int .i64 x.x, .int .i64 x.y, .int .i64 x.z] 57)).alloc (.cells #[.int .i64 y.t, .int .i64 y.k, .int .i64 y.x, .int .i64 y.y, .int .i64 y.z] 57)) = w2 at *
  have hr := HX.out
  have q2 := HQ.out.c2
  go_upto_region 2 with (first
    | (refine wpList_load_row rfl _ _ rfl (w.heap.size + 1) rfl 57 _ (0, 0) _ hr Try.underlying57 rfl (by kernel_rfl) ?_)
    | (go_at_call 23; refine (HCX.out _).mono ?_; rintro e w3 ⟨rfl, f3⟩; have F3 := Lib.hid f3; clear f3))
  clear hr q2 HCX
  replace HQ := Lib.hid (HQ.out.fr F3.out (by simp))
  replace HX := Lib.hid (HX.out.fr F3.out (by simp))
  replace HY := Lib.hid (HY.out.fr F3.out (by simp))
  replace F0 := Lib.hid (F0.out.trans F3.out)
  clear F3
  have hr := HY.out
  have q2 := HQ.out.c2
  go_upto_region 3 with (first
    | (refine wpList_load_row rfl _ _ rfl (w.heap.size + 1 + 1) rfl 57 _ (0, 0) _ hr Try.underlying57 rfl (by kernel_rfl) ?_)
    | (go_at_call 23; refine (HCY.out _).mono ?_; rintro e w4 ⟨rfl, f3⟩; have F3 := Lib.hid f3; clear f3))
  clear hr q2 HCY
  replace HX := Lib.hid (HX.out.fr F3.out (by simp))
  replace HY := Lib.hid (HY.out.fr F3.out (by simp))
  replace F0 := Lib.hid (F0.out.trans F3.out)
  clear F3 HQ
  have x1 : w4.cell? ⟨w.heap.size + 1, 1, none⟩ = some (.int .i64 x.k) := HX.out.cell 1
  have y1 : w4.cell? ⟨w.heap.size + 1 + 1, 1, none⟩ = some (.int .i64 y.k) := HY.out.cell 1
  by_cases e1 : v < u
  · have HO : Hid (o = true) := Lib.hid (by rw [← HRES.out]; simp [e1])
    go_wp2_with fail
    go_ret
    exact ⟨by rw [HO.out]; rfl, F0.out⟩
  · by_cases e2 : u = v
    · subst e2
      have e1' : decide (u < u) = false := by simp
      clear e1
      by_cases e3 : x.k < y.k
      · have HO : Hid (o = true) := Lib.hid (by rw [← HRES.out]; simp [e3])
        go_wp2_with fail
        go_ret
        exact ⟨by rw [HO.out]; rfl, F0.out⟩
      · have HO : Hid (o = false) := Lib.hid (by rw [← HRES.out]; simp [e3])
        have e3' : decide (x.k < y.k) = false := decide_eq_false e3
        go_wp2_with fail
        go_ret
        exact ⟨by rw [HO.out]; rfl, F0.out⟩
    · have HO : Hid (o = false) := Lib.hid (by rw [← HRES.out]; simp [e1, e2])
      have e1' : decide (v < u) = false := decide_eq_false e1
      have e2' : (u == v) = false := by simpa using e2
      clear e2
      go_wp2_with fail
      go_ret
      exact ⟨by rw [HO.out]; rfl, F0.out⟩

set_option maxRecDepth 100000 in
theorem rless_min (a b : Int) (w : World) : Calls Try.prog 66 #[.int .i64 1, .int .i64 a, .int .i64 b] w fun e' w' => e' = .returned (.bool (Pm.better 5 a b)) ∧ w = w' := by
  have HB : Hid (Pm.better 5 a b = decide (a < b)) := Lib.hid (by unfold Pm.better; rw [if_pos rfl])
  rw [HB.out]
  go_enter Try.func66, Try.ntmps66
  go_wp2_with fail
  go_ret
  exact ⟨rfl, rfl⟩
set_option maxRecDepth 100000 in
theorem rless_max (a b : Int) (w : World) : Calls Try.prog 66 #[.int .i64 (-1), .int .i64 a, .int .i64 b] w fun e' w' => e' = .returned (.bool (Pm.better 6 a b)) ∧ w = w' := by
  have HB : Hid (Pm.better 6 a b = decide (b < a)) := Lib.hid (by unfold Pm.better; rw [if_neg (by decide)])
  rw [HB.out]
  go_enter Try.func66, Try.ntmps66
  go_wp2_with fail
  go_ret
  exact ⟨rfl, rfl⟩

end Go.Proofs.Ytjiikpmkedkbkaa
