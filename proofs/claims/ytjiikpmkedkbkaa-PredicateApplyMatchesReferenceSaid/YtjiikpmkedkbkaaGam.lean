/-
  What effectOf computes.
-/
import Derived.Test.YtjiikpmkedkbkaaGak
import Derived.Test.YtjiikpmkedkbkaaGaj
namespace Go.Proofs.Ytjiikpmkedkbkaa
open Go.RowKit

/-- A pointer to a row of one's own, or nil. -/
def PtrR (w : World) (p : Option Addr) : Option RowV → Prop
  | some r => ∃ g, p = some ⟨g, 0, none⟩ ∧ Blk w g 57 r.cells.toArray
  | none => p = none
theorem PtrR.fr0 {w w' : World} {p : Option Addr} {o : Option RowV} (h : PtrR w p o) (hf : Fr [] w w') : PtrR w' p o := by
  cases o with
  | none => exact h
  | some r =>
    obtain ⟨g, e, hb⟩ := h
    exact ⟨g, e, hb.fr hf (by simp)⟩
set_option maxRecDepth 100000 in
set_option maxHeartbeats 4000000 in
theorem scanned_any (q : Qry) (r : RowV) (ok : Bool) (gq : Nat) (w : World) (hq : QAt w gq q) :
    Calls Try.prog 61 #[r.val, .bool ok, .pointer (some ⟨gq, 0, none⟩)] w fun e w' => ∃ p, e = .returned (.tuple #[.pointer p, .int .i64 (Pm.me q (Pm.sc q (if ok = true then some r else none)))]) ∧ PtrR w' p (Pm.sc q (if ok = true then some r else none)) ∧ Fr [] w w' := by
  obtain ⟨k, t, c, lo, hi, b, o⟩ := q
  obtain ⟨rt, rk, rx, ry, rz⟩ := r
  have HV := Lib.hid pval5
  have F0 : Hid (Fr [] w (w.alloc (.cells #[.int .i64 rt, .int .i64 rk, .int .i64 rx, .int .i64 ry, .int .i64 rz] 57))) := Lib.hid ((Fr.refl _ _).alloc _)
  have HQ := Lib.hid (hq.fr F0.out (by simp))
  have HB : Hid (Blk (w.alloc (.cells #[.int .i64 rt, .int .i64 rk, .int .i64 rx, .int .i64 ry, .int .i64 rz] 57)) w.heap.size 57 #[.int .i64 rt, .int .i64 rk, .int .i64 rx, .int .i64 ry, .int .i64 rz]) := Lib.hid (Blk.new _ _ _)
  obtain ⟨v, HVV⟩ : ∃ v, Hid (RowV.value ⟨rt, rk, rx, ry, rz⟩ c = v) := ⟨_, Lib.hid rfl⟩
  obtain ⟨m, HM⟩ : ∃ m, Hid (RowV.value ⟨rt, rk, rx, ry, rz⟩ b = m) := ⟨_, Lib.hid rfl⟩
  obtain ⟨so, hso⟩ : ∃ so, Pm.sc ⟨k, t, c, lo, hi, b, o⟩ (if ok = true then some ⟨rt, rk, rx, ry, rz⟩ else none) = so := ⟨_, rfl⟩
  rw [hso]
  have HSC : Hid (so = if (ok && (decide (rt = t) && (decide (lo ≤ v) && decide (v ≤ hi)))) = true then some ⟨rt, rk, rx, ry, rz⟩ else none) := Lib.hid (by
    rw [← HVV.out, ← hso]
    cases ok <;> simp [Pm.sc, Pm.inq, Option.filter])
  clear hso
  go_enter Try.func61, Try.ntmps61
  go_upto_region 1 with (fail)
  generalize w.alloc (.cells #[.int .i64 rt, .int .i64 rk, .int .i64 rx, .int .i64 ry, .int .i64 rz] 57) = w1 at *
  have b0 := HB.out.cell 0
  have b1 := HB.out.cell 1
  have b2 := HB.out.cell 2
  have b3 := HB.out.cell 3
  have b4 := HB.out.cell 4
  have c2 := HQ.out.c2
  dsimp only at c2
  go_upto_region 2 with (go_at_call 62; refine (HV.out _ _ _ _ _ _ _).mono ?_; rintro e w' ⟨rfl, rfl⟩; rw [HVV.out])
  have F1 : Hid (Fr [] w1 (w1.alloc (.cells #[.int .i64 rt, .int .i64 rk, .int .i64 rx, .int .i64 ry, .int .i64 rz] 57))) := Lib.hid ((Fr.refl _ _).alloc _)
  have HB1 := Lib.hid (HB.out.fr F1.out (by simp))
  have HQ1 := Lib.hid (HQ.out.fr F1.out (by simp))
  have F01 := Lib.hid (F0.out.trans F1.out)
  clear b0 b1 b2 b3 b4 c2 HB HQ F0 F1
  generalize w1.alloc (.cells #[.int .i64 rt, .int .i64 rk, .int .i64 rx, .int .i64 ry, .int .i64 rz] 57) = w2 at *
  have b0 := HB1.out.cell 0
  have b1 := HB1.out.cell 1
  have b2 := HB1.out.cell 2
  have b3 := HB1.out.cell 3
  have b4 := HB1.out.cell 4
  have c1 := HQ1.out.c1
  have c3 := HQ1.out.c3
  have c4 := HQ1.out.c4
  have c5 := HQ1.out.c5
  dsimp only at c1 c3 c4 c5
  by_cases hn : (ok && (decide (rt = t) && (decide (lo ≤ v) && decide (v ≤ hi)))) = true
  · have E : Hid (so = some ⟨rt, rk, rx, ry, rz⟩) := Lib.hid (by rw [HSC.out, if_pos hn])
    simp only [Bool.and_eq_true, decide_eq_true_eq] at hn
    obtain ⟨rfl, rfl, h3, h4⟩ := hn
    have h3' : ¬ v < lo := by omega
    have h4' : ¬ hi < v := by omega
    go_wp2_with (go_at_call 62; refine (HV.out _ _ _ _ _ _ _).mono ?_; rintro e w' ⟨rfl, rfl⟩; rw [HM.out])
    refine bodyPost_ret (v := .tuple #[.pointer (some ⟨w.heap.size, 0, none⟩), .int .i64 m]) (by simp [results, Try.results61, go_sem]) rfl ⟨some ⟨w.heap.size, 0, none⟩, ?_, ?_, F01.out.alloc _⟩
    · rw [E.out]
      simp only [Pm.me, HM.out]
    · rw [E.out]
      exact ⟨_, rfl, HB1.out.alloc _⟩
  · have E : Hid (so = none) := Lib.hid (by rw [HSC.out, if_neg hn])
    cases ok with
    | false =>
      go_wp2_with fail
      exact bodyPost_ret (v := .tuple #[.pointer none, .int .i64 0]) (by simp [results, Try.results61, go_sem]) rfl ⟨none, by rw [E.out]; rfl, by rw [E.out]; rfl, F01.out⟩
    | true =>
      by_cases h1 : rt = t
      · by_cases h3 : v < lo
        · go_wp2_with fail
          exact bodyPost_ret (v := .tuple #[.pointer none, .int .i64 0]) (by simp [results, Try.results61, go_sem]) rfl ⟨none, by rw [E.out]; rfl, by rw [E.out]; rfl, F01.out⟩
        · have h4 : hi < v := by
            simp [h1] at hn
            omega
          go_wp2_with fail
          exact bodyPost_ret (v := .tuple #[.pointer none, .int .i64 0]) (by simp [results, Try.results61, go_sem]) rfl ⟨none, by rw [E.out]; rfl, by rw [E.out]; rfl, F01.out⟩
      · go_wp2_with fail
        exact bodyPost_ret (v := .tuple #[.pointer none, .int .i64 0]) (by simp [results, Try.results61, go_sem]) rfl ⟨none, by rw [E.out]; rfl, by rw [E.out]; rfl, F01.out⟩
end Go.Proofs.Ytjiikpmkedkbkaa
