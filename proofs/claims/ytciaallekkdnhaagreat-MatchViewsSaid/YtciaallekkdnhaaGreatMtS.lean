/-
  Law 08: pick; a change's record; the reference's Same.
-/
import Derived.Test.YtciaallekkdnhaaGreatMtR
namespace Go.Proofs.YtciaallekkdnhaaGreat
open Go.RowKit

def Mm.pick (c n : Int) : Int := if c < 0 then -(c + 1) % n else c % n
set_option maxRecDepth 100000 in
set_option maxHeartbeats 4000000 in
theorem rsame8_any (A1 A2 : Option Addr) (N1 N2 c1 c2 : Nat) (L1 L2 : List Int) (w : World) (h1 : AtL encJ 1 w A1 L1) (h2 : AtL encJ 1 w A2 L2) (n1 : N1 = L1.length) (n2 : N2 = L2.length) (hl : N1 ≤ 1000000) :
    Calls Tryz.prog 21 #[.slice A1 N1 c1, .slice A2 N2 c2] w fun e w' => e = .returned (.bool (decide (L1 = L2))) ∧ Fr [] w w' := by
  have H1 := Lib.hid h1
  have H2 := Lib.hid h2
  have HN1 := Lib.hid n1
  have HN2 := Lib.hid n2
  clear h1 h2 n1 n2
  by_cases hn : N1 = N2
  · subst hn
    go_enter Tryz.func21, Tryz.ntmps21
    go_wp2
    go_loopw [5] (fun p wr => ∃ q : Nat, p = .int .i64 q ∧ q ≤ N1 ∧ Hid (L1.take q = L2.take q) ∧ Hid (Fr [] w wr)) (fun p _ => N1 - (intOf p).toNat)
    case atStart => exact ⟨0, rfl, by omega, Lib.hid (by simp), Lib.hid (Fr.refl _ _)⟩
    case round =>
      obtain ⟨q, rfl, hq, HT, HF⟩ := hrel
      by_cases h4 : q < N1
      · have h4' : (q : Int) < (N1 : Int) := by omega
        have q1 : q < L1.length := by rw [← HN1.out]; exact h4
        have q2 : q < L2.length := by rw [← HN2.out]; exact h4
        obtain ⟨b1, o1, e1, -, d1⟩ := (H1.out.fr0 HF.out).int q1
        obtain ⟨b2, o2, e2, -, d2⟩ := (H2.out.fr0 HF.out).int q2
        subst e1 e2
        have HG1 := Lib.hid (take_snoc q1).1
        have HG2 := Lib.hid (take_snoc q2).1
        obtain ⟨x, hx⟩ : ∃ x, x = L1[q] := ⟨_, rfl⟩
        obtain ⟨y, hy⟩ : ∃ y, y = L2[q] := ⟨_, rfl⟩
        rw [← hx] at d1 HG1
        rw [← hy] at d2 HG2
        have HX := Lib.hid hx
        have HY := Lib.hid hy
        clear hx hy
        by_cases hxy : x = y
        · subst hxy
          go_wp2_with fail
          go_region
          go_wp2
          go_roundw
          case rel => exact ⟨q + 1, by go_num, by omega, Lib.hid (by rw [HG1.out, HG2.out, HT.out]), Lib.hid (HF.out.trans ((Fr.refl [] wr).drew))⟩
          case measure => simp [intOf]; omega
        · have hxy' : (x != y) = true := by simpa using hxy
          have HXY := Lib.hid hxy
          go_wp2_with fail
          go_region
          go_wp2
          go_ret
          have hne : ¬ L1 = L2 := fun e => HXY.out (by subst e; rw [HX.out, HY.out])
          exact ⟨by rw [decide_eq_false hne]; rfl, HF.out.trans ((Fr.refl [] wr).drew)⟩
      · have hqN : q = N1 := by omega
        have hqn : (q : Int) = (N1 : Int) := by omega
        go_wp2
        go_ret
        have h := HT.out
        rw [hqN] at h
        have e : L1 = L2 := by
          rw [← List.take_length (l := L1), ← List.take_length (l := L2), ← HN1.out, ← HN2.out]
          exact h
        exact ⟨by rw [decide_eq_true e]; rfl, HF.out⟩
  · have hn' : ((N1 : Int) != (N2 : Int)) = true := by simp; omega
    have HNN := Lib.hid hn
    clear hn
    go_enter Tryz.func21, Tryz.ntmps21
    go_wp2
    go_ret
    exact ⟨by rw [decide_eq_false (fun e => HNN.out (by rw [HN1.out, HN2.out, e]))]; rfl, Fr.refl _ _⟩
end Go.Proofs.YtciaallekkdnhaaGreat
