/-
  Contracts of package gap: Highest, Announce, the nil receiver's Reset.
-/
import Derived.Test.YtfbhdmppddledaaGapA
namespace Go.Proofs.Ytfbhdmppddledaa
open Go.RowKit

theorem highest_nil (w : World) : Calls Try.prog 21 #[.pointer none] w fun e w' => e = .returned (.int .i64 0) ∧ w = w' := by
  go_enter Try.func21, Try.ntmps21
  go_wp2
  go_ret
  exact ⟨rfl, rfl⟩
theorem highest_any (b m : Nat) (c : Gm.Rcv) (w : World) (h : RcvAt w b m c) : Calls Try.prog 21 #[.pointer (some ⟨b, 0, none⟩)] w fun e w' => e = .returned (.int .i64 c.high) ∧ w = w' := by
  have h1 : w.cell? ⟨b, 1, none⟩ = some (.int .i64 c.high) := h.blk.cell 1
  go_enter Try.func21, Try.ntmps21
  go_wp2
  go_ret
  exact ⟨rfl, rfl⟩
theorem announce_nil (p : Int) (w : World) : Calls Try.prog 22 #[.pointer none, .int .i64 p] w fun e w' => e = .returned (.tuple #[]) ∧ w = w' := by
  go_enter Try.func22, Try.ntmps22
  go_wp2
  go_end0
  exact ⟨rfl, rfl⟩
theorem greset_nil (p : Int) (w : World) : Calls Try.prog 23 #[.pointer none, .int .i64 p] w fun e w' => e = .returned (.tuple #[]) ∧ w = w' := by
  go_enter Try.func23, Try.ntmps23
  go_wp2
  refine bodyPost_ret (results_none rfl _ _ _) rfl ?_
  exact ⟨rfl, rfl⟩
theorem announce_any (b m : Nat) (c : Gm.Rcv) (p : Int) (w : World) (h : RcvAt w b m c) : Calls Try.prog 22 #[.pointer (some ⟨b, 0, none⟩), .int .i64 p] w fun e w' => e = .returned (.tuple #[]) ∧ RcvAt w' b m (Gm.announce c p) ∧ Fr [b, m] w w' := by
  have h1 : w.cell? ⟨b, 1, none⟩ = some (.int .i64 c.high) := h.blk.cell 1
  have f1 : w.frozen? ⟨b, 1, none⟩ = false := h.blk.frozen 1
  by_cases hp : p ≤ 10000
  · have ha := h.ok.announce p
    have hx : Hid (Gm.announce c p = { c with high := Gm.mx c.high p }) := Lib.hid (if_pos hp)
    rw [hx.out] at ha
    have hmx : Hid (Gm.mx c.high p = if c.high < p then p else c.high) := Lib.hid rfl
    by_cases hlt : c.high < p
    · have e1 : Hid (Gm.mx c.high p = p) := Lib.hid (if_pos hlt)
      go_enter Try.func22, Try.ntmps22
      go_wp2
      go_end0
      rw [hx.out]
      rw [e1.out] at ha ⊢
      exact ⟨rfl, rcv_setHigh h _ ha, (Fr.refl _ _).setCell (.inl (by simp)) _⟩
    · have e1 : Hid (Gm.mx c.high p = c.high) := Lib.hid (if_neg hlt)
      go_enter Try.func22, Try.ntmps22
      go_wp2
      go_end0
      rw [hx.out]
      rw [e1.out] at ha ⊢
      exact ⟨rfl, rcv_setHigh h _ ha, (Fr.refl _ _).setCell (.inl (by simp)) _⟩
  · have hx : Hid (Gm.announce c p = c) := Lib.hid (if_neg hp)
    go_enter Try.func22, Try.ntmps22
    go_wp2
    go_end0
    rw [hx.out]
    exact ⟨rfl, h, Fr.refl _ _⟩
end Go.Proofs.Ytfbhdmppddledaa
