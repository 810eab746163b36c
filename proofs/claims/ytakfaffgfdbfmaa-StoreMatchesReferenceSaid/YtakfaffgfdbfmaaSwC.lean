/-
  law 04's log: at most 30 records that integers determine.
-/
import Derived.Test.YtakfaffgfdbfmaaLgB
namespace Go.Proofs.Ytakfaffgfdbfmaa
open Go.RowKit

set_option maxRecDepth 100000 in
theorem log4_any (A : Option Addr) (n cap : Nat) (w : World) (hn : n ≤ cap) (hcap : cap ≤ maxLen) (hx : n = 0 ∨ ∃ bx ox, A = some ⟨bx, ox, none⟩ ∧ SixAt w bx ox n) :
    Calls Try.prog 12 #[.slice A n cap] w fun e w' => ∃ (vo : Value) (out : List Rec), e = .returned vo ∧ OwnR w' vo out ∧ Lg.Ok out ∧ out.length ≤ 30 ∧ Fr [] w w' ∧ ∀ g, vo.ownBlock = some g → w.heap.size ≤ g := by
  have hm : (2 : Nat) ^ 47 ≤ maxLen := by decide
  have HL := Lib.hid (fun (m : Nat) (hm : m ≤ 30) (h : m ≤ n) => (log_any A m cap w (by omega) (by
    rcases hx with h0 | ⟨bx, ox, h1, h2⟩
    · exact .inl (by omega)
    · exact .inr ⟨bx, ox, h1, h2.le h⟩)))
  clear hx
  have hb : cap < 9223372036854775808 := by simp only [maxLen] at hcap; omega
  go_enter Try.func12, Try.ntmps12
  by_cases h30 : n ≤ 30
  · go_wp2_with fail
    refine (HL.out n h30 (Nat.le_refl _)).mono ?_
    rintro e w1 ⟨vo, out, rfl, h1, h2, h3, h4, h5⟩
    go_wp2_with fail
    go_ret
    exact ⟨vo, out, rfl, h1, h2, by omega, h4, h5⟩
  · go_wp2_with fail
    refine (HL.out 30 (by decide) (by omega)).mono ?_
    rintro e w1 ⟨vo, out, rfl, h1, h2, h3, h4, h5⟩
    go_wp2_with fail
    go_ret
    exact ⟨vo, out, rfl, h1, h2, h3, h4, h5⟩
end Go.Proofs.Ytakfaffgfdbfmaa
