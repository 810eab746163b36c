/-
  The reference's At.
-/
import Derived.Test.YtlicjokgcahmlaaRfC
import Derived.Test.YtlicjokgcahmlaaStJ
namespace Go.Proofs.Ytlicjokgcahmlaa
open Go.RowKit

/-- At the head of each round of 'At'. -/
structure RfAtRel (w : World) (l : List Rec) (k : Nat) (wr : World) (b : Nat) : Prop where
  st : ∃ v L, RfAt wr b v L (Lg.run (l.take k)) ∧ ∀ g, v.ownBlock = some g → w.heap.size ≤ g
  fr : Fr [] w wr
  hb : w.heap.size ≤ b

set_option maxRecDepth 100000 in
set_option maxHeartbeats 2000000 in
theorem rfat_ok (A : Option Addr) (cap : Nat) (l : List Rec) (p : Nat) (w : World) (h : RecsAt w A l) (hl : l.length ≤ 1000) (hp : p ≤ l.length) (hok : ∀ i (h : i < l.length), i < p → Sm.fits (Lg.run (l.take i)) l[i] = true) :
    Calls Try.prog 21 #[.slice A l.length cap, .int .i64 p] w fun e w' => ∃ b v L, e = .returned (.tuple #[.pointer (some ⟨b, 0, none⟩), .int .i64 0]) ∧ RfAt w' b v L (Lg.run (l.take p)) ∧ Fr [] w w' ∧ w.heap.size ≤ b ∧ ∀ g, v.ownBlock = some g → w.heap.size ≤ g := by
  obtain ⟨us, hat, hus, hhc⟩ := h
  have hul : us.length = l.length := by rw [← hus, List.length_map]
  have HC := Lib.hid hhc
  have HAT := Lib.hid hat
  have HOK := Lib.hid hok
  clear hhc hat hok
  go_enter Try.func21, Try.ntmps21
  go_wp2_with fail
  refine (rfnew_any _).mono ?_
  rintro e w1 ⟨rfl, hnew, f1⟩
  have R0 : Hid (RfAtRel w l 0 w1 w.heap.size) := Lib.hid ⟨⟨_, _, hnew, fun g hg => by simp [Value.ownBlock] at hg⟩, f1, Nat.le_refl _⟩
  clear hnew f1
  generalize hb0 : w.heap.size = b at R0 ⊢
  have HB0 := Lib.hid hb0
  clear hb0
  go_wp2_with fail
  go_loopw [7] (fun i wr => ∃ k : Nat, i = .int .i64 k ∧ k ≤ p ∧ Hid (RfAtRel w l k wr b)) (fun i _ => p - (intOf i).toNat)
  case atStart => exact ⟨0, rfl, Nat.zero_le _, R0⟩
  case round =>
    clear R0
    obtain ⟨k, rfl, hk, R⟩ := hrel
    by_cases hlt : k < p
    · have hkl : k < l.length := by omega
      have hku : k < us.length := by omega
      have hck := HC.out us[k] (List.getElem_mem hku)
      have hcell : ∃ bb off, A = some ⟨bb, off, none⟩ ∧ wr.cell? ⟨bb, off + k * 2, none⟩ = some (.int .i64 us[k].r.p) ∧ wr.cell? ⟨bb, off + k * 2 + 1, none⟩ = some (.slice us[k].A us[k].r.cs.length us[k].cap) := by
        obtain ⟨bb, off, e, hbb, hc⟩ := HAT.out (by omega)
        refine ⟨bb, off, e, ?_, ?_⟩
        · rw [R.out.fr.cell (p := ⟨bb, off + k * 2, none⟩) hbb (by simp)]
          exact hc k hku 0 (by decide)
        · rw [R.out.fr.cell (p := ⟨bb, off + k * 2 + 1, none⟩) hbb (by simp)]
          exact hc k hku 1 (by decide)
      have hlk : us[k].r = l[k] := by subst hus; simp
      have hfit := Lib.hid (HOK.out k hkl hlt)
      have htk : Hid (Lg.run (l.take (k + 1)) = Sm.apply (Lg.run (l.take k)) l[k]) := Lib.hid (by rw [List.take_succ_eq_append_getElem hkl, Lg.run_snoc])
      rw [hlk] at hck hcell
      obtain ⟨bb, off, hA, hc0, hc1⟩ := hcell
      subst hA
      have hcode : Hid (Sm.code (Lg.run (l.take k)) l[k] = 0) := Lib.hid (Lg.code_zero.2 hfit.out)
      have HCK := Lib.hid hck
      clear hck hlk
      generalize us[k].A = Ak at *
      generalize us[k].cap = ck at *
      generalize l[k] = rk at *
      obtain ⟨v, L, hst, hvg⟩ := R.out.st
      have HVG := Lib.hid hvg
      clear hvg
      have F1 : Fr [] wr wr := Fr.refl _ _
      have hap := Lib.hid (rfapply_any b v L (Lg.run (l.take k)) rk Ak ck _ (hst.fr0 F1) (HCK.out.1.fr (R.out.fr.trans F1) NoC.nil) (Nat.le_trans HCK.out.2 (by decide)))
      clear hst
      go_wp2_with fail
      refine hap.out.mono ?_
      rintro e w2 ⟨rfl, v', L', hst, hf, hg⟩
      rw [hcode.out]
      have R2 : Hid (RfAtRel w l (k + 1) w2 b) := Lib.hid ⟨⟨v', L', by rw [htk.out]; exact hst, fun g h => by
        rcases hg g h with h1 | h1
        · exact HVG.out g h1
        · have h2 := R.out.fr.size
          have h3 := F1.size
          omega⟩, (R.out.fr.trans F1).trans' hf (fun i hi => .inr (by
        have h1 := R.out.hb
        simp only [List.mem_cons, List.not_mem_nil, or_false] at hi
        subst hi; omega)), R.out.hb⟩
      clear hst hf hap F1 hg
      go_wp2_with fail
      go_roundw
      case rel => exact ⟨k + 1, by go_num, by omega, R2⟩
      case measure => simp [intOf]; omega
    · have hkp : k = p := by omega
      subst hkp
      go_wp2_with fail
      go_ret2
      obtain ⟨v, L, hst, hvg⟩ := R.out.st
      exact ⟨b, v, L, rfl, hst, R.out.fr, R.out.hb, hvg⟩

theorem rfat_bad (A : Option Addr) (n cap : Nat) (p : Int) (w : World) (hn : n ≤ maxLen) (hp : p < 0 ∨ n < p) :
    Calls Try.prog 21 #[.slice A n cap, .int .i64 p] w fun e w' => e = .returned (.tuple #[.pointer none, .int .i64 40]) ∧ w = w' := by
  by_cases h : p < 0
  · go_enter Try.func21, Try.ntmps21
    go_wp2
    go_ret2
    exact ⟨rfl, rfl⟩
  · have h2 : (n : Int) < p := by omega
    go_enter Try.func21, Try.ntmps21
    go_wp2
    go_ret2
    exact ⟨rfl, rfl⟩
end Go.Proofs.Ytlicjokgcahmlaa
