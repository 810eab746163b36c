/-
  'history' of law 20.
-/
import Derived.Test.YtldolhdgkbljlaaVouchG
import Derived.Test.YtldolhdgkbljlaaArr
import Derived.Deep.OwnRows
namespace Go.Proofs.Ytldolhdgkbljlaa
open Go.RowKit Go.WideShapes Go.ChangeShapes

/-- The position of the store at a time. -/
def hst (xs : List Int) : Nat → Int
  | 0 => 0
  | t + 1 => hst xs t + if t < xs.length then pickI (xs.getD t 0) 4 else 0
theorem hst_le (xs : List Int) (t : Nat) : 0 ≤ hst xs t ∧ hst xs t ≤ 3 * t := by
  induction t with
  | zero => exact ⟨Int.le_refl _, by simp [hst]⟩
  | succ t ih =>
    unfold hst
    have h1 := pickI_nonneg (xs.getD t 0) (show (1 : Int) ≤ 4 by decide)
    have h2 := pickI_lt (xs.getD t 0) (show (1 : Int) ≤ 4 by decide)
    split <;> omega
theorem hst_mono (xs : List Int) {s t : Nat} (h : s ≤ t) : hst xs s ≤ hst xs t := by
  induction t with
  | zero => have : s = 0 := by omega
            subst this; exact Int.le_refl _
  | succ t ih =>
    rcases Nat.lt_or_ge t s with h1 | h1
    · have : s = t + 1 := by omega
      subst this; exact Int.le_refl _
    · have h2 := ih h1
      have h3 := pickI_nonneg (xs.getD t 0) (show (1 : Int) ≤ 4 by decide)
      show hst xs s ≤ hst xs t + _
      split <;> omega
def hcells (xs : List Int) (k : Nat) : Nat → Value := fun j => .int .i64 (if j ≤ k then hst xs j else 0)

set_option maxRecDepth 100000 in
theorem history_any (A : Option Addr) (n cap : Nat) (xs : List Int) (w : World) (hn : xs.length = n) (hmax : n ≤ maxLen) (hx : n = 0 ∨ ∃ b off, A = some ⟨b, off, none⟩ ∧ IntsAt w b off xs) :
    Calls Try.prog 13 #[.slice A n cap] w fun e w' => e = .returned (.slice (some ⟨w.heap.size, 0, none⟩) 101 101) ∧ Blk w' w.heap.size 3 (arr 101 (hcells xs 100)) ∧ Fr [] w w' := by
  unfold maxLen at hmax
  have hmk : ∀ w : World, (Instr.makeSlice 22 (.int .i64 101) (.int .i64 101)).run Try.prog w = .ok (.slice (some ⟨w.heap.size, 0, none⟩) 101 101) (w.alloc (.cells (arr 101 (fun _ => .int .i64 0)) 3)) := fun w => by
    have := Go.run_make_row' (P := Try.prog) 22 3 (.int .i64 0) 8 Try.underlying22 (by kernel_rfl) rfl .i64 .i64 101 (by decide) (by decide) w
    rw [made_arr] at this
    exact this
  go_enter Try.func13, Try.ntmps13
  go_wp2_with fail
  go_loopw [4] (fun i wr => ∃ k : Nat, k ≤ 100 ∧ i = .int .i64 (k + 1 : Nat) ∧ Blk wr w.heap.size 3 (arr 101 (hcells xs k)) ∧ Fr [] w wr) (fun i _ => 200 - (intOf i).toNat)
  case atStart =>
    refine ⟨0, by omega, by simp, ?_, (Fr.refl _ _).alloc _⟩
    have := Blk.new w 3 (arr 101 (fun _ => .int .i64 0))
    rw [arr_congr (g := hcells xs 0) (fun i _ => by
      unfold hcells
      by_cases h : i ≤ 0
      · have : i = 0 := by omega
        subst this; rfl
      · rw [if_neg h])] at this ⊢
    exact this
  case round =>
    obtain ⟨k, hk, rfl, hb, hfr⟩ := hrel
    by_cases hlt : k < 100
    · have c0 : wr.cell? ⟨w.heap.size, k, none⟩ = some (.int .i64 (hst xs k)) := (hb.cell k).trans (by rw [arr_get (by omega)]; simp [hcells])
      have f1 := hb.frozen (k + 1)
      have c1 : wr.cell? ⟨w.heap.size, k + 1, none⟩ = some (.int .i64 0) := (hb.cell (k + 1)).trans (by rw [arr_get (by omega)]; simp [hcells]; intro h; omega)
      by_cases hs : k < n
      · obtain ⟨b, off, hA, hxs⟩ : ∃ b off, A = some ⟨b, off, none⟩ ∧ IntsAt w b off xs := by
          rcases hx with h0 | h0
          · omega
          · exact h0
        subst hA
        have hbw : b < w.heap.size := hxs.lt (by omega)
        obtain ⟨x, hxx⟩ : ∃ x, xs[k]'(by omega) = x := ⟨_, rfl⟩
        have hxw : -9223372036854775808 ≤ x ∧ x ≤ 9223372036854775807 := by
          have := hxs.wf (xs[k]'(by omega)) (List.getElem_mem _)
          rw [hxx] at this
          simpa [okI, Lit.wf, IntKind.min, IntKind.max, IntKind.signed, IntKind.bits] using this
        have HX := Lib.hid hxx
        clear hxx
        have b1 : (0 : Int) ≤ (k : Int) + 1 := by omega
        have b2 : (k : Int) + 1 < 101 := by omega
        have b3 : (0 : Int) ≤ (k : Int) := by omega
        have b4 : (k : Int) < (n : Int) := by omega
        go_wp2_with fail
        have hb5 := hb.set_ (k + 1) (.int .i64 (hst xs k))
        rw [arr_set] at hb5
        have F5 : Fr [] w (wr.setCell ⟨w.heap.size, k + 1, none⟩ (.int .i64 (hst xs k))) := hfr.setCell (.inr (Nat.le_refl _)) _
        clear c0 c1 f1
        generalize wr.setCell ⟨w.heap.size, k + 1, none⟩ (.int .i64 (hst xs k)) = w5 at hb5 F5 ⊢
        have cx := (hxs.fr F5).cell k (by omega)
        rw [HX.out] at cx
        have c1 : w5.cell? ⟨w.heap.size, k + 1, none⟩ = some (.int .i64 (hst xs k)) := (hb5.cell (k + 1)).trans (by rw [arr_get (by omega), if_pos rfl])
        have f1 := hb5.frozen (k + 1)
        have hh := hst_le xs k
        have hp1 := pickI_nonneg x (show (1 : Int) ≤ 4 by decide)
        have hp2 := pickI_lt x (show (1 : Int) ≤ 4 by decide)
        have q1 : IntKind.i64.wrap (k : Int) = (k : Int) := IntWalk.i64_in _ (by omega)
        have q2 : IntKind.i64.wrap (hst xs k + pickI x 4) = hst xs k + pickI x 4 := IntWalk.i64_in _ (by omega)
        go_still_tail 14, (by kernel_rfl)
        still_call ((pick_any x 4 _ hxw.1 hxw.2 (by decide) (by decide)).mono fun _ _ h => ⟨h.1, h.2.symm⟩)
        repeat still_step
        refine wpStill_nil ?_
        change wpList _ _ _ _ _ w5.drew
        go_wp2_with fail
        have hb6 := (hb5.set_ (k + 1) (.int .i64 (hst xs k + pickI x 4))).drew
        rw [arr_set, arr_congr (g := hcells xs (k + 1)) (fun i _ => by
          have hx' : xs.getD k 0 = x := by rw [List.getD_eq_getElem?_getD, List.getElem?_eq_getElem (show k < xs.length by omega)]; exact HX.out
          have hs1 : hst xs (k + 1) = hst xs k + pickI x 4 := by
            show hst xs k + _ = _
            rw [if_pos (by omega), hx']
          simp only [hcells]
          by_cases h : i = k + 1
          · subst h; rw [if_pos rfl, if_pos (Nat.le_refl _), hs1]
          · rw [if_neg h, if_neg h]
            by_cases h2 : i ≤ k
            · rw [if_pos h2, if_pos (by omega)]
            · rw [if_neg h2, if_neg (by omega)])] at hb6
        go_roundw
        case rel => exact ⟨k + 1, by omega, by go_num, hb6, (F5.setCell (.inr (Nat.le_refl _)) _).drew⟩
        case measure => simp [intOf]; omega
      · go_wp2_with fail
        have hb6 := hb.set_ (k + 1) (.int .i64 (hst xs k))
        rw [arr_set, arr_congr (g := hcells xs (k + 1)) (fun i _ => by
          have hs1 : hst xs (k + 1) = hst xs k := by
            show hst xs k + _ = _
            rw [if_neg (by omega), Int.add_zero]
          simp only [hcells]
          by_cases h : i = k + 1
          · subst h; rw [if_pos rfl, if_pos (Nat.le_refl _), hs1]
          · rw [if_neg h]
            by_cases h2 : i ≤ k
            · rw [if_pos h2, if_pos (by omega)]
            · rw [if_neg h2, if_neg (by omega)])] at hb6
        go_roundw
        case rel => exact ⟨k + 1, by omega, by go_num, hb6, hfr.setCell (.inr (Nat.le_refl _)) _⟩
        case measure => simp [intOf]; omega
    · have hk' : k = 100 := by omega
      subst hk'
      go_wp2_with fail
      go_ret
      exact ⟨rfl, hb, hfr⟩
end Go.Proofs.Ytldolhdgkbljlaa
