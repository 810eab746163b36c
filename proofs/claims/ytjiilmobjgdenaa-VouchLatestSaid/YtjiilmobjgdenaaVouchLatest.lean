/-
  VouchLatest holds.
-/
import Derived.Test.YtjiilmobjgdenaaVouchG
namespace Go.Proofs.Ytjiilmobjgdenaa
open Go.RowKit Go.WideShapes Go.ChangeShapes

/-- What becomes of the latest beat. -/
theorem Vm.latest_ways (c : Vm.Clk) (x y : Int) : ∃ a o lp lt L, Vm.beat c x y = ⟨a, o, lp, lt, L⟩ ∧
    ((0 ≤ x ∧ x ≤ 10000 ∧ 1 ≤ y ∧ y ≤ 1000000 ∧ c.lt < y ∧ lp = x ∧ lt = y) ∨ (0 ≤ x ∧ x ≤ 10000 ∧ 1 ≤ y ∧ y ≤ 1000000 ∧ c.lt = y ∧ c.lp < x ∧ lp = x ∧ lt = y) ∨
     (0 ≤ x ∧ x ≤ 10000 ∧ 1 ≤ y ∧ y ≤ 1000000 ∧ c.lt = y ∧ x ≤ c.lp ∧ lp = c.lp ∧ lt = c.lt) ∨ (0 ≤ x ∧ x ≤ 10000 ∧ 1 ≤ y ∧ y ≤ 1000000 ∧ y < c.lt ∧ lp = c.lp ∧ lt = c.lt) ∨
     (x < 0 ∧ lp = c.lp ∧ lt = c.lt) ∨ (0 ≤ x ∧ 10000 < x ∧ lp = c.lp ∧ lt = c.lt) ∨ (0 ≤ x ∧ x ≤ 10000 ∧ y < 1 ∧ lp = c.lp ∧ lt = c.lt) ∨ (0 ≤ x ∧ x ≤ 10000 ∧ 1 ≤ y ∧ 1000000 < y ∧ lp = c.lp ∧ lt = c.lt)) := by
  rcases Vm.beat_cases c x y with ⟨hv, e⟩ | ⟨hv, _, e⟩ | ⟨hv, _, e⟩ <;> refine ⟨_, _, _, _, _, e, ?_⟩ <;> simp only [Vm.valid, decide_eq_true_eq, decide_eq_false_iff_not] at hv
  · by_cases h1 : x < 0
    · exact .inr (.inr (.inr (.inr (.inl ⟨h1, rfl, rfl⟩))))
    by_cases h2 : 10000 < x
    · exact .inr (.inr (.inr (.inr (.inr (.inl ⟨by omega, h2, rfl, rfl⟩)))))
    by_cases h3 : y < 1
    · exact .inr (.inr (.inr (.inr (.inr (.inr (.inl ⟨by omega, by omega, h3, rfl, rfl⟩))))))
    · exact .inr (.inr (.inr (.inr (.inr (.inr (.inr ⟨by omega, by omega, by omega, by omega, rfl, rfl⟩))))))
  all_goals
    obtain ⟨v1, v2, v3, v4⟩ := hv
    by_cases h1 : c.lt < y
    · have hl : Vm.later x y c.lp c.lt = true := by simp only [Vm.later, decide_eq_true_eq]; exact .inl h1
      exact .inl ⟨v1, v2, v3, v4, h1, if_pos hl, if_pos hl⟩
    by_cases h2 : c.lt = y
    · by_cases h3 : c.lp < x
      · have hl : Vm.later x y c.lp c.lt = true := by simp only [Vm.later, decide_eq_true_eq]; exact .inr ⟨h2.symm, h3⟩
        exact .inr (.inl ⟨v1, v2, v3, v4, h2, h3, if_pos hl, if_pos hl⟩)
      · have hl : ¬ Vm.later x y c.lp c.lt = true := by simp only [Vm.later, decide_eq_true_eq]; omega
        exact .inr (.inr (.inl ⟨v1, v2, v3, v4, h2, by omega, if_neg hl, if_neg hl⟩))
    · have hl : ¬ Vm.later x y c.lp c.lt = true := by simp only [Vm.later, decide_eq_true_eq]; omega
      exact .inr (.inr (.inr (.inl ⟨v1, v2, v3, v4, by omega, if_neg hl, if_neg hl⟩)))

/-- What stands at the head of each round. -/
structure LatestRel (W : World) (b m : Nat) (position time : Int) (c : Vm.Clk) (wr : World) : Prop where
  clk : ClkAt wr b m c
  ok : Vm.Ok c
  pos : position = c.lp
  time : time = c.lt
  fr : Fr [] W wr
  hb : W.heap.size ≤ b
  hm : W.heap.size ≤ m

set_option maxRecDepth 100000 in
set_option maxHeartbeats 1000000 in
theorem latest_walk (b0 off n cap : Nat) (xs : List Stp) (W : World) (hn : xs.length = n) (hmax : n ≤ maxLen) (hx : StepsAt W b0 off xs) :
    Calls Try.prog 6 #[.slice (some ⟨b0, off, none⟩) n cap] W fun e W' => e = .returned (.bool true) ∧ Below W.heap.size W W' := by
  unfold maxLen at hmax
  go_enter Try.func6, Try.ntmps6
  go_wp2_with fail
  refine (sane_any _).mono ?_
  rintro e w1 ⟨rfl, f1⟩
  go_wp2_with fail
  refine (new_any _).mono ?_
  rintro e w2 ⟨rfl, hclk2, f2⟩
  have hwb : W.heap.size ≤ w1.heap.size := f1.size
  have R0 : LatestRel W (w1.heap.size + 1) w1.heap.size 0 0 Vm.new w2 := ⟨hclk2, Vm.ok_new, rfl, rfl, f1.trans f2, by omega, by omega⟩
  generalize w1.heap.size + 1 = b at *
  generalize w1.heap.size = m at *
  clear f1 f2 hclk2 hwb
  go_wp2_with fail
  go_loopw [5, 6, 7] (fun position time i wr => ∃ (k : Nat) (p t : Int) (c : Vm.Clk), k ≤ n ∧ k ≤ 100 ∧ i = .int .i64 k ∧ position = .int .i64 p ∧ time = .int .i64 t ∧ LatestRel W b m p t c wr) (fun _ _ i _ => n - (intOf i).toNat)
  case atStart => exact ⟨0, 0, 0, _, Nat.zero_le _, Nat.zero_le _, rfl, rfl, rfl, R0⟩
  case round =>
    obtain ⟨k, p, t, c, hk, hk100, rfl, rfl, rfl, R⟩ := hrel
    by_cases hlt : k < n ∧ k < 100
    · have hc1 := (hx.fr R.fr).cell1 k (by omega)
      have hc2 := (hx.fr R.fr).cell2 k (by omega)
      generalize (xs[k]'(by omega)).pos = x at hc1
      generalize (xs[k]'(by omega)).time = y at hc2
      have hbn : Vm.Ok (Vm.beat c x y) := R.ok.beat x y
      -- the ways: what becomes of the latest beat
      have hways := Vm.latest_ways c x y
      rw [← R.pos, ← R.time] at hways
      obtain ⟨a3, o3, lp3, lt3, L3, hc3, hways⟩ := hways
      go_wp2_with fail
      refine (beat_any b m c x y wr R.clk R.ok).mono ?_
      rintro e w3 ⟨rfl, h3, f3⟩
      rw [hc3] at h3 hbn
      have F3 : Fr [] W w3 := R.fr.trans' f3 (by have := R.hb; have := R.hm; simp; omega)
      have hmb : W.heap.size ≤ b ∧ W.heap.size ≤ m := ⟨R.hb, R.hm⟩
      clear hc3 f3 hc1 hc2 R
      rcases hways with ⟨g1, g2, g3, g4, g5, rfl, rfl⟩ | ⟨g1, g2, g3, g4, rfl, g6, rfl, rfl⟩ | ⟨g1, g2, g3, g4, rfl, g6, rfl, rfl⟩ | ⟨g1, g2, g3, g4, g5, rfl, rfl⟩ | ⟨g1, rfl, rfl⟩ | ⟨g1, g2, rfl, rfl⟩ | ⟨g1, g2, g3, rfl, rfl⟩ | ⟨g1, g2, g3, g4, rfl, rfl⟩
      all_goals
        go_wp2_with (go_at_call 16; refine (latest_any b m _ w3 h3).mono ?_; rintro e w4 ⟨rfl, nq, rfl⟩)
        go_roundw
        case rel => exact ⟨k + 1, _, _, _, by omega, by omega, by go_num, rfl, rfl, h3.fr ((Fr.refl [] _).drewN nq) (by simp) (by simp), hbn, rfl, rfl, F3.drewN nq, hmb.1, hmb.2⟩
        case measure => simp [intOf]; omega
    · go_wp2_with (first
        | (go_at_call 14; refine (beat_nil _ _ _).mono ?_; rintro e w3 ⟨rfl, f3⟩)
        | (go_at_call 11; refine (applied_nil _ _).mono ?_; rintro e w4 ⟨rfl, f4⟩)
        | (go_at_call 13; refine (reset_nil _).mono ?_; rintro e w' ⟨rfl, rfl⟩)
        | (go_at_call 16; refine (latest_nil _).mono ?_; rintro e w' ⟨rfl, rfl⟩)
        | (go_at_call 17; refine (asOf_nil _).mono ?_; rintro e w' ⟨rfl, rfl⟩))
      all_goals
        go_ret
        exact ⟨rfl, ((R.fr.trans f3).trans f4).below⟩

theorem latest_empty (A : Option Addr) (cap : Nat) (W : World) :
    Calls Try.prog 6 #[.slice A 0 cap] W fun e W' => e = .returned (.bool true) ∧ Below W.heap.size W W' := by
  go_enter Try.func6, Try.ntmps6
  go_wp2_with fail
  refine (sane_any _).mono ?_
  rintro e w1 ⟨rfl, f1⟩
  go_wp2_with fail
  refine (new_any _).mono ?_
  rintro e w2 ⟨rfl, hclk2, f2⟩
  go_wp2_with fail
  refine wp_loop_rounds 1 ?_
  rw [rounds_succ]
  go_wp2_with (first
    | (go_at_call 14; refine (beat_nil _ _ _).mono ?_; rintro e w3 ⟨rfl, f3⟩)
    | (go_at_call 11; refine (applied_nil _ _).mono ?_; rintro e w4 ⟨rfl, f4⟩)
    | (go_at_call 13; refine (reset_nil _).mono ?_; rintro e w' ⟨rfl, rfl⟩)
    | (go_at_call 16; refine (latest_nil _).mono ?_; rintro e w' ⟨rfl, rfl⟩)
    | (go_at_call 17; refine (asOf_nil _).mono ?_; rintro e w' ⟨rfl, rfl⟩))
  go_ret
  exact ⟨rfl, (((f1.trans f2).trans f3).trans f4).below⟩

theorem latest_law : LawWalk 6 Try.f6 := by
  intro H enc W base args ds p hval0 hA0 hlt hsz
  have hval : ∀ (j : Nat) t v, Try.f6.params[j]? = some t → args[j]? = some v → Value.okWide Try.prog W .any base t v := hval0
  have hA : DataW.TrodAll enc Try.prog W 0 (fun _ => true) true Try.f6.params.toList args.toList ds p := hA0
  rw [Try.params6] at hA hval
  obtain ⟨v0, vs0, d0, ds0, p0, q0, hargs, rfl, rfl, h0, r0⟩ := trodAll_cons hA
  obtain ⟨rfl, rfl, rfl⟩ := trodAll_nil r0
  obtain rfl : args = #[v0] := by cases args; simp_all
  obtain ⟨A, n, cap, xs, rfl, hn, hmax, hx⟩ := open_steps (hval 0 _ v0 rfl rfl) h0 (fun x hx => hlt x (by simp [hx]))
  rcases hx with rfl | ⟨b, off, rfl, hx⟩
  · exact latest_empty A cap W
  · exact latest_walk b off n cap xs W hn hmax hx

theorem latest_lifted (os : Os) (started : os.Started) (H : Type) (enc : TypeId × Value → H) :
    ReturnsInHanded {} Try.checked os 6 .any (Rows.vouchLatestSpec.pre6 enc Try.prog Try.f6 Rows.vouchLatestRow.domain false) (Rows.vouchLatestSpec.post enc Try.prog Try.f6 false true false false) :=
  law_lifted (s := Rows.vouchLatestSpec) (conds := Rows.vouchLatestRow.domain) Try.func6 (by kernel_rfl) rfl rfl
    (by rw [Try.params6]; intro t ht; simp at ht; subst ht; exact ⟨by kernel_rfl, of_decide_eq_true (by kernel_rfl)⟩)
    (fun H ds h => by
      match ds, h with
      | [d], _ => exact ⟨rfl, rfl, rfl⟩) latest_law os started H enc
    (ChangeSpec.witness6 (enc := enc) (C := Try.checked) false ⟨#[], #[.slice none 0 0], []⟩ 8 (by kernel_rfl) (by kernel_rfl) (by kernel_rfl) (by kernel_rfl))

theorem latest_holds : Rows.VouchLatestSaid :=
  OpenClaim.holds_of_wide 6 Try.f6 rfl rfl rfl rfl rfl rfl rfl ⟨rfl, rfl, rfl, rfl, rfl⟩ rfl rfl rfl rfl rfl (by kernel_rfl) Try.func6 (by kernel_rfl)
    (of_decide_eq_true (by kernel_rfl)) (by unfold Func.isWrapper; rw [if_neg (of_decide_eq_false (by kernel_rfl))]; exact ⟨rfl, rfl⟩)
    (fun os started H enc _ => latest_lifted os started H enc)
#print axioms latest_holds
end Go.Proofs.Ytjiilmobjgdenaa
