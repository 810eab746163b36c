/-
  VouchCompleteSaid is proved: for every input the law returns true and leaves its argument as it was. No condition.
-/
import Derived.Test.YtjiilmobjgdenaaVouchC2
import Derived.Test.YtjiilmobjgdenaaVouchSound
import Derived.Deep.LoopGhost
namespace Go.Proofs.Ytjiilmobjgdenaa
open Go.RowKit Go.WideShapes Go.ChangeShapes

structure CompRel (W : World) (b m : Nat) (xs : List Stp) (k : Nat) (ap last : Int) (c : Vm.Clk) (wr : World) : Prop where
  clk : ClkAt wr b m c
  ok : Vm.Ok c
  heard : Vm.Heard (bts xs k) c
  app : ap = c.applied
  last : last ≤ c.asOf
  fr : Fr [] W wr
  hb : W.heap.size ≤ b
  hm : W.heap.size ≤ m

/-- One step of the law's loop. -/
def Vm.step (c : Vm.Clk) (x : Stp) : Vm.Clk := if isB x = true then Vm.beat c (bt x).1 (bt x).2 else Vm.applied c (pickI x.pos 60)
theorem Vm.step_heard {c : Vm.Clk} {xs : List Stp} {k : Nat} (hk : k < xs.length) (hk60 : k < 60) (h : Vm.Heard (bts xs k) c) (hok : Vm.Ok c) (hnd : Nd c.L) :
    Vm.Heard (bts xs (k + 1)) (Vm.step c xs[k]) ∧ Vm.Ok (Vm.step c xs[k]) ∧ c.applied ≤ (Vm.step c xs[k]).applied ∧ c.asOf ≤ (Vm.step c xs[k]).asOf := by
  have hp := bt_pos (xs[k])
  have hl := bts_len xs k
  have key : Vm.Heard (bts xs (k + 1)) (Vm.step c xs[k]) ∧ Vm.Ok (Vm.step c xs[k]) ∧ c.applied ≤ (Vm.step c xs[k]).applied := by
    rw [bts_succ hk]
    unfold Vm.step
    by_cases hb : isB xs[k] = true
    · rw [if_pos hb, if_pos hb]
      refine ⟨h.beat (p := (bt xs[k]).1) (t := (bt xs[k]).2) hok hnd (by omega) (by simp only [Vm.valid, decide_eq_true_eq]; omega), hok.beat _ _, ?_⟩
      rcases Vm.beat_cases c (bt xs[k]).1 (bt xs[k]).2 with ⟨_, e⟩ | ⟨_, _, e⟩ | ⟨_, _, e⟩ <;> rw [e] <;> exact Int.le_refl _
    · rw [if_neg hb, if_neg hb]
      refine ⟨h.applied _, hok.applied _, ?_⟩
      unfold Vm.applied
      split
      · exact Int.le_refl _
      · show c.applied ≤ pickI _ 60; omega
  refine ⟨key.1, key.2.1, key.2.2, h.asOf.mono key.1.asOf (fun b hb => ?_) (fun x hx => ?_)⟩
  · rw [bts_succ hk]; split
    · simp [hb]
    · exact hb
  · have := key.2.2; show x ≤ (Vm.step c xs[k]).applied; have hx' : x ≤ c.applied := hx; omega

def wantG (ap u v q r : Int) : Int := if v ≠ 0 ∧ q ≤ ap then Vm.isMax u (1 + r) else u
theorem wantTo_succ' {xs : List Stp} {k : Nat} (ap : Int) (h : k < xs.length) : wantTo xs ap (k + 1) = wantG ap (wantTo xs ap k) (pickI xs[k].call 4) (pickI xs[k].pos 60) (pickI xs[k].time 200) := by
  rw [wantTo_succ ap h]
  unfold wantF wantG isB bt
  by_cases h1 : pickI xs[k].call 4 ≠ 0
  · by_cases h2 : pickI xs[k].pos 60 ≤ ap
    · rw [if_pos ⟨by simpa using h1, h2⟩, if_pos ⟨h1, h2⟩]
    · rw [if_neg (fun h => h2 h.2), if_neg (fun h => h2 h.2)]
  · rw [if_neg (fun h => h1 (by simpa using h.1)), if_neg (fun h => h1 h.1)]

set_option maxRecDepth 100000 in
set_option maxHeartbeats 2000000 in
theorem complete_walk (A : Option Addr) (n cap : Nat) (xs : List Stp) (W : World) (hn : xs.length = n) (_hmax : n ≤ maxLen) (hx2 : n = 0 ∨ ∃ b0 off, A = some ⟨b0, off, none⟩ ∧ StepsAt W b0 off xs) :
    Calls Try.prog 5 #[.slice A n cap] W fun e W' => e = .returned (.bool true) ∧ Below W.heap.size W W' := by
  have hmax := _hmax
  unfold maxLen at hmax
  obtain ⟨N, hN⟩ : ∃ N : Nat, min n 60 = N := ⟨_, rfl⟩
  have hNn : N ≤ n ∧ N ≤ 60 := by omega
  have hmin : (if (60 : Int) < (n : Int) then (60 : Int) else (n : Int)) = (N : Int) := by split <;> omega
  go_enter Try.func5, Try.ntmps5
  go_wp2_with fail
  refine (sane_any _).mono ?_
  rintro e w1 ⟨rfl, f1⟩
  go_wp2_with fail
  refine (new_any _).mono ?_
  rintro e w3 ⟨rfl, hclk3, f3⟩
  have s1 := f1.size
  have R0 : CompRel W (w1.heap.size + 1) w1.heap.size xs 0 0 0 Vm.new w3 :=
    ⟨hclk3, Vm.ok_new, Vm.Heard.new, rfl, Int.le_refl _, f1.trans f3, by omega, by omega⟩
  generalize w1.heap.size + 1 = b at *
  generalize w1.heap.size = m at *
  clear f1 f3 hclk3 s1
  go_wp2_with fail
  clear hmin
  go_loopg [5, 6, 8] N (fun gk s5 s6 s8 wr => ∃ (k : Nat) (ap last : Int) (c : Vm.Clk), k ≤ N ∧ gk = N - k ∧ s5 = .int .i64 ap ∧ s6 = .int .i64 last ∧ s8 = .int .i64 k ∧ CompRel W b m xs k ap last c wr)
  case atStart => exact ⟨0, 0, 0, _, Nat.zero_le _, rfl, rfl, rfl, rfl, R0⟩
  case round =>
    obtain ⟨k, ap, last, c, hk, rfl, rfl, rfl, rfl, R⟩ := hrel
    by_cases hlt : k < N
    · obtain ⟨b0, off, hA2, hx⟩ := hx2.resolve_left (by omega)
      subst hA2
      clear hx2
      have hxr := hx.fr R.fr
      have hc0 := hxr.cell0 k (by omega)
      have hc1 := hxr.cell1 k (by omega)
      have hc2 := hxr.cell2 k (by omega)
      obtain ⟨o0, o1, o2⟩ := hx.wf _ (List.getElem_mem (show k < xs.length by omega))
      obtain ⟨x, hxx⟩ : ∃ x, xs[k]'(by omega) = x := ⟨_, rfl⟩
      have hstep := Vm.step_heard (show k < xs.length by omega) (by omega) R.heard R.ok R.clk.nd
      rw [hxx] at hc0 hc1 hc2 o0 o1 o2 hstep
      have HX := Lib.hid hxx
      clear hxx
      have o0 := okI_bounds o0
      have o1 := okI_bounds o1
      have o2 := okI_bounds o2
      have hp0 := Lib.hid (fun w => pick_any x.call 4 w o0.1 o0.2 (by decide) (by decide))
      have hp1 := Lib.hid (fun w => pick_any x.pos 60 w o1.1 o1.2 (by decide) (by decide))
      have hp2 := Lib.hid (fun w => pick_any x.time 200 w o2.1 o2.2 (by decide) (by decide))
      have y1 := pickI_nonneg x.pos (show (1 : Int) ≤ 60 by decide)
      have y2 := pickI_lt x.pos (show (1 : Int) ≤ 60 by decide)
      have y3 := pickI_nonneg x.time (show (1 : Int) ≤ 200 by decide)
      have y4 := pickI_lt x.time (show (1 : Int) ≤ 200 by decide)
      obtain ⟨x0, x1, x2⟩ := x
      simp only at hc0 hc1 hc2 hp0 hp1 hp2 y1 y2 y3 y4
      go_upto_if 27 with (go_at_call 10; ((with_reducible refine (hp0.out _).mono ?_); rintro e w' ⟨rfl, rfl⟩))
      go_cut [5] (fun s5 wc => ∃ c' : Vm.Clk, s5 = .int .i64 c'.applied ∧ CompRel W b m xs (k + 1) c'.applied last c' wc)
      case first =>
        by_cases hB : pickI x0 4 = 0
        · have hs' : Vm.step c ⟨x0, x1, x2⟩ = Vm.applied c (pickI x1 60) := by
            unfold Vm.step isB
            rw [if_neg (by simp [hB])]
          rw [hs'] at hstep
          obtain ⟨q, hq⟩ : ∃ q, pickI x1 60 = q := ⟨_, rfl⟩
          have hap : (ap < q ∧ (Vm.applied c q).applied = q) ∨ (q ≤ ap ∧ (Vm.applied c q).applied = ap) := by
            have := R.app
            unfold Vm.applied
            by_cases h : q ≤ c.applied
            · rw [if_pos h]; omega
            · rw [if_neg h]; exact .inl ⟨by omega, rfl⟩
          rw [hq] at hp1 hstep y1 y2
          rw [hB]
          clear hB hs' hq hp0 hp2
          go_wp2_with (go_at_call 10; ((with_reducible refine (hp1.out _).mono ?_); rintro e w' ⟨rfl, rfl⟩))
          refine (applied_any b m c q wr R.clk).mono ?_
          rintro e w4 ⟨rfl, h4, f4⟩
          have hb0 := hx.lt (by omega)
          have hd1 : w4.cell? ⟨b0, off + k * 3 + 1, none⟩ = some (.int .i64 x1) := (f4.cell (p := ⟨b0, off + k * 3 + 1, none⟩) (Nat.lt_of_lt_of_le hb0 R.fr.size) (by have := R.hb; have := R.hm; simp; omega)).trans hc1
          have hnew : CompRel W b m xs (k + 1) (Vm.applied c q).applied last (Vm.applied c q) w4 :=
            ⟨h4, hstep.2.1, hstep.1, rfl, by have := R.last; have := hstep.2.2.2; omega, R.fr.trans' f4 (by have := R.hb; have := R.hm; simp; omega), R.hb, R.hm⟩
          clear hc0 hc1 hc2 hstep f4 hx hxr R HX
          rcases hap with ⟨h5, h6⟩ | ⟨h5, h6⟩ <;> have H6 := Lib.hid h6 <;> clear h6
          all_goals
            go_wp2_with (go_at_call 10; ((with_reducible refine (hp1.out _).mono ?_); rintro e w' ⟨rfl, rfl⟩))
            go_meet
            case rel => exact ⟨_, by rw [H6.out], hnew⟩
        · have hs' : Vm.step c ⟨x0, x1, x2⟩ = Vm.beat c (pickI x1 60) (1 + pickI x2 200) := by
            unfold Vm.step isB
            rw [if_pos (by simp [hB])]
            rfl
          rw [hs'] at hstep
          have hap : (Vm.beat c (pickI x1 60) (1 + pickI x2 200)).applied = ap := by
            rw [R.app]
            rcases Vm.beat_cases c (pickI x1 60) (1 + pickI x2 200) with ⟨_, e⟩ | ⟨_, _, e⟩ | ⟨_, _, e⟩ <;> rw [e]
          obtain ⟨q, hq⟩ : ∃ q, pickI x1 60 = q := ⟨_, rfl⟩
          obtain ⟨r, hr⟩ : ∃ r, pickI x2 200 = r := ⟨_, rfl⟩
          obtain ⟨v, hv⟩ : ∃ v, pickI x0 4 = v := ⟨_, rfl⟩
          rw [hq] at hp1 hstep hap y1 y2
          rw [hr] at hp2 hstep hap y3 y4
          rw [hv] at hB ⊢
          have hB' : (v == 0) = false := by simpa using hB
          have q1 : IntKind.i64.wrap (1 + r) = 1 + r := IntWalk.i64_in _ (by omega)
          have HA := Lib.hid hap
          have hb0 := hx.lt (by omega)
          have hbb : b0 ∉ [b, m] := by have := R.hb; have := R.hm; simp; omega
          have hbl : b0 < wr.heap.size := Nat.lt_of_lt_of_le hb0 R.fr.size
          have bb1 : (0 : Int) ≤ (k : Int) := by omega
          have bb2 : (k : Int) < (n : Int) := by omega
          clear hs' hq hr hv hap hB hp0
          go_wp2_with fail
          go_region_held3 (fun w' => w'.cell? ⟨b0, off + k * 3 + 1, none⟩ = some (.int .i64 x1) ∧ w'.cell? ⟨b0, off + k * 3 + 2, none⟩ = some (.int .i64 x2))
            (first | go_keep | exact ⟨(f4.cell (p := ⟨b0, off + k * 3 + 1, none⟩) hbl hbb).trans hc1, (f4.cell (p := ⟨b0, off + k * 3 + 2, none⟩) hbl hbb).trans hc2⟩)
            (first
              | (go_at_call 10; ((with_reducible refine (hp1.out _).mono ?_); rintro e w' ⟨rfl, rfl⟩))
              | (go_at_call 10; ((with_reducible refine (hp2.out _).mono ?_); rintro e w' ⟨rfl, rfl⟩))
              | (go_at_call 14; refine (beat_any b m c q (1 + r) _ (R.clk.fr (Fr.refl [] _).drew (by simp) (by simp)) R.ok).mono ?_; rintro e w4 ⟨rfl, h4, f4⟩))
          all_goals
            go_wp2_with fail
            go_meet
            case rel =>
              exact ⟨_, by rw [HA.out], ⟨h4, hstep.2.1, hstep.1, rfl, by have := R.last; have := hstep.2.2.2; omega, R.fr.drew.trans' f4 (by have := R.hb; have := R.hm; simp; omega), R.hb, R.hm⟩⟩
      case rest =>
        obtain ⟨c', rfl, R'⟩ := hcut
        have hwant : wantTo xs c'.applied (k + 1) = c'.asOf := (wantTo_mx xs c'.applied (k + 1) (by omega)).unique R'.heard.asOf
        obtain ⟨ap', hap'⟩ : ∃ a, c'.applied = a := ⟨_, rfl⟩
        rw [hap'] at hwant ⊢
        have HAP := Lib.hid hap'
        have HW := Lib.hid hwant
        have hxc := hx.fr R'.fr
        clear hap' hwant hc0 hc1 hc2 hxr hp0 hp1 hp2 hstep y1 y2 y3 y4 o0 o1 o2 HX
        go_wp2_with fail
        go_loop [9, 10] (fun s9 s10 => ∃ j : Nat, j ≤ k + 1 ∧ s10 = .int .i64 j ∧ s9 = .int .i64 (wantTo xs ap' j)) (fun _ s10 => k + 2 - (intOf s10).toNat)
        case atStart => exact ⟨0, by omega, rfl, rfl⟩
        case round =>
          obtain ⟨j, hj, rfl, rfl⟩ := hrel
          by_cases hjk : j < k + 1
          · have hd0 := hxc.cell0 j (by omega)
            have hd1 := hxc.cell1 j (by omega)
            have hd2 := hxc.cell2 j (by omega)
            obtain ⟨o0, o1, o2⟩ := hx.wf _ (List.getElem_mem (show j < xs.length by omega))
            have hws := wantTo_succ' (xs := xs) (k := j) ap' (by omega)
            obtain ⟨x, hxx⟩ : ∃ x, xs[j]'(by omega) = x := ⟨_, rfl⟩
            rw [hxx] at hd0 hd1 hd2 o0 o1 o2 hws
            clear hxx
            have o0 := okI_bounds o0
            have o1 := okI_bounds o1
            have o2 := okI_bounds o2
            have hp0 := Lib.hid (fun w => pick_any x.call 4 w o0.1 o0.2 (by decide) (by decide))
            have hp1 := Lib.hid (fun w => pick_any x.pos 60 w o1.1 o1.2 (by decide) (by decide))
            have hp2 := Lib.hid (fun w => pick_any x.time 200 w o2.1 o2.2 (by decide) (by decide))
            have y1 := pickI_nonneg x.time (show (1 : Int) ≤ 200 by decide)
            have y2 := pickI_lt x.time (show (1 : Int) ≤ 200 by decide)
            obtain ⟨x0, x1, x2⟩ := x
            simp only at hd0 hd1 hd2 hp0 hp1 hp2 y1 y2 hws
            obtain ⟨u, hu⟩ : ∃ u, wantTo xs ap' j = u := ⟨_, rfl⟩
            obtain ⟨v, hv⟩ : ∃ v, pickI x0 4 = v := ⟨_, rfl⟩
            obtain ⟨q, hq⟩ : ∃ q, pickI x1 60 = q := ⟨_, rfl⟩
            obtain ⟨r, hr⟩ : ∃ r, pickI x2 200 = r := ⟨_, rfl⟩
            rw [hu, hv, hq, hr] at hws
            rw [hv] at hp0
            rw [hq] at hp1
            rw [hr] at hp2 y1 y2
            rw [hu]
            have q1 : IntKind.i64.wrap (1 + r) = 1 + r := IntWalk.i64_in _ (by omega)
            clear hu hv hq hr
            have HWS := Lib.hid hws
            clear hws
            by_cases hB : v = 0
            · subst hB
              go_wp2_with (first
                | (go_at_call 10; ((with_reducible refine (hp0.out _).mono ?_); rintro e w' ⟨rfl, rfl⟩)))
              go_round
              case rel => exact ⟨j + 1, by omega, by go_num, by rw [HWS.out]; exact congrArg (Value.int .i64) (if_neg (by simp)).symm⟩
              case measure => simp [intOf]; omega
            · have hB1 : (v != 0) = true := by simpa using hB
              by_cases hQ : q ≤ ap'
              · by_cases hM : u < 1 + r
                all_goals
                  go_wp2_with (first
                    | (go_at_call 10; ((with_reducible refine (hp0.out _).mono ?_); rintro e w' ⟨rfl, rfl⟩))
                    | (go_at_call 10; ((with_reducible refine (hp1.out _).mono ?_); rintro e w' ⟨rfl, rfl⟩))
                    | (go_at_call 10; ((with_reducible refine (hp2.out _).mono ?_); rintro e w' ⟨rfl, rfl⟩)))
                  go_round
                  case rel => exact ⟨j + 1, by omega, by go_num, by rw [HWS.out]; unfold wantG; rw [if_pos ⟨by simpa using hB, hQ⟩]; unfold Vm.isMax; first | rw [if_pos (by omega)] | rw [if_neg (by omega)]⟩
                  case measure => simp [intOf]; omega
              · go_wp2_with (first
                  | (go_at_call 10; ((with_reducible refine (hp0.out _).mono ?_); rintro e w' ⟨rfl, rfl⟩))
                  | (go_at_call 10; ((with_reducible refine (hp1.out _).mono ?_); rintro e w' ⟨rfl, rfl⟩)))
                go_round
                case rel => exact ⟨j + 1, by omega, by go_num, by rw [HWS.out]; exact congrArg (Value.int .i64) (if_neg (fun h => by omega)).symm⟩
                case measure => simp [intOf]; omega
          · have hj' : j = k + 1 := by omega
            subst hj'
            rw [HW.out]
            have hlast := R'.last
            go_wp2_with (go_at_call 17; ((with_reducible refine (asOf_any b m _ _ R'.clk).mono ?_); rintro e w' ⟨rfl, rfl⟩))
            go_roundg (N - (k + 1))
            case measure => omega
            case rel => exact ⟨k + 1, ap', c'.asOf, c', by omega, rfl, rfl, rfl, by go_num, ⟨R'.clk, R'.ok, R'.heard, HAP.out.symm, Int.le_refl _, R'.fr, R'.hb, R'.hm⟩⟩
    · go_wp2_with fail
      all_goals
        go_ret
        exact ⟨rfl, R.fr.below⟩

theorem complete_law : LawWalk 5 Try.f5 := by
  intro H enc W base args ds p hval0 hA0 hlt hsz
  have hval : ∀ (j : Nat) t v, Try.f5.params[j]? = some t → args[j]? = some v → Value.okWide Try.prog W .any base t v := hval0
  have hA : DataW.TrodAll enc Try.prog W 0 (fun _ => true) true Try.f5.params.toList args.toList ds p := hA0
  clear hA0 hval0 hsz
  rw [Try.params5] at hA hval
  obtain ⟨v0, vs0, d0, ds0, p0, q0, hargs, rfl, rfl, h0, r0⟩ := trodAll_cons hA
  obtain ⟨rfl, rfl, rfl⟩ := trodAll_nil r0
  obtain rfl : args = #[v0] := by cases args; simp_all
  obtain ⟨A0, n0, cap0, xs0, rfl, hn0, hmax0, hx0⟩ := open_steps (hval 0 _ v0 rfl rfl) h0 (fun x hx => hlt x (by simp [hx]))
  exact complete_walk A0 n0 cap0 xs0 W hn0 hmax0 hx0

theorem complete_lifted (os : Os) (started : os.Started) (H : Type) (enc : TypeId × Value → H) :
    ReturnsInHanded {} Try.checked os 5 .any (Rows.vouchCompleteSpec.pre6 enc Try.prog Try.f5 Rows.vouchCompleteRow.domain false) (Rows.vouchCompleteSpec.post enc Try.prog Try.f5 false true false false) :=
  law_lifted (s := Rows.vouchCompleteSpec) (conds := Rows.vouchCompleteRow.domain) Try.func5 (by kernel_rfl) rfl rfl
    (by
      rw [Try.params5]
      intro t ht
      simp only [List.mem_cons, List.not_mem_nil, or_false] at ht
      subst ht
      all_goals exact ⟨by kernel_rfl, of_decide_eq_true (by kernel_rfl)⟩)
    (fun H ds h => by
      match ds, h with
      | [d0], _ => exact ⟨rfl, rfl, rfl⟩) complete_law os started H enc
    (ChangeSpec.witness6 (enc := enc) (C := Try.checked) false ⟨#[], #[.slice none 0 0], []⟩ 8 (by kernel_rfl) (by kernel_rfl) (by kernel_rfl) (by kernel_rfl))

theorem complete_holds : Rows.VouchCompleteSaid :=
  OpenClaim.holds_of_wide 5 Try.f5 rfl rfl rfl rfl rfl rfl rfl ⟨rfl, rfl, rfl, rfl, rfl⟩ rfl rfl rfl rfl rfl (by kernel_rfl) Try.func5 (by kernel_rfl)
    (of_decide_eq_true (by kernel_rfl)) (by unfold Func.isWrapper; rw [if_neg (of_decide_eq_false (by kernel_rfl))]; exact ⟨rfl, rfl⟩)
    (fun os started H enc _ => complete_lifted os started H enc)
#print axioms complete_holds

end Go.Proofs.Ytjiilmobjgdenaa
