/-
  VouchSoundSaid is proved: for every input the law returns true and leaves its arguments as they were. No condition.
-/
import Derived.Test.YtjiilmobjgdenaaVouchH
namespace Go.Proofs.Ytjiilmobjgdenaa
open Go.RowKit Go.WideShapes Go.ChangeShapes

/-- What a clock that hears the beats of the history h knows. -/
structure Vm.Sound (h : Nat → Int) (c : Vm.Clk) : Prop where
  wait : ∀ e ∈ c.L, ∃ t : Nat, 1 ≤ t ∧ t ≤ 100 ∧ e.1 = h t ∧ e.2 = (t : Int)
  asOf : ∃ t : Nat, t ≤ 100 ∧ c.asOf = t ∧ h t ≤ c.applied

theorem Vm.isMax_cases (a b : Int) : Vm.isMax a b = a ∨ Vm.isMax a b = b := by
  unfold Vm.isMax; split
  · exact .inr rfl
  · exact .inl rfl
theorem Vm.Sound.new (h : Nat → Int) (h0 : h 0 = 0) : Vm.Sound h Vm.new := ⟨by simp [Vm.new], 0, by omega, rfl, by rw [h0]; exact Int.le_refl _⟩
theorem Vm.Sound.applied {h : Nat → Int} {c : Vm.Clk} (hs : Vm.Sound h c) (p : Int) : Vm.Sound h (Vm.applied c p) := by
  unfold Vm.applied
  split
  · exact hs
  · refine ⟨fun e he => hs.wait e (List.mem_filter.1 he).1, ?_⟩
    show ∃ t : Nat, t ≤ 100 ∧ Vm.upTo p c.asOf c.L = t ∧ h t ≤ p
    have h1 : ∃ t : Nat, t ≤ 100 ∧ c.asOf = t ∧ h t ≤ p := by
      obtain ⟨t, a1, a2, a3⟩ := hs.asOf
      exact ⟨t, a1, a2, by omega⟩
    have hw := hs.wait
    clear hs
    refine rev_ind (motive := fun L => (∀ e ∈ L, ∃ t : Nat, 1 ≤ t ∧ t ≤ 100 ∧ e.1 = h t ∧ e.2 = (t : Int)) → ∃ t : Nat, t ≤ 100 ∧ Vm.upTo p c.asOf L = t ∧ h t ≤ p) c.L (fun _ => h1) (fun l b ih hl => ?_) hw
    have ih := ih fun e he => hl e (by simp [he])
    rw [Vm.upTo_snoc]
    split
    · rcases Vm.isMax_cases (Vm.upTo p c.asOf l) b.2 with e | e <;> rw [e]
      · exact ih
      · obtain ⟨t, _, a2, a3, a4⟩ := hl b (by simp)
        exact ⟨t, a2, a4, by omega⟩
    · exact ih
theorem Vm.Sound.beat {h : Nat → Int} {c : Vm.Clk} (hs : Vm.Sound h c) (hnd : Nd c.L) {t : Nat} (h1 : 1 ≤ t) (h2 : t ≤ 100) : Vm.Sound h (Vm.beat c (h t) t) := by
  rcases Vm.beat_cases c (h t) t with ⟨_, e⟩ | ⟨_, hle, e⟩ | ⟨_, hlt, e⟩ <;> rw [e]
  · exact hs
  · refine ⟨hs.wait, ?_⟩
    show ∃ s : Nat, s ≤ 100 ∧ Vm.isMax c.asOf t = s ∧ h s ≤ c.applied
    rcases Vm.isMax_cases c.asOf t with e | e <;> rw [e]
    · exact hs.asOf
    · exact ⟨t, h2, rfl, hle⟩
  · refine ⟨fun e he => ?_, hs.asOf⟩
    have hm : e ∈ mput c.L (h t) (Vm.isMax ((mget c.L (h t)).getD 0) t) := by
      have he' : e ∈ Vm.wait c.L (h t) t := he
      unfold Vm.wait at he'
      dsimp only at he'
      split at he'
      · exact (mem_mdel.1 he').1
      · exact he'
    rcases mem_mput.1 hm with rfl | ⟨h3, _⟩
    · cases hg : mget c.L (h t) with
      | none =>
        refine ⟨t, h1, h2, rfl, ?_⟩
        show Vm.isMax 0 t = t
        unfold Vm.isMax
        rw [if_pos (by omega)]
      | some u =>
        obtain ⟨s, a1, a2, a3, a4⟩ := hs.wait _ ((mget_iff hnd).1 hg)
        rcases Vm.isMax_cases u t with e | e
        · exact ⟨s, a1, a2, a3, by show Vm.isMax u t = s; rw [e]; exact a4⟩
        · exact ⟨t, h1, h2, rfl, by show Vm.isMax u t = t; rw [e]⟩
    · exact hs.wait e h3

theorem ClkAt.nd {w : World} {b m : Nat} {c : Vm.Clk} (h : ClkAt w b m c) : Nd c.L := h.map.nd tyII

theorem okI_bounds {x : Int} (h : okI x) : -9223372036854775808 ≤ x ∧ x ≤ 9223372036854775807 := by
  simpa [okI, Lit.wf, IntKind.min, IntKind.max, IntKind.signed, IntKind.bits] using h

structure SoundRel (W : World) (b m g : Nat) (hs : List Int) (applied : Int) (c : Vm.Clk) (wr : World) : Prop where
  clk : ClkAt wr b m c
  ok : Vm.Ok c
  sound : Vm.Sound (hst hs) c
  app : applied = c.applied
  hist : Blk wr g 3 (arr 101 (hcells hs 100))
  fr : Fr [] W wr
  hb : W.heap.size ≤ b
  hm : W.heap.size ≤ m
  hg : W.heap.size ≤ g
  hgb : g ≠ b
  hgm : g ≠ m

set_option maxRecDepth 100000 in
set_option maxHeartbeats 1000000 in
theorem sound_walk (A1 : Option Addr) (n1 cap1 : Nat) (hs : List Int) (A2 : Option Addr) (n cap : Nat) (xs : List Stp) (W : World) (hn1 : hs.length = n1) (hmax1 : n1 ≤ maxLen) (hx1 : n1 = 0 ∨ ∃ b off, A1 = some ⟨b, off, none⟩ ∧ IntsAt W b off hs)
    (hn : xs.length = n) (_hmax : n ≤ maxLen) (hx2 : n = 0 ∨ ∃ b0 off, A2 = some ⟨b0, off, none⟩ ∧ StepsAt W b0 off xs) :
    Calls Try.prog 4 #[.slice A1 n1 cap1, .slice A2 n cap] W fun e W' => e = .returned (.bool true) ∧ Below W.heap.size W W' := by
  have hmax := _hmax
  unfold maxLen at hmax
  go_enter Try.func4, Try.ntmps4
  go_wp2_with fail
  refine (sane_any _).mono ?_
  rintro e w1 ⟨rfl, f1⟩
  go_wp2_with fail
  refine (history_any A1 n1 cap1 hs w1 hn1 hmax1 (hx1.imp id (fun ⟨b, off, h1, h2⟩ => ⟨b, off, h1, h2.fr f1⟩))).mono ?_
  rintro e w2 ⟨rfl, hh, f2⟩
  go_wp2_with fail
  refine (new_any _).mono ?_
  rintro e w3 ⟨rfl, hclk3, f3⟩
  have s1 := f1.size
  have s2 := f2.size
  have hl := hh.lt
  have R0 : SoundRel W (w2.heap.size + 1) w2.heap.size w1.heap.size hs 0 Vm.new w3 :=
    ⟨hclk3, Vm.ok_new, Vm.Sound.new _ rfl, rfl, hh.fr f3 (by simp), (f1.trans f2).trans f3, by omega, by omega, by omega, by omega, by omega⟩
  generalize w2.heap.size + 1 = b at *
  generalize w2.heap.size = m at *
  generalize w1.heap.size = g at *
  clear f1 f2 f3 hclk3 hh s1 s2 hl hx1 hn1 hmax1
  go_wp2_with fail
  go_loopw [8, 9] (fun ap i wr => ∃ (k : Nat) (p : Int) (c : Vm.Clk), k ≤ n ∧ k ≤ 150 ∧ i = .int .i64 k ∧ ap = .int .i64 p ∧ SoundRel W b m g hs p c wr) (fun _ i _ => n - (intOf i).toNat)
  case atStart => exact ⟨0, 0, _, Nat.zero_le _, Nat.zero_le _, rfl, rfl, R0⟩
  case round =>
    obtain ⟨k, p, c, hk, hk150, rfl, rfl, R⟩ := hrel
    by_cases hlt : k < n ∧ k < 150
    · obtain ⟨b0, off, hA2, hx⟩ := hx2.resolve_left (by omega)
      subst hA2
      clear hx2
      have hc0 := (hx.fr R.fr).cell0 k (by omega)
      have hc1 := (hx.fr R.fr).cell1 k (by omega)
      have hc2 := (hx.fr R.fr).cell2 k (by omega)
      obtain ⟨o0, o1, o2⟩ := hx.wf _ (List.getElem_mem (show k < xs.length by omega))
      generalize (xs[k]'(by omega)).call = x at hc0 o0
      generalize (xs[k]'(by omega)).pos = y at hc1 o1
      generalize (xs[k]'(by omega)).time = z at hc2 o2
      have o0 := okI_bounds o0
      have o1 := okI_bounds o1
      have o2 := okI_bounds o2
      have gb : b ∉ [g] := by have := R.hgb; simp; omega
      by_cases hcall : pickI x 6 = 0
      · have hy1 := pickI_nonneg y (show (1 : Int) ≤ 301 by decide)
        have hy2 := pickI_lt y (show (1 : Int) ≤ 301 by decide)
        obtain ⟨q, hq⟩ : ∃ q, pickI y 301 = q := ⟨_, rfl⟩
        rw [hq] at hy1 hy2
        obtain ⟨t, a1, a2, a3⟩ := (R.sound.applied q).asOf
        have hap : (p < q ∧ (Vm.applied c q).applied = q) ∨ (q ≤ p ∧ (Vm.applied c q).applied = p) := by
          have := R.app
          unfold Vm.applied
          by_cases h : q ≤ c.applied
          · rw [if_pos h]; omega
          · rw [if_neg h]; exact .inl ⟨by omega, rfl⟩
        have hp1 := Lib.hid (pick_any x 6 wr o0.1 o0.2 (by decide) (by decide))
        have hp2 := Lib.hid (pick_any y 301 wr o1.1 o1.2 (by decide) (by decide))
        rw [hcall] at hp1
        rw [hq] at hp2
        clear hcall hq
        go_wp2_with (first
          | (go_at_call 10; ((with_reducible refine hp1.out.mono ?_); rintro e w' ⟨rfl, rfl⟩))
          | (go_at_call 10; ((with_reducible refine hp2.out.mono ?_); rintro e w' ⟨rfl, rfl⟩)))
        refine (applied_any b m c q wr R.clk).mono ?_
        rintro e w4 ⟨rfl, h4, f4⟩
        have hnew : SoundRel W b m g hs (Vm.applied c q).applied (Vm.applied c q) w4 :=
          ⟨h4, R.ok.applied q, R.sound.applied q, rfl, R.hist.fr f4 (by have := R.hgb; have := R.hgm; simp; omega), R.fr.trans' f4 (by have := R.hb; have := R.hm; simp; omega), R.hb, R.hm, R.hg, R.hgb, R.hgm⟩
        have hAs : Hid (Calls Try.prog 17 #[.pointer (some ⟨b, 0, none⟩)] w4 fun e w' => e = .returned (.int .i64 (t : Int)) ∧ w4 = w') := by
          rw [← a2]; exact asOf_any b m _ w4 h4
        have ct : w4.cell? ⟨g, t, none⟩ = some (.int .i64 (hst hs t)) := (hnew.hist.cell t).trans (by rw [arr_get (by omega)]; simp [hcells, a1])
        clear hc0 hc1 hc2 hp1 hp2 R a2 f4
        rcases hap with ⟨h5, h6⟩ | ⟨h5, h6⟩ <;> rw [h6] at hnew a3 <;> clear h6
        all_goals
          go_wp2_with (go_at_call 17; ((with_reducible refine hAs.out.mono ?_); rintro e w' ⟨rfl, rfl⟩))
          go_roundw
          case rel => exact ⟨k + 1, _, _, by omega, by omega, by go_num, rfl, hnew⟩
          case measure => simp [intOf]; omega
      · have hy1 := pickI_nonneg z (show (1 : Int) ≤ 100 by decide)
        have hy2 := pickI_lt z (show (1 : Int) ≤ 100 by decide)
        have hp1 := Lib.hid (pick_any x 6 wr o0.1 o0.2 (by decide) (by decide))
        have hp2 := Lib.hid (pick_any z 100 wr o2.1 o2.2 (by decide) (by decide))
        obtain ⟨q, hq⟩ : ∃ q : Nat, pickI z 100 = q := ⟨(pickI z 100).toNat, by omega⟩
        rw [hq] at hy2 hp2
        obtain ⟨v, hv⟩ : ∃ v, pickI x 6 = v := ⟨_, rfl⟩
        rw [hv] at hp1 hcall
        have hcall' : (v == 0) = false := by simpa using hcall
        have hsn : Vm.Sound (hst hs) (Vm.beat c (hst hs (q + 1)) (1 + (q : Int))) := by
          have := R.sound.beat R.clk.nd (t := q + 1) (by omega) (by omega)
          rw [show ((q + 1 : Nat) : Int) = 1 + (q : Int) from by omega] at this
          exact this
        have hap : (Vm.beat c (hst hs (q + 1)) (1 + (q : Int))).applied = p := by
          rw [R.app]
          rcases Vm.beat_cases c (hst hs (q + 1)) (1 + (q : Int)) with ⟨_, e⟩ | ⟨_, _, e⟩ | ⟨_, _, e⟩ <;> rw [e]
        have hok := R.ok.beat (hst hs (q + 1)) (1 + (q : Int))
        have HA := Lib.hid hap
        obtain ⟨t, a1, a2, a3⟩ := hsn.asOf
        rw [hap] at a3
        clear hap hq hv hcall hy1
        have cq : wr.cell? ⟨g, 1 + q, none⟩ = some (.int .i64 (hst hs (q + 1))) := by
          rw [Nat.add_comm]
          exact (R.hist.cell (q + 1)).trans (by rw [arr_get (by omega)]; simp [hcells]; omega)
        have A2 := Lib.hid a2
        clear a2
        go_wp2_with (first
          | (go_at_call 10; ((with_reducible refine hp1.out.mono ?_); rintro e w' ⟨rfl, rfl⟩))
          | (go_at_call 10; ((with_reducible refine hp2.out.mono ?_); rintro e w' ⟨rfl, rfl⟩)))
        refine (beat_any b m c _ _ wr R.clk R.ok).mono ?_
        rintro e w4 ⟨rfl, h4, f4⟩
        have hnew : SoundRel W b m g hs p (Vm.beat c (hst hs (q + 1)) (1 + (q : Int))) w4 :=
          ⟨h4, hok, hsn, HA.out.symm, R.hist.fr f4 (by have := R.hgb; have := R.hgm; simp; omega), R.fr.trans' f4 (by have := R.hb; have := R.hm; simp; omega), R.hb, R.hm, R.hg, R.hgb, R.hgm⟩
        have hAs : Hid (Calls Try.prog 17 #[.pointer (some ⟨b, 0, none⟩)] w4 fun e w' => e = .returned (.int .i64 (t : Int)) ∧ w4 = w') := by
          rw [← A2.out]; exact asOf_any b m _ w4 h4
        have ct : w4.cell? ⟨g, t, none⟩ = some (.int .i64 (hst hs t)) := (hnew.hist.cell t).trans (by rw [arr_get (by omega)]; simp [hcells, a1])
        clear hc0 hc1 hc2 hp1 hp2 R f4 cq
        go_wp2_with (go_at_call 17; ((with_reducible refine hAs.out.mono ?_); rintro e w' ⟨rfl, rfl⟩))
        go_roundw
        case rel => exact ⟨k + 1, _, _, by omega, by omega, by go_num, rfl, hnew⟩
        case measure => simp [intOf]; omega
    · go_wp2_with fail
      all_goals
        go_ret
        exact ⟨rfl, R.fr.below⟩

theorem sound_law : LawWalk 4 Try.f4 := by
  intro H enc W base args ds p hval0 hA0 hlt hsz
  have hval : ∀ (j : Nat) t v, Try.f4.params[j]? = some t → args[j]? = some v → Value.okWide Try.prog W .any base t v := hval0
  have hA : DataW.TrodAll enc Try.prog W 0 (fun _ => true) true Try.f4.params.toList args.toList ds p := hA0
  clear hA0 hval0 hsz
  rw [Try.params4] at hA hval
  obtain ⟨v0, vs0, d0, ds0, p0, q0, hargs, rfl, rfl, h0, r0⟩ := trodAll_cons hA
  obtain ⟨v1, vs1, d1, ds1, p1, q1, rfl, rfl, rfl, h1, r1⟩ := trodAll_cons r0
  obtain ⟨rfl, rfl, rfl⟩ := trodAll_nil r1
  obtain rfl : args = #[v0, v1] := by cases args; simp_all
  obtain ⟨A0, n0, cap0, xs0, rfl, hn0, hmax0, hx0⟩ := open_intsAt (hval 0 _ v0 rfl rfl) h0
  obtain ⟨A1, n1, cap1, xs1, rfl, hn1, hmax1, hx1⟩ := open_steps (hval 1 _ v1 rfl rfl) h1 (fun x hx => hlt x (by simp [hx]))
  exact sound_walk A0 n0 cap0 xs0 A1 n1 cap1 xs1 W hn0 hmax0 hx0 hn1 hmax1 hx1

theorem sound_lifted (os : Os) (started : os.Started) (H : Type) (enc : TypeId × Value → H) :
    ReturnsInHanded {} Try.checked os 4 .any (Rows.vouchSoundSpec.pre6 enc Try.prog Try.f4 Rows.vouchSoundRow.domain false) (Rows.vouchSoundSpec.post enc Try.prog Try.f4 false true false false) :=
  law_lifted (s := Rows.vouchSoundSpec) (conds := Rows.vouchSoundRow.domain) Try.func4 (by kernel_rfl) rfl rfl
    (by
      rw [Try.params4]
      intro t ht
      simp only [List.mem_cons, List.not_mem_nil, or_false] at ht
      rcases ht with rfl | rfl
      all_goals exact ⟨by kernel_rfl, of_decide_eq_true (by kernel_rfl)⟩)
    (fun H ds h => by
      match ds, h with
      | [d0, d1], _ => exact ⟨rfl, rfl, rfl⟩) sound_law os started H enc
    (ChangeSpec.witness6 (enc := enc) (C := Try.checked) false ⟨#[], #[.slice none 0 0, .slice none 0 0], []⟩ 8 (by kernel_rfl) (by kernel_rfl) (by kernel_rfl) (by kernel_rfl))

theorem sound_holds : Rows.VouchSoundSaid :=
  OpenClaim.holds_of_wide 4 Try.f4 rfl rfl rfl rfl rfl rfl rfl ⟨rfl, rfl, rfl, rfl, rfl⟩ rfl rfl rfl rfl rfl (by kernel_rfl) Try.func4 (by kernel_rfl)
    (of_decide_eq_true (by kernel_rfl)) (by unfold Func.isWrapper; rw [if_neg (of_decide_eq_false (by kernel_rfl))]; exact ⟨rfl, rfl⟩)
    (fun os started H enc _ => sound_lifted os started H enc)
#print axioms sound_holds

end Go.Proofs.Ytjiilmobjgdenaa
