/-
  VouchMatchesReferenceSaid is proved: for every input the law returns true and leaves its arguments as they were. No condition.
-/
import Derived.Test.YtjiilmobjgdenaaVouchS
import Derived.Test.YtjiilmobjgdenaaVouchSound
import Derived.Deep.LoopGhost
import Derived.BigQuiet
namespace Go.Proofs.Ytjiilmobjgdenaa
open Go.RowKit Go.WideShapes Go.ChangeShapes

theorem Blk.apart {w : World} {g g' t t' : Nat} {cs cs' : Array Value} (h : Blk w g t cs) (k : Blk w g' t' cs') (hne : t ≠ t') : g ≠ g' := by
  rintro rfl
  unfold Blk at h k
  rw [h] at k
  injection k with k
  injection k with _ k
  exact hne k

structure MRel (W : World) (b m y : Nat) (v : Value) (c : Vm.Clk) (r : Rm.Clk) (wr : World) : Prop where
  clk : ClkAt wr b m c
  ok : Vm.Ok c
  ref : RefAt wr y v r
  sim : Rm.Sim c r
  fr : Fr [] W wr
  hb : W.heap.size ≤ b
  hm : W.heap.size ≤ m
  hy : W.heap.size ≤ y
  hv : ∀ g, v.ownBlock = some g → W.heap.size ≤ g

theorem MRel.sep {W wr : World} {b m y : Nat} {v : Value} {c : Vm.Clk} {r : Rm.Clk} (R : MRel W b m y v c r wr) : (∀ i ∈ fpR y v, i ≠ b ∧ i ≠ m) := by
  intro i hi
  simp only [fpR, List.mem_cons, Option.mem_toList] at hi
  rcases hi with rfl | hi
  · exact ⟨R.ref.blk.apart R.clk.blk (by decide), fun e => R.clk.map.ne R.ref.blk e.symm⟩
  · refine ⟨R.ref.row.ne R.clk.blk (by decide) hi, fun e => ?_⟩
    rcases R.ref.row.2 with ⟨rfl, _⟩ | ⟨g', cap, cur, rfl, _, hh, _⟩
    · simp [Value.ownBlock] at hi
    · simp [Value.ownBlock] at hi
      subst hi
      exact R.clk.map.ne hh e.symm
theorem MRel.mid {W wr w4 : World} {b m y : Nat} {v : Value} {c : Vm.Clk} {r : Rm.Clk} (R : MRel W b m y v c r wr) (f4 : Fr [b, m] wr w4) : RefAt w4 y v r :=
  R.ref.fr f4 (fun i hi => by have := R.sep i hi; simp; exact this)
theorem MRel.next {W wr w4 w5 : World} {b m y : Nat} {v v' : Value} {c c' : Vm.Clk} {r r' : Rm.Clk} (R : MRel W b m y v c r wr) (f4 : Fr [b, m] wr w4) (h4 : ClkAt w4 b m c') (hok : Vm.Ok c')
    (f5 : Fr (fpR y v) w4 w5) (h5 : RefAt w5 y v' r') (hown : v'.ownBlock = v.ownBlock ∨ ∀ g, v'.ownBlock = some g → w4.heap.size ≤ g) (hs : Rm.Sim c' r') : MRel W b m y v' c' r' w5 := by
  have s1 := R.fr.size
  have s2 := f4.size
  refine ⟨h4.fr f5 (fun h => (R.sep _ h).1 rfl) (fun h => (R.sep _ h).2 rfl), hok, h5, hs, (R.fr.trans' f4 (by have := R.hb; have := R.hm; simp; omega)).trans' f5 (fun i hi => ?_), R.hb, R.hm, R.hy, fun g hg => ?_⟩
  · right
    simp only [fpR, List.mem_cons, Option.mem_toList] at hi
    rcases hi with rfl | hi
    · exact R.hy
    · exact R.hv i hi
  · rcases hown with h1 | h1
    · exact R.hv g (h1 ▸ hg)
    · have := h1 g hg; omega
theorem MRel.anew {W wr w4 w5 : World} {b m m' y y' : Nat} {v v' : Value} {c : Vm.Clk} {r : Rm.Clk} (R : MRel W b m y v c r wr) (f4 : Fr [b] wr w4) (h4 : ClkAt w4 b m' Vm.new) (hm' : W.heap.size ≤ m')
    (f5 : Fr [] w4 w5) (h5 : RefAt w5 y' v' Rm.new) (hy' : w4.heap.size ≤ y') (hv' : v'.ownBlock = none) : MRel W b m' y' v' Vm.new Rm.new w5 := by
  have s1 := R.fr.size
  have s2 := f4.size
  exact ⟨h4.fr f5 (by simp) (by simp), Vm.ok_new, h5, Rm.Sim.new, (R.fr.trans' f4 (by have := R.hb; simp; omega)).trans f5, R.hb, hm', by omega, fun g hg => by rw [hv'] at hg; cases hg⟩

theorem MRel.drewN {W wr : World} {b m y : Nat} {v : Value} {c : Vm.Clk} {r : Rm.Clk} (R : MRel W b m y v c r wr) (j : Nat) : MRel W b m y v c r (wr.drewN j) :=
  have hF : Fr [] wr (wr.drewN j) := (Fr.refl _ _).drewN j
  ⟨R.clk.fr hF (by simp) (by simp), R.ok, R.ref.fr hF (by simp), R.sim, R.fr.trans hF, R.hb, R.hm, R.hy, R.hv⟩
theorem MRel.drew {W wr : World} {b m y : Nat} {v : Value} {c : Vm.Clk} {r : Rm.Clk} (R : MRel W b m y v c r wr) : MRel W b m y v c r wr.drew :=
  have hF : Fr [] wr wr.drew := (Fr.refl _ _).drew
  ⟨R.clk.fr hF (by simp) (by simp), R.ok, R.ref.fr hF (by simp), R.sim, R.fr.trans hF, R.hb, R.hm, R.hy, R.hv⟩

theorem quiet_left {P : Program} {f : FuncId} {args : Array Value} {w : World} {n : Nat} {v : Value}
    (h : Calls P f args (w.drewN n) fun e w' => e = .returned v ∧ w.drewN n = w') : Calls P f args (w.drewN n) fun e w'' => e = .returned v ∧ ∃ m, w'' = w.drewN m :=
  h.mono fun _ _ ⟨he, hm⟩ => ⟨he, n, hm.symm⟩

theorem rbeat_any (y : Nat) (v : Value) (r : Rm.Clk) (c : Vm.Clk) (p t : Int) (w : World) (href : RefAt w y v r) (hsim : Rm.Sim c r) (hok : Vm.Ok c) (hnd : Nd c.L) :
    Calls Try.prog 15 #[.pointer (some ⟨y, 0, none⟩), .int .i64 p, .int .i64 t] w fun e w' => e = .returned (.tuple #[]) ∧ ∃ v' r', RefAt w' y v' r' ∧ Rm.Sim (Vm.beat c p t) r' ∧ Fr (fpR y v) w w' ∧ (v'.ownBlock = v.ownBlock ∨ ∀ g, v'.ownBlock = some g → w.heap.size ≤ g) := by
  cases hv : Vm.valid p t
  · refine (rbeat_bad y p t w hv).mono ?_
    rintro e w' ⟨rfl, rfl⟩
    refine ⟨rfl, v, r, href, ?_, Fr.refl _ _, .inl rfl⟩
    rcases Vm.beat_cases c p t with ⟨_, e⟩ | ⟨h1, _⟩ | ⟨h1, _⟩
    · rw [e]; exact hsim
    · rw [hv] at h1; cases h1
    · rw [hv] at h1; cases h1
  · refine (rbeat_ok y v r p t w href (hsim.len hok) hv).mono ?_
    rintro e w' ⟨rfl, v', r', h1, h2, h3, h4⟩
    refine ⟨rfl, v', r', h1, hsim.beat hok hnd hv h2, h3, ?_⟩
    rcases h4 with h4 | ⟨g, h4, h5⟩
    · exact .inl h4
    · exact .inr fun g' hg' => by rw [h4] at hg'; injection hg' with e; omega

set_option maxRecDepth 100000 in
set_option maxHeartbeats 2000000 in
theorem match_walk (A : Option Addr) (n cap : Nat) (xs : List Stp) (raw : Bool) (W : World) (hn : xs.length = n) (_hmax : n ≤ maxLen) (hx2 : n = 0 ∨ ∃ b0 off, A = some ⟨b0, off, none⟩ ∧ StepsAt W b0 off xs) :
    Calls Try.prog 3 #[.slice A n cap, .bool raw] W fun e W' => e = .returned (.bool true) ∧ Below W.heap.size W W' := by
  have hmax := _hmax
  unfold maxLen at hmax
  go_enter Try.func3, Try.ntmps3
  go_wp2_with fail
  refine (sane_any _).mono ?_
  rintro e w1 ⟨rfl, f1⟩
  go_wp2_with fail
  refine (new_any _).mono ?_
  rintro e w3 ⟨rfl, hclk3, f3⟩
  have s1 := f1.size
  have s3 := f3.size
  generalize hb : w1.heap.size + 1 = b at *
  generalize hm : w1.heap.size = m at *
  have Hb := Lib.hid hb
  have Hm := Lib.hid hm
  clear hb hm
  go_wp2_with fail
  refine (rnew_any _).mono ?_
  rintro e w4 ⟨rfl, href4, f4⟩
  have hs3 : W.heap.size ≤ w3.heap.size := (f1.trans f3).size
  have R0 : MRel W b m w3.heap.size (.slice none 0 0) Vm.new Rm.new w4 :=
    ⟨hclk3.fr f4 (by simp) (by simp), Vm.ok_new, href4, Rm.Sim.new, (f1.trans f3).trans f4, by have := Hb.out; omega, by have := Hm.out; omega, hs3, fun g hg => by simp [Value.ownBlock] at hg⟩
  generalize w3.heap.size = y at *
  clear f1 f3 hclk3 s1 s3 f4 href4 hs3 Hb Hm
  go_wp2_with fail
  go_loopg [7, 8] n (fun gk s7 s8 wr => ∃ (k m y : Nat) (v : Value) (c : Vm.Clk) (r : Rm.Clk), k ≤ n ∧ k ≤ 120 ∧ gk = n - k ∧ s7 = .pointer (some ⟨y, 0, none⟩) ∧ s8 = .int .i64 k ∧ MRel W b m y v c r wr)
  case atStart => exact ⟨0, m, y, _, _, _, Nat.zero_le _, Nat.zero_le _, rfl, rfl, rfl, R0⟩
  case round =>
    obtain ⟨k, m, y, v, c, r, hk, hk120, rfl, rfl, rfl, R⟩ := hrel
    by_cases hlt : k < n ∧ k < 120
    · obtain ⟨hl1, hl2⟩ := hlt
      obtain ⟨b0, off, hA2, hx⟩ := hx2.resolve_left (by omega)
      subst hA2
      clear hx2
      have hxr := hx.fr R.fr
      have hc0 := hxr.cell0 k (by omega)
      have hc1 := hxr.cell1 k (by omega)
      have hc2 := hxr.cell2 k (by omega)
      obtain ⟨o0, o1, o2⟩ := hx.wf _ (List.getElem_mem (show k < xs.length by omega))
      obtain ⟨x, hxx⟩ : ∃ x, xs[k]'(by omega) = x := ⟨_, rfl⟩
      rw [hxx] at hc0 hc1 hc2 o0 o1 o2
      clear hxx
      have o0 := okI_bounds o0
      have o1 := okI_bounds o1
      have o2 := okI_bounds o2
      have hp0 := Lib.hid (fun w => pick_any x.call 40 w o0.1 o0.2 (by decide) (by decide))
      have hp1 := Lib.hid (fun w => pick_any x.pos 101 w o1.1 o1.2 (by decide) (by decide))
      have hp2 := Lib.hid (fun w => pick_any x.time 200 w o2.1 o2.2 (by decide) (by decide))
      have y3 := pickI_nonneg x.time (show (1 : Int) ≤ 200 by decide)
      have y4 := pickI_lt x.time (show (1 : Int) ≤ 200 by decide)
      obtain ⟨x0, x1, x2⟩ := x
      simp only at hc0 hc1 hc2 hp0 hp1 hp2 y3 y4
      obtain ⟨q, hq⟩ : ∃ q, pickI x2 200 = q := ⟨_, rfl⟩
      rw [hq] at hp2 y3 y4
      have q1 : IntKind.i64.wrap (1 + q) = 1 + q := IntWalk.i64_in _ (by omega)
      clear hq hx hxr
      go_upto_if 37 with fail
      go_cut [9, 10] (fun s9 s10 wc => ∃ p t : Int, s9 = .int .i64 p ∧ s10 = .int .i64 t ∧ wr = wc)
      case first =>
        cases raw
        · go_wp2_with (first
            | (go_at_call 10; ((with_reducible refine (hp1.out _).mono ?_); rintro e w' ⟨rfl, rfl⟩))
            | (go_at_call 10; ((with_reducible refine (hp2.out _).mono ?_); rintro e w' ⟨rfl, rfl⟩)))
          go_meet
          case rel => exact ⟨_, _, rfl, rfl, rfl⟩
        · go_wp2_with fail
          go_meet
          case rel => exact ⟨_, _, rfl, rfl, rfl⟩
      case rest =>
        obtain ⟨p, t, rfl, rfl, rfl⟩ := hcut
        obtain ⟨u, hu⟩ : ∃ u, pickI x0 40 = u := ⟨_, rfl⟩
        rw [hu] at hp0
        clear hu hp1 hp2 y3 y4 q1
        by_cases hB : u = 0 ∨ u = 2
        · rcases hB with rfl | rfl
          all_goals
            go_wp2_with (go_at_call 10; ((with_reducible refine (hp0.out _).mono ?_); rintro e w' ⟨rfl, rfl⟩))
            refine (applied_any b m c p wr R.clk).mono ?_
            rintro e w4 ⟨rfl, h4, f4⟩
            have href4 := R.mid f4
            go_wp2_with fail
            refine (rapplied_any y v r p w4 href4 (R.sim.len R.ok)).mono ?_
            rintro e w5 ⟨rfl, v5, h5, f5, own5⟩
            have R5 := R.next f4 h4 (R.ok.applied p) f5 h5 own5 (R.sim.applied p)
            clear href4 f4 h4 f5 h5 own5 R
            obtain ⟨c5, hc5⟩ : ∃ c5, Vm.applied c p = c5 := ⟨_, rfl⟩
            obtain ⟨r5, hr5⟩ : ∃ r5, Rm.applied r p = r5 := ⟨_, rfl⟩
            rw [hc5, hr5] at R5
            clear hc5 hr5

            have S := R5.sim
            have k1 : w5.cell? ⟨y, 1, none⟩ = some (.int .i64 c5.asOf) := by rw [S.time]; exact R5.ref.blk.cell 1
            have k2 : w5.cell? ⟨y, 2, none⟩ = some (.int .i64 c5.lp) := by rw [S.lp]; exact R5.ref.blk.cell 2
            have k3 : w5.cell? ⟨y, 3, none⟩ = some (.int .i64 c5.lt) := by rw [S.lt]; exact R5.ref.blk.cell 3
            clear S
            go_wp2_with fail
            refine (latest_any b m c5 w5 R5.clk).mono ?_
            rintro e w6 ⟨rfl, j, hj⟩
            have R6 : MRel W b m y v5 c5 r5 w6 := by rw [hj]; exact R5.drewN j
            replace k1 : w6.cell? ⟨y, 1, none⟩ = some (.int .i64 c5.asOf) := by rw [hj]; exact k1
            replace k2 : w6.cell? ⟨y, 2, none⟩ = some (.int .i64 c5.lp) := by rw [hj]; exact k2
            replace k3 : w6.cell? ⟨y, 3, none⟩ = some (.int .i64 c5.lt) := by rw [hj]; exact k3
            clear hj R5
            go_wp2_with fail
            go_quiet ((go_at_call 17; exact quiet_left (asOf_any b m c5 _ (R6.drewN _).clk)))
            go_wp2_with fail
            go_roundg (n - (k + 1))
            case measure => omega
            case rel => exact ⟨k + 1, m, y, v5, c5, r5, by omega, by omega, rfl, rfl, by go_num, R6.drewN _⟩
        · by_cases hB1 : u = 1
          · subst hB1
            go_wp2_with (go_at_call 10; ((with_reducible refine (hp0.out _).mono ?_); rintro e w' ⟨rfl, rfl⟩))
            refine (reset_any b m c wr R.clk).mono ?_
            rintro e w4 ⟨rfl, h4, f4⟩
            have hmW : W.heap.size ≤ wr.heap.size := R.fr.size
            generalize wr.heap.size = m5 at h4 hmW ⊢
            go_wp2_with fail
            refine (rnew_any w4).mono ?_
            rintro e w5 ⟨rfl, h5, f5⟩
            have R5 := R.anew f4 h4 hmW f5 h5 (Nat.le_refl _) rfl
            clear f4 h4 f5 h5 R hmW
            generalize w4.heap.size = y5 at R5 ⊢
            obtain ⟨c5, hc5⟩ : ∃ c5, Vm.new = c5 := ⟨_, rfl⟩
            obtain ⟨r5, hr5⟩ : ∃ r5, Rm.new = r5 := ⟨_, rfl⟩
            obtain ⟨v5, hv5⟩ : ∃ v5, Value.slice none 0 0 = v5 := ⟨_, rfl⟩
            rw [hc5, hr5, hv5] at R5
            clear hc5 hr5 hv5

            have S := R5.sim
            have k1 : w5.cell? ⟨y5, 1, none⟩ = some (.int .i64 c5.asOf) := by rw [S.time]; exact R5.ref.blk.cell 1
            have k2 : w5.cell? ⟨y5, 2, none⟩ = some (.int .i64 c5.lp) := by rw [S.lp]; exact R5.ref.blk.cell 2
            have k3 : w5.cell? ⟨y5, 3, none⟩ = some (.int .i64 c5.lt) := by rw [S.lt]; exact R5.ref.blk.cell 3
            clear S
            go_wp2_with fail
            refine (latest_any b m5 c5 w5 R5.clk).mono ?_
            rintro e w6 ⟨rfl, j, hj⟩
            have R6 : MRel W b m5 y5 v5 c5 r5 w6 := by rw [hj]; exact R5.drewN j
            replace k1 : w6.cell? ⟨y5, 1, none⟩ = some (.int .i64 c5.asOf) := by rw [hj]; exact k1
            replace k2 : w6.cell? ⟨y5, 2, none⟩ = some (.int .i64 c5.lp) := by rw [hj]; exact k2
            replace k3 : w6.cell? ⟨y5, 3, none⟩ = some (.int .i64 c5.lt) := by rw [hj]; exact k3
            clear hj R5
            go_wp2_with fail
            go_quiet ((go_at_call 17; exact quiet_left (asOf_any b m5 c5 _ (R6.drewN _).clk)))
            go_wp2_with fail
            go_roundg (n - (k + 1))
            case measure => omega
            case rel => exact ⟨k + 1, m5, y5, v5, c5, r5, by omega, by omega, rfl, rfl, by go_num, R6.drewN _⟩
          · have hu0 : (u == 0) = false := by simpa using fun e => hB (.inl e)
            have hu1 : (u == 1) = false := by simpa using hB1
            have hu2 : (u == 2) = false := by simpa using fun e => hB (.inr e)
            clear hB hB1
            go_wp2_with (go_at_call 10; ((with_reducible refine (hp0.out _).mono ?_); rintro e w' ⟨rfl, rfl⟩))
            refine (beat_any b m c p t wr R.clk R.ok).mono ?_
            rintro e w4 ⟨rfl, h4, f4⟩
            have href4 := R.mid f4
            go_wp2_with fail
            refine (rbeat_any y v r c p t w4 href4 R.sim R.ok R.clk.nd).mono ?_
            rintro e w5 ⟨rfl, v5, r5, h5, hs5, f5, own5⟩
            have R5 := R.next f4 h4 (R.ok.beat p t) f5 h5 own5 hs5
            clear href4 f4 h4 f5 h5 own5 hs5 R
            obtain ⟨c5, hc5⟩ : ∃ c5, Vm.beat c p t = c5 := ⟨_, rfl⟩
            rw [hc5] at R5
            clear hc5

            have S := R5.sim
            have k1 : w5.cell? ⟨y, 1, none⟩ = some (.int .i64 c5.asOf) := by rw [S.time]; exact R5.ref.blk.cell 1
            have k2 : w5.cell? ⟨y, 2, none⟩ = some (.int .i64 c5.lp) := by rw [S.lp]; exact R5.ref.blk.cell 2
            have k3 : w5.cell? ⟨y, 3, none⟩ = some (.int .i64 c5.lt) := by rw [S.lt]; exact R5.ref.blk.cell 3
            clear S
            go_wp2_with fail
            refine (latest_any b m c5 w5 R5.clk).mono ?_
            rintro e w6 ⟨rfl, j, hj⟩
            have R6 : MRel W b m y v5 c5 r5 w6 := by rw [hj]; exact R5.drewN j
            replace k1 : w6.cell? ⟨y, 1, none⟩ = some (.int .i64 c5.asOf) := by rw [hj]; exact k1
            replace k2 : w6.cell? ⟨y, 2, none⟩ = some (.int .i64 c5.lp) := by rw [hj]; exact k2
            replace k3 : w6.cell? ⟨y, 3, none⟩ = some (.int .i64 c5.lt) := by rw [hj]; exact k3
            clear hj R5
            go_wp2_with fail
            go_quiet ((go_at_call 17; exact quiet_left (asOf_any b m c5 _ (R6.drewN _).clk)))
            go_wp2_with fail
            go_roundg (n - (k + 1))
            case measure => omega
            case rel => exact ⟨k + 1, m, y, v5, c5, r5, by omega, by omega, rfl, rfl, by go_num, R6.drewN _⟩
    · by_cases h1 : k < n
      · have h2 : k = 120 := by omega
        subst h2
        go_wp2_with fail
        go_ret
        exact ⟨rfl, R.fr.below⟩
      · have h2 : k = n := by omega
        subst h2
        go_wp2_with fail
        go_ret
        exact ⟨rfl, R.fr.below⟩

theorem match_law : LawWalk 3 Try.f3 := by
  intro H enc W base args ds p hval0 hA0 hlt hsz
  have hval : ∀ (j : Nat) t v, Try.f3.params[j]? = some t → args[j]? = some v → Value.okWide Try.prog W .any base t v := hval0
  have hA : DataW.TrodAll enc Try.prog W 0 (fun _ => true) true Try.f3.params.toList args.toList ds p := hA0
  clear hA0 hval0 hsz
  rw [Try.params3] at hA hval
  obtain ⟨v0, vs0, d0, ds0, p0, q0, hargs, rfl, rfl, h0, r0⟩ := trodAll_cons hA
  obtain ⟨v1, vs1, d1, ds1, p1, q1, rfl, rfl, rfl, h1, r1⟩ := trodAll_cons r0
  obtain ⟨rfl, rfl, rfl⟩ := trodAll_nil r1
  obtain rfl : args = #[v0, v1] := by cases args; simp_all
  obtain ⟨A0, n0, cap0, xs0, rfl, hn0, hmax0, hx0⟩ := open_steps (hval 0 _ v0 rfl rfl) h0 (fun x hx => hlt x (by simp [hx]))
  obtain ⟨x1, rfl, rfl, rfl⟩ := open_bool Try.underlying4 (hval 1 _ v1 rfl rfl) h1
  exact match_walk A0 n0 cap0 xs0 x1 W hn0 hmax0 hx0

theorem match_lifted (os : Os) (started : os.Started) (H : Type) (enc : TypeId × Value → H) :
    ReturnsInHanded {} Try.checked os 3 .any (Rows.vouchMatchesReferenceSpec.pre6 enc Try.prog Try.f3 Rows.vouchMatchesReferenceRow.domain false) (Rows.vouchMatchesReferenceSpec.post enc Try.prog Try.f3 false true false false) :=
  law_lifted (s := Rows.vouchMatchesReferenceSpec) (conds := Rows.vouchMatchesReferenceRow.domain) Try.func3 (by kernel_rfl) rfl rfl
    (by
      rw [Try.params3]
      intro t ht
      simp only [List.mem_cons, List.not_mem_nil, or_false] at ht
      rcases ht with rfl | rfl
      all_goals exact ⟨by kernel_rfl, of_decide_eq_true (by kernel_rfl)⟩)
    (fun H ds h => by
      match ds, h with
      | [d0, d1], _ => exact ⟨rfl, rfl, rfl⟩) match_law os started H enc
    (ChangeSpec.witness6 (enc := enc) (C := Try.checked) false ⟨#[], #[.slice none 0 0, .bool false], []⟩ 8 (by kernel_rfl) (by kernel_rfl) (by kernel_rfl) (by kernel_rfl))

theorem match_holds : Rows.VouchMatchesReferenceSaid :=
  OpenClaim.holds_of_wide 3 Try.f3 rfl rfl rfl rfl rfl rfl rfl ⟨rfl, rfl, rfl, rfl, rfl⟩ rfl rfl rfl rfl rfl (by kernel_rfl) Try.func3 (by kernel_rfl)
    (of_decide_eq_true (by kernel_rfl)) (by unfold Func.isWrapper; rw [if_neg (of_decide_eq_false (by kernel_rfl))]; exact ⟨rfl, rfl⟩)
    (fun os started H enc _ => match_lifted os started H enc)
#print axioms match_holds


end Go.Proofs.Ytjiilmobjgdenaa
