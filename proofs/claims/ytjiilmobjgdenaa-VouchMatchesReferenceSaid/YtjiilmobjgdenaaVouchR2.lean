/-
  The reference clock's Beat.
-/
import Derived.Test.YtjiilmobjgdenaaVouchR
import Derived.Test.YtjiilmobjgdenaaRow2
namespace Go.Proofs.Ytjiilmobjgdenaa
open Go.RowKit

/-- The reference clock after a valid beat. -/
def Rm.Beats (r : Rm.Clk) (p t : Int) (r' : Rm.Clk) : Prop :=
  r'.pos = r.pos ∧ r'.lp = (if Vm.later p t r.lp r.lt = true then p else r.lp) ∧ r'.lt = (if Vm.later p t r.lp r.lt = true then t else r.lt) ∧
  ((p ≤ r.pos ∧ r'.time = Vm.isMax r.time t ∧ r'.L = r.L) ∨ (r.pos < p ∧ r'.time = r.time ∧ Rm.Waits r.L p t r'.L))

set_option maxRecDepth 100000 in
set_option maxHeartbeats 2000000 in
theorem rbeat_ok (b : Nat) (v : Value) (r : Rm.Clk) (p t : Int) (w : World) (href : RefAt w b v r) (hlen : r.L.length ≤ 64) (hv : Vm.valid p t = true) :
    Calls Try.prog 15 #[.pointer (some ⟨b, 0, none⟩), .int .i64 p, .int .i64 t] w fun e w' => e = .returned (.tuple #[]) ∧ ∃ v' r', RefAt w' b v' r' ∧ Rm.Beats r p t r' ∧ Fr (fpR b v) w w' ∧ (v'.ownBlock = v.ownBlock ∨ ∃ g, v'.ownBlock = some g ∧ w.heap.size ≤ g) := by
  simp only [Vm.valid, decide_eq_true_eq] at hv
  obtain ⟨v1, v2, v3, v4⟩ := hv
  have c2 : w.cell? ⟨b, 2, none⟩ = some (.int .i64 r.lp) := href.blk.cell 2
  have c3 : w.cell? ⟨b, 3, none⟩ = some (.int .i64 r.lt) := href.blk.cell 3
  have f2 := href.blk.frozen 2
  have f3 := href.blk.frozen 3
  obtain ⟨lp3, hlp⟩ : ∃ x, x = if Vm.later p t r.lp r.lt = true then p else r.lp := ⟨_, rfl⟩
  obtain ⟨lt3, hlt⟩ : ∃ x, x = if Vm.later p t r.lp r.lt = true then t else r.lt := ⟨_, rfl⟩
  have HP := Lib.hid hlp
  have HT := Lib.hid hlt
  clear hlp hlt
  go_enter Try.func15, Try.ntmps15
  go_upto_region 1 with fail
  go_cut [50] (fun s50 wc => w = wc ∧ s50 = .bool (Vm.later p t r.lp r.lt))
  case first =>
    by_cases h1 : r.lt < t
    · have e1 : Vm.later p t r.lp r.lt = true := by simp only [Vm.later, decide_eq_true_eq]; exact .inl h1
      have E1 := Lib.hid e1
      clear e1
      go_wp2_with fail
      go_meet
      case rel => exact ⟨rfl, by rw [E1.out]⟩
    · by_cases h2 : r.lt = t
      · by_cases h3 : r.lp < p
        · have e1 : Vm.later p t r.lp r.lt = true := by simp only [Vm.later, decide_eq_true_eq]; exact .inr ⟨h2.symm, h3⟩
          have E1 := Lib.hid e1
          have hbeq : (t == r.lt) = true := by simp [h2]
          have H2 := Lib.hid h2
          clear e1 h2
          go_wp2_with fail
          go_meet
          case rel => exact ⟨rfl, by rw [E1.out]⟩
        · have e1 : Vm.later p t r.lp r.lt = false := by simp only [Vm.later, decide_eq_false_iff_not]; omega
          have E1 := Lib.hid e1
          have hbeq : (t == r.lt) = true := by simp [h2]
          have H2 := Lib.hid h2
          clear e1 h2
          go_wp2_with fail
          go_meet
          case rel => exact ⟨rfl, by rw [E1.out]⟩
      · have e1 : Vm.later p t r.lp r.lt = false := by simp only [Vm.later, decide_eq_false_iff_not]; omega
        have E1 := Lib.hid e1
        have hbeq : (t == r.lt) = false := by simp; omega
        clear e1
        go_wp2_with fail
        go_meet
        case rel => exact ⟨rfl, by rw [E1.out]⟩
  case rest =>
    obtain ⟨rfl, rfl⟩ := hcut
    go_upto_if 50 with fail
    go_cut [] (fun wc => RefAt wc b v ⟨r.pos, r.time, lp3, lt3, r.L⟩ ∧ Fr [b] w wc)
    case first =>
      cases hla : Vm.later p t r.lp r.lt
      · go_wp2_with fail
        go_meet
        case rel =>
          refine ⟨⟨?_, href.row⟩, Fr.refl _ _⟩
          rw [HP.out, HT.out, if_neg (by simp [hla]), if_neg (by simp [hla])]
          exact href.blk
      · go_wp2_with fail
        go_meet
        case rel =>
          have hF : Fr [b] w ((w.setCell ⟨b, 2, none⟩ (.int .i64 p)).setCell ⟨b, 3, none⟩ (.int .i64 t)) := ((Fr.refl _ _).setCell (.inl (by simp)) _).setCell (.inl (by simp)) _
          refine ⟨⟨?_, href.row.fr hF (fun g hg => by simpa using href.row.ne href.blk (by decide) hg)⟩, hF⟩
          rw [HP.out, HT.out, if_pos hla, if_pos hla]
          exact (href.blk.set_ 2 _).set_ 3 _
    case rest =>
      obtain ⟨href3, F3⟩ := hcut
      have c0 : wc.cell? ⟨b, 0, none⟩ = some (.int .i64 r.pos) := href3.blk.cell 0
      have c1 : wc.cell? ⟨b, 1, none⟩ = some (.int .i64 r.time) := href3.blk.cell 1
      have g1 := href3.blk.frozen 1
      by_cases hpa : p ≤ r.pos
      · by_cases hmx : r.time < t
        all_goals
          go_wp2_with fail
          refine bodyPost_ret (results_none rfl _ _ _) rfl ?_
          refine ⟨rfl, v, ⟨r.pos, Vm.isMax r.time t, lp3, lt3, r.L⟩, ?_, ⟨rfl, HP.out, HT.out, .inl ⟨hpa, rfl, rfl⟩⟩, (F3.mono (by simp [fpR])).setCell (.inl (by simp [fpR])) _, .inl rfl⟩
          have hF : Fr [b] wc (wc.setCell ⟨b, 1, none⟩ (.int .i64 (Vm.isMax r.time t))) := (Fr.refl _ _).setCell (.inl (by simp)) _
          have hR : RefAt (wc.setCell ⟨b, 1, none⟩ (.int .i64 (Vm.isMax r.time t))) b v ⟨r.pos, Vm.isMax r.time t, lp3, lt3, r.L⟩ :=
            ⟨href3.blk.set_ 1 _, href3.row.fr hF (fun g hg => by simpa using href3.row.ne href3.blk (by decide) hg)⟩
          have e1 : Vm.isMax r.time t = t ∨ Vm.isMax r.time t = r.time := by unfold Vm.isMax; split <;> simp
          first
            | (have e2 : Vm.isMax r.time t = t := if_pos (by omega)
               rw [e2] at hR ⊢; exact hR)
            | (have e2 : Vm.isMax r.time t = r.time := if_neg (by omega)
               rw [e2] at hR ⊢; exact hR)
      · obtain ⟨i0, TB⟩ := etB
        obtain ⟨A, cap, hva⟩ := href3.row.val
        subst hva
        have c3 : wc.cell? ⟨b, 3 + 1, none⟩ = some (.slice A r.L.length cap) := href3.blk.cell 4
        have c4 : wc.cell? ⟨b, 4, none⟩ = some (.slice A r.L.length cap) := href3.blk.cell 4
        have g4 := href3.blk.frozen 4
        have hrow := Lib.hid href3.row
        have hrows := fun (h : 0 < r.L.length) => href3.row.form encB_len h
        have HR := Lib.hid hrows
        clear hrows
        go_wp2_with fail
        go_loop [6] (fun s6 => ∃ j : Nat, j ≤ r.L.length ∧ s6 = .int .i64 j ∧ Hid (∀ i (h : i < r.L.length), i < j → r.L[i].1 ≠ p)) (fun s6 => r.L.length - (intOf s6).toNat)
        case atStart => exact ⟨0, Nat.zero_le _, rfl, fun i _ h => absurd h (by omega)⟩
        case round =>
          obtain ⟨j, hj, rfl, hno⟩ := hrel
          by_cases hjl : j < r.L.length
          · obtain ⟨gR, cap', hA, hlc, hcm, hgl, hcell, hfz⟩ := HR.out (by omega)
            cases hA
            have d0 : wc.cell? ⟨gR, j * 2, none⟩ = some (.int .i64 (r.L[j]).1) := hcell j hjl 0 (by decide)
            have d1 : wc.cell? ⟨gR, j * 2 + 1, none⟩ = some (.int .i64 (r.L[j]).2) := hcell j hjl 1 (by decide)
            have z1 := hfz (j * 2 + 1)
            obtain ⟨x, hx⟩ : ∃ x, r.L[j] = x := ⟨_, rfl⟩
            rw [hx] at d0 d1
            have HX := Lib.hid hx
            clear hx hcell hfz
            obtain ⟨x0, x1⟩ := x
            simp only at d0 d1
            by_cases hxp : x0 = p
            · subst hxp
              have b1 : (0 : Int) ≤ (j : Int) := by omega
              have b2 : (j : Int) < (r.L.length : Int) := by omega
              obtain ⟨V, hVif⟩ : ∃ V, (if x1 < t then t else x1) = V := ⟨_, rfl⟩
              have HV : Hid (V = Vm.isMax x1 t) := hVif.symm
              go_wp2_with fail
              go_still_tail 17, (by kernel_rfl)
              change wpList _ _ _ _ _ wc.drew
              clear hVif
              go_wp2_with fail
              refine bodyPost_ret (results_none rfl _ _ _) rfl ?_
              have hgb := href3.row.ne href3.blk (by decide) (g := gR) rfl
              have hr2 := hrow.out.set encB_len (g := gR) (i := j) (j := 1) rfl hjl (by decide) (.int .i64 V) (x0, V) (by rw [HX.out]; rfl)
              refine ⟨rfl, _, ⟨r.pos, r.time, lp3, lt3, r.L.set j (x0, V)⟩, ⟨(href3.blk.far (p := ⟨gR, j * 2 + 1, none⟩) (fun e => hgb e.symm) _).drew, hr2⟩,
                ⟨rfl, HP.out, HT.out, .inr ⟨by omega, rfl, .inl ⟨j, hjl, by rw [HX.out], by rw [HX.out, HV.out]⟩⟩⟩, ((F3.mono (by simp [fpR])).setCell (.inl (by simp [fpR, Value.ownBlock])) _).drew, .inl (by simp [Value.ownBlock])⟩
            · have hne : (x0 == p) = false := by simpa using hxp
              go_wp2_with fail
              go_round
              case rel => exact ⟨j + 1, by omega, by go_num, fun i h hi => by
                rcases Nat.lt_or_ge i j with h1 | h1
                · exact hno.out i h h1
                · have : i = j := by omega
                  subst this; rw [HX.out]; exact hxp⟩
              case measure => simp [intOf]; omega
          · have hjl' : j = r.L.length := by omega
            subst hjl'
            have hall : ∀ e ∈ r.L, e.1 ≠ p := fun e he => by
              obtain ⟨i, hi, rfl⟩ := List.getElem_of_mem he
              exact hno.out i hi hi
            have HALL := Lib.hid hall
            clear hall hno
            have hbne : some b ≠ (Value.slice A r.L.length cap).ownBlock := fun e => href3.row.ne href3.blk (by decide) e.symm rfl
            by_cases h64 : r.L.length + 1 ≤ 64
            all_goals
              go_wp2_with (at_builtin; refine wpList_appendL rfl _ _ rfl TB encB_len encB_one rfl (hrow.out.fr (S := []) ((Fr.refl _ _).alloc _) (by simp)) (wc.heap.size + 1) _ _ _ [(p, t)] rfl rfl (reads_new (enc := encB) wc 37 (p, t) rfl) (by simp only [maxLen, List.length_singleton]; omega) (by simp only [List.length_singleton]; omega) ?_; intro v5 w5 hrow5 hg5 hat5; obtain ⟨gR, cap5, hv5, hl5, hc5, hgl5, hcell5, hfz5⟩ := hrow5.form encB_len (by simp); subst hv5; have HC5 := Lib.hid hcell5; have HF5 := Lib.hid hfz5; have HA5 := Lib.hid hat5; have hb5 := (href3.blk.alloc (.cells #[.int .i64 p, .int .i64 t] 37)).grown hg5 hbne; have e4 : w5.cell? ⟨b, 4, none⟩ = some (.slice A r.L.length cap) := hb5.cell 4; have ef := hb5.frozen 4; clear hcell5 hfz5 hat5)
            · have hl : (r.L ++ [(p, t)]).length = r.L.length + 1 := by simp
              have hgb : gR ≠ b := hrow5.ne hb5 (by decide) rfl
              have hF6 : Fr (fpR b (.slice A r.L.length cap)) w (w5.setCell ⟨b, 4, none⟩ (.slice (some ⟨gR, 0, none⟩) (r.L.length + 1) cap5)) :=
                (((F3.mono (S' := fpR b (.slice A r.L.length cap)) (by simp [fpR])).alloc _).grown hg5 (fun g hg => .inl (by have hg' : (Value.slice A r.L.length cap).ownBlock = some g := hg; simp [fpR, hg']))).setCell (.inl (by simp [fpR])) _
              have hR6 : RefAt (w5.setCell ⟨b, 4, none⟩ (.slice (some ⟨gR, 0, none⟩) (r.L.length + 1) cap5)) b (.slice (some ⟨gR, 0, none⟩) (r.L.length + 1) cap5) ⟨r.pos, r.time, lp3, lt3, r.L ++ [(p, t)]⟩ :=
                ⟨hb5.set_ 4 _, OwnL.fr (S := [b]) (by rw [hl] at hrow5; exact hrow5) ((Fr.refl _ _).setCell (.inl (by simp)) _) (fun g hg => by simp [Value.ownBlock] at hg; subst hg; simpa using hgb)⟩
              refine bodyPost_ret (results_none rfl _ _ _) rfl ?_
              refine ⟨rfl, _, _, hR6, ⟨rfl, HP.out, HT.out, .inr ⟨by omega, rfl, .inr ⟨HALL.out, .inl ⟨h64, rfl⟩⟩⟩⟩, hF6, ?_⟩
              rcases HA5.out with h1 | h1
              · exact .inl h1
              · exact .inr ⟨_, h1, by have := F3.size; simp; omega⟩
            · go_outline
              have hl : (r.L ++ [(p, t)]).length = r.L.length + 1 := by simp
              have hgb : gR ≠ b := hrow5.ne hb5 (by decide) rfl
              have hF6 : Fr (fpR b (.slice A r.L.length cap)) w (w5.setCell ⟨b, 4, none⟩ (.slice (some ⟨gR, 0, none⟩) (r.L.length + 1) cap5)) :=
                (((F3.mono (S' := fpR b (.slice A r.L.length cap)) (by simp [fpR])).alloc _).grown hg5 (fun g hg => .inl (by have hg' : (Value.slice A r.L.length cap).ownBlock = some g := hg; simp [fpR, hg']))).setCell (.inl (by simp [fpR])) _
              have hR6 : RefAt (w5.setCell ⟨b, 4, none⟩ (.slice (some ⟨gR, 0, none⟩) (r.L.length + 1) cap5)) b (.slice (some ⟨gR, 0, none⟩) (r.L.length + 1) cap5) ⟨r.pos, r.time, lp3, lt3, r.L ++ [(p, t)]⟩ :=
                ⟨hb5.set_ 4 _, OwnL.fr (S := [b]) (by rw [hl] at hrow5; exact hrow5) ((Fr.refl _ _).setCell (.inl (by simp)) _) (fun g hg => by simp [Value.ownBlock] at hg; subst hg; simpa using hgb)⟩
              have HL := Lib.hid (Eq.refl (r.L ++ [(p, t)]))
              have hlc : r.L.length + 1 ≤ cap5 := by rw [hl] at hl5; exact hl5
              have hcm5 := hc5
              clear HC5 HF5 HA5 hb5 e4 ef hrow5 hg5 hl5 hrow HR
              generalize w5.setCell ⟨b, 4, none⟩ (.slice (some ⟨gR, 0, none⟩) (r.L.length + 1) cap5) = w6 at hF6 hR6 ⊢
              obtain ⟨L1, hL1⟩ : ∃ L1, L1 = r.L ++ [(p, t)] := ⟨_, rfl⟩
              rw [← hL1] at hR6 hl
              rw [← hl] at hlc hR6 ⊢
              have HL1 := Lib.hid hL1
              have hn1 : L1.length ≤ 65 := by omega
              have hn2 : 64 < L1.length := by omega
              have HN := Lib.hid hl
              clear HL hL1 hl
              go_loopw [7, 8] (fun s7 s8 wr => ∃ k i : Nat, k < i ∧ i ≤ L1.length ∧ s7 = .int .i64 k ∧ s8 = .int .i64 i ∧ Hid (Rm.NoWorse L1 i k) ∧ Hid (Fr [] w6 wr)) (fun _ s8 _ => L1.length - (intOf s8).toNat)
              case atStart => exact ⟨0, 1, by omega, by omega, rfl, rfl, Lib.hid (Rm.NoWorse.start (by omega)), Lib.hid (Fr.refl _ _)⟩
              case round =>
                obtain ⟨k, i, hki, hin, rfl, rfl, hnw, hfr⟩ := hrel
                have hRr := hR6.fr hfr.out (by simp)
                have c4 : wr.cell? ⟨b, 4, none⟩ = some (.slice (some ⟨gR, 0, none⟩) L1.length cap5) := hRr.blk.cell 4
                have c4' : ∀ o, (wr.alloc o).cell? ⟨b, 4, none⟩ = some (.slice (some ⟨gR, 0, none⟩) L1.length cap5) := fun o => (hRr.blk.alloc o).cell 4
                have z4 := hRr.blk.frozen 4
                obtain ⟨gR', cap', hv', hlc', hcm', hgl', hcell', hfz'⟩ := hRr.row.form encB_len (by show 0 < L1.length; omega)
                have hgg : gR' = gR := by injection hv' with h1; injection h1 with h1; injection h1 with h1; exact h1.symm
                subst hgg
                by_cases hil : i < L1.length
                · have ki : k < L1.length := by omega
                  have ii : i < L1.length := by omega
                  obtain ⟨x, hx⟩ : ∃ x, L1[i] = x := ⟨_, rfl⟩
                  obtain ⟨y, hy⟩ : ∃ y, L1[k] = y := ⟨_, rfl⟩
                  have d0 : wr.cell? ⟨gR', i * 2, none⟩ = some (.int .i64 x.1) := hx ▸ hcell' i ii 0 (by decide)
                  have d1 : wr.cell? ⟨gR', i * 2 + 1, none⟩ = some (.int .i64 x.2) := hx ▸ hcell' i ii 1 (by decide)
                  have k0 : ∀ o, (wr.alloc o).cell? ⟨gR', k * 2, none⟩ = some (.int .i64 y.1) := fun o => (World.cell?_alloc_lt wr o _ hgl').trans (hy ▸ hcell' k ki 0 (by decide))
                  have k1 : ∀ o, (wr.alloc o).cell? ⟨gR', k * 2 + 1, none⟩ = some (.int .i64 y.2) := fun o => (World.cell?_alloc_lt wr o _ hgl').trans (hy ▸ hcell' k ki 1 (by decide))
                  have HX := Lib.hid hx
                  have HY := Lib.hid hy
                  clear hx hy hcell' hfz' hv' hRr
                  obtain ⟨x0, x1⟩ := x
                  obtain ⟨y0, y1⟩ := y
                  simp only at d0 d1 k0 k1
                  have b1 : (0 : Int) ≤ (i : Int) := by omega
                  have b2 : (i : Int) < (L1.length : Int) := by omega
                  have b3 : (0 : Int) ≤ (k : Int) := by omega
                  have b4 : (k : Int) < (L1.length : Int) := by omega
                  have hfr2 : Hid (Fr [] w6 ((wr.alloc (.cells #[.int .i64 x0, .int .i64 x1] 37)).alloc (.cells #[.int .i64 y0, .int .i64 y1] 37))) := Lib.hid ((hfr.out.alloc _).alloc _)
                  by_cases q1 : x1 < y1
                  · go_wp2_with fail
                    go_roundw
                    case rel => exact ⟨i, i + 1, by omega, by omega, rfl, by go_num, Lib.hid (hnw.out.turn ii (fun hk => by rw [HX.out, HY.out]; simp only [Vm.worse, decide_eq_true_eq]; exact .inl q1)), hfr2⟩
                    case measure => simp [intOf]; omega
                  · by_cases q2 : x1 = y1
                    · by_cases q3 : y0 < x0
                      · have hbeq : (x1 == y1) = true := by simp [q2]
                        have Q2 := Lib.hid q2
                        clear q2
                        go_wp2_with fail
                        go_roundw
                        case rel => exact ⟨i, i + 1, by omega, by omega, rfl, by go_num, Lib.hid (hnw.out.turn ii (fun hk => by rw [HX.out, HY.out]; simp only [Vm.worse, decide_eq_true_eq]; exact .inr ⟨Q2.out, q3⟩)), hfr2⟩
                        case measure => simp [intOf]; omega
                      · have hbeq : (x1 == y1) = true := by simp [q2]
                        have Q2 := Lib.hid q2
                        clear q2
                        go_wp2_with fail
                        go_roundw
                        case rel => exact ⟨k, i + 1, by omega, by omega, rfl, by go_num, Lib.hid (hnw.out.keep (fun _ hk => by rw [HX.out, HY.out]; simp only [Vm.worse, decide_eq_false_iff_not]; have := Q2.out; omega)), hfr2⟩
                        case measure => simp [intOf]; omega
                    · have hbeq : (x1 == y1) = false := by simp; omega
                      go_wp2_with fail
                      go_roundw
                      case rel => exact ⟨k, i + 1, by omega, by omega, rfl, by go_num, Lib.hid (hnw.out.keep (fun _ hk => by rw [HX.out, HY.out]; simp only [Vm.worse, decide_eq_false_iff_not]; omega)), hfr2⟩
                      case measure => simp [intOf]; omega
                · have hine : i = L1.length := by omega
                  subst hine
                  have hkl : k < L1.length := by omega
                  have hrd : Reads wr wr.heap.size 2 (some ⟨gR', 0, none⟩) L1.length (L1.flatMap encB) := by have h1 := hRr.row.reads rfl; exact h1
                  have htk : (L1.take k).length = k := by rw [List.length_take]; omega
                  have hdk : (L1.drop (k + 1)).length = L1.length - (k + 1) := by rw [List.length_drop]
                  have HRD := Lib.hid hrd
                  clear hrd
                  have hmx : (65 : Nat) ≤ maxLen := by decide
                  have hm1 : ([] : List (Int × Int)).length + (L1.take k).length ≤ maxLen := by rw [htk, List.length_nil]; omega
                  have hm2 : ([] : List (Int × Int)).length + (L1.take k).length ≤ 70 := by rw [htk, List.length_nil]; omega
                  have hm3 : (L1.take k).length + (L1.drop (k + 1)).length ≤ maxLen := by rw [htk, hdk]; omega
                  have hm4 : (L1.take k).length + (L1.drop (k + 1)).length ≤ 70 := by rw [htk, hdk]; omega
                  have HM := Lib.hid (And.intro hm1 (And.intro hm2 (And.intro hm3 hm4)))
                  have HTK := Lib.hid (And.intro htk hdk)
                  clear hm1 hm2 hm3 hm4 htk hdk
                  go_wp2_with (at_builtin; first
                    | (refine wpList_appendL rfl _ _ rfl TB encB_len encB_one rfl hrow7 wr.heap.size _ _ _ (L1.drop (k + 1)) rfl HTK.out.2.symm (by have h1 := HR7.out.cutL encB_len (k := k + 1) (cap := cap5) (by omega) (by omega); first | (rw [if_pos (by omega)] at h1; exact h1) | (rw [if_neg (by omega)] at h1; simpa [Addr.add] using h1) | exact h1 | (split <;> rename_i hcc <;> first | (rw [if_pos hcc] at h1; exact h1) | (rw [if_neg hcc] at h1; simpa [Addr.add] using h1))) HM.out.2.2.1 (by have := HM.out.2.2.2; omega) ?_; intro v8 w8 hrow8 (hg8 : w7.grownBy w8 (Value.slice A7 k cap7).ownBlock) (hat8 : v8.ownBlock = (Value.slice A7 k cap7).ownBlock ∨ v8.ownBlock = some w7.heap.size); have hb8 := hb7.grown hg8 (fun e => hrow7.ne hb7 (by decide) e.symm rfl); have c48 : w8.cell? ⟨b, 4, none⟩ = some (.slice (some ⟨gR', 0, none⟩) L1.length cap5) := hb8.cell 4; have z48 := hb8.frozen 4; have hne8 := fun g hg => hrow8.ne hb8 (by decide) (g := g) hg; obtain ⟨A8, n8, cap8, hv8⟩ : ∃ A n c, v8 = .slice A n c := (match hrow8.val with | ⟨_, _, hv8⟩ => ⟨_, _, _, hv8⟩); subst hv8; have HG8 := Lib.hid hg8; have HA8 := Lib.hid hat8; have HB8 := Lib.hid hb8; have HR8 := Lib.hid hrow8; have HE8 := Lib.hid hne8; clear hg8 hat8 hb8 hrow8 hne8)
                    | (refine wpList_appendL rfl _ _ rfl TB encB_len encB_one rfl (OwnL.nil (X := Int × Int)) wr.heap.size _ _ _ (L1.take k) rfl HTK.out.1.symm (HRD.out.takeL encB_len (by omega)) HM.out.1 (by have := HM.out.2.1; omega) ?_; intro v7 w7 hrow7 (hg7 : wr.grownBy w7 none) hat7; rw [List.nil_append] at hrow7; have hb7 := hRr.blk.grown hg7 (by simp); have c47 : w7.cell? ⟨b, 4, none⟩ = some (.slice (some ⟨gR', 0, none⟩) L1.length cap5) := hb7.cell 4; have z47 := hb7.frozen 4; have HR7 := Lib.hid (HRD.out.grown hg7 (Nat.le_refl _) (by simp)); obtain ⟨A7, cap7, hv7⟩ := hrow7.val; rw [HTK.out.1] at hv7; subst hv7; have HG7 := Lib.hid hg7; have HA7 := Lib.hid hat7; clear hg7 hat7))
                  all_goals go_end0
                  all_goals
                    have hs6 := hF6.size
                    have hs7 := hfr.out.size
                    have hs8 := HG7.out.size
                    have hA7 : ∀ g, (Value.slice A7 k cap7).ownBlock = some g → w.heap.size ≤ g := fun g hg => by
                      rcases HA7.out with h1 | h1
                      · rw [hg] at h1; cases h1
                      · rw [hg] at h1; injection h1 with h1; omega
                    refine ⟨rfl, _, ⟨r.pos, r.time, lp3, lt3, L1.take k ++ L1.drop (k + 1)⟩, ⟨HB8.out.set_ 4 _, OwnL.fr (S := [b]) HR8.out ((Fr.refl _ _).setCell (.inl (by simp)) _) (fun g hg => by simpa using HE8.out g hg)⟩,
                      ⟨rfl, HP.out, HT.out, .inr ⟨by omega, rfl, .inr ⟨HALL.out, .inr ⟨by omega, k, ?_, ?_⟩⟩⟩⟩,
                      ((((hF6.trans (hfr.out.mono (by simp))).grown HG7.out (fun g hg => by cases hg)).grown HG8.out (fun g hg => .inr (hA7 g hg))).setCell (.inl (by simp [fpR])) _), ?_⟩
                    · rw [← HL1.out, ← HN.out]; exact hnw.out
                    · rw [← HL1.out, List.eraseIdx_eq_take_drop_succ]
                    · right
                      obtain ⟨g, c8, hv, _⟩ := HR8.out.form encB_len (by have := HTK.out; rw [List.length_append]; omega)
                      refine ⟨g, by rw [hv]; rfl, ?_⟩
                      rcases HA8.out with h1 | h1
                      · rw [hv] at h1; exact hA7 g h1.symm
                      · rw [hv] at h1; injection h1 with h1; simp at h1; omega
end Go.Proofs.Ytjiilmobjgdenaa
