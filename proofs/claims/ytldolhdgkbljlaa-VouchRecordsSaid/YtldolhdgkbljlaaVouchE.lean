/-
  'Beat'.
-/
import Derived.Test.YtldolhdgkbljlaaVouchD
import Derived.StillTailTactics
import Derived.Deep.DeepCutAuto
namespace Go.Proofs.Ytldolhdgkbljlaa
open Go.RowKit

theorem applied_nil (p : Int) (w : World) : Calls Try.prog 24 #[.pointer none, .int .i64 p] w fun e w' => e = .returned (.tuple #[]) ∧ Fr [] w w' := by
  go_enter Try.func24, Try.ntmps24
  go_wp2_with fail
  go_quiet (fail)
  go_wp2
  refine bodyPost_ret (results_none rfl _ _ _) rfl ?_
  exact ⟨rfl, (((Fr.refl _ _).alloc _).alloc _).drewN _⟩
theorem beat_nil (p t : Int) (w : World) : Calls Try.prog 18 #[.pointer none, .int .i64 p, .int .i64 t] w fun e w' => e = .returned (.tuple #[]) ∧ Fr [] w w' := by
  go_enter Try.func18, Try.ntmps18
  go_wp2
  refine bodyPost_ret (results_none rfl _ _ _) rfl ?_
  exact ⟨rfl, (Fr.refl _ _).alloc _⟩

structure Vm.Ok (c : Vm.Clk) : Prop where
  pos : 0 ≤ c.applied
  keys : ∀ e ∈ c.L, c.applied < e.1
  len : c.L.length ≤ 64

/-- A beat that is not valid. -/
theorem beat_bad (b m : Nat) (c : Vm.Clk) (p t : Int) (w : World) (hclk : ClkAt w b m c) (hv : Vm.valid p t = false) :
    Calls Try.prog 18 #[.pointer (some ⟨b, 0, none⟩), .int .i64 p, .int .i64 t] w fun e w' => e = .returned (.tuple #[]) ∧ ClkAt w' b m (Vm.beat c p t) ∧ Fr [b, m] w w' := by
  have hb : Vm.beat c p t = c := by unfold Vm.beat; rw [hv]; rfl
  rw [hb]
  have hv' := Lib.hid hv
  clear hb
  go_enter Try.func18, Try.ntmps18
  go_wp2_with (go_at_call 49; refine (isValid_any _ _ _).mono ?_; rintro e w1 ⟨rfl, hf1⟩)
  refine bodyPost_ret (results_none rfl _ _ _) rfl ?_
  exact ⟨rfl, hclk.fr (((Fr.refl [] w).alloc _).trans hf1) (by simp) (by simp), ((Fr.refl _ _).alloc _).trans (hf1.mono (by simp))⟩

set_option maxRecDepth 100000 in
theorem beat_ok (b m : Nat) (c : Vm.Clk) (p t : Int) (w : World) (hclk : ClkAt w b m c) (hok : Vm.Ok c) (hv : Vm.valid p t = true) :
    Calls Try.prog 18 #[.pointer (some ⟨b, 0, none⟩), .int .i64 p, .int .i64 t] w fun e w' => e = .returned (.tuple #[]) ∧ ClkAt w' b m (Vm.beat c p t) ∧ Fr [b, m] w w' := by
  go_enter Try.func18, Try.ntmps18
  go_wp2_with (go_at_call 49; refine (isValid_any _ _ _).mono ?_; rintro e w1 ⟨rfl, hf1⟩)
  have hF1 : Fr [] w w1 := ((Fr.refl [] w).alloc _).trans hf1
  have hclk1 := hclk.fr hF1 (by simp) (by simp)
  have hbx : Blk w1 w.heap.size 87 #[.int .i64 p, .int .i64 t] := (Blk.new _ _ _).fr hf1 (by simp)
  have c2 := hclk1.blk.cell 2
  have c3 := hclk1.blk.cell 3
  have x0 := hbx.cell 0
  have x1 := hbx.cell 1
  simp only [clkCells] at c2 c3
  have hw1 := hbx.lt
  have hw2 := hclk1.blk.lt
  go_region_held3 (fun w' => w'.cell? ⟨w.heap.size, 0, none⟩ = some (.int .i64 p) ∧ w'.cell? ⟨w.heap.size, 1, none⟩ = some (.int .i64 t) ∧ w'.cell? ⟨b, 2, none⟩ = some (.int .i64 c.lp) ∧ w'.cell? ⟨b, 3, none⟩ = some (.int .i64 c.lt)) (first | go_keep | exact ⟨(hcc _ _ hw1).trans x0, (hcc _ _ hw1).trans x1, (hcc _ _ hw2).trans c2, (hcc _ _ hw2).trans c3⟩)
    (first
      | (go_at_call 50; refine (isLater_any _ _ _ _ _).mono ?_; rintro e w2 ⟨rfl, hf2⟩; obtain ⟨hcc, hff⟩ := hf2.rules))
  obtain ⟨lp3, hlp⟩ : ∃ x, x = if Vm.later p t c.lp c.lt = true then p else c.lp := ⟨_, rfl⟩
  obtain ⟨lt3, hlt⟩ : ∃ x, x = if Vm.later p t c.lp c.lt = true then t else c.lt := ⟨_, rfl⟩
  have HP := Lib.hid hlp
  have HT := Lib.hid hlt
  clear hlp hlt
  have hf2 : Fr [] w1 w2 := (Fr.refl [] w1).drew.trans hf2
  have hclk2 := hclk1.fr hf2 (by simp) (by simp)
  have hbx2 := hbx.fr hf2 (by simp)
  have F2 : Fr [b, m] w w2 := (hF1.mono (by simp)).trans (hf2.mono (by simp))
  go_upto_if 22 with fail
  go_cut [] (fun wc => ClkAt wc b m ⟨c.applied, c.asOf, lp3, lt3, c.L⟩ ∧ Fr [b, m] w wc)
  case first =>
    cases hla : Vm.later p t c.lp c.lt
    · go_wp2_with fail
      go_meet
      case rel => 
        refine ⟨?_, F2⟩
        rw [HP.out, HT.out, if_neg (by simp [hla]), if_neg (by simp [hla])]
        exact hclk2
    · have y0 := hbx2.cell 0
      have y1 := hbx2.cell 1
      have y2 := hclk2.blk.cell 2
      have y3 := hclk2.blk.cell 3
      have z2 := hclk2.blk.frozen 2
      have z3 := hclk2.blk.frozen 3
      go_wp2_with fail
      go_meet
      case rel =>
        refine ⟨⟨?_, (hclk2.map.setCell (p := ⟨b, 2, none⟩) hclk2.ne _).setCell (p := ⟨b, 3, none⟩) hclk2.ne _, hclk.keys⟩, (F2.setCell (.inl (by simp)) _).setCell (.inl (by simp)) _⟩
        rw [HP.out, HT.out, if_pos hla, if_pos hla]
        exact (hclk2.blk.set_ 2 _).set_ 3 _
  case rest =>
    obtain ⟨hclk3, F3⟩ := hcut
    have c0 : wc.cell? ⟨b, 0, none⟩ = some (.int .i64 c.applied) := hclk3.blk.cell 0
    have c4 : wc.cell? ⟨b, 4, none⟩ = some (.map (some m)) := hclk3.blk.cell 4
    have hvv := hv
    simp only [Vm.valid, decide_eq_true_eq] at hvv
    have hkp : okI p := WalkArith.wf_i64 (by omega)
    have hbeat : Vm.beat c p t = if p ≤ c.applied then ⟨c.applied, Vm.isMax c.asOf t, lp3, lt3, c.L⟩ else ⟨c.applied, c.asOf, lp3, lt3, Vm.wait c.L p t⟩ := by
      unfold Vm.beat
      rw [if_pos hv, HP.out, HT.out]
    have HB := Lib.hid hbeat
    clear hbeat
    by_cases hpa : p ≤ c.applied
    · go_wp2_with (go_at_call 51; refine (vouch_any _ _ _ _ _ hclk3).mono ?_; rintro e w4 ⟨rfl, hclk4, hf4⟩)
      refine bodyPost_ret (results_none rfl _ _ _) rfl ?_
      refine ⟨rfl, ?_, F3.trans (hf4.mono (by simp))⟩
      rw [HB.out, if_pos hpa]
      exact hclk4
    · obtain ⟨g, hg⟩ : ∃ g, g = (mget c.L p).getD 0 := ⟨_, rfl⟩
      have HG := Lib.hid hg
      have hlook : (Instr.lookup 85 (.map (some m)) (.int .i64 p) false).run Try.prog wc.drew = .ok (.int .i64 g) wc.drew := by
        have h1 := VMap.look tyII hclk3.map.drew p hkp false
        rw [h1, hg]
        cases mget c.L p <;> rfl
      clear hg
      have hlen : ∀ x, (mput c.L p x).length ≤ 65 := fun x => by
        have := length_mdel_le (M := c.L) (x := p)
        have := hok.len
        simp [mput]
        omega
      have hclk5 : ClkAt wc.drew b m ⟨c.applied, c.asOf, lp3, lt3, c.L⟩ := hclk3.fr (Fr.refl [] _).drew (by simp) (by simp)
      have F5 : Fr [b, m] w wc.drew := F3.drew
      obtain ⟨V, hVif⟩ : ∃ V, (if g < t then t else g) = V := ⟨_, rfl⟩
      have HV : Hid (V = Vm.isMax g t) := hVif.symm
      go_wp2_with fail
      go_still_tail 13, (by kernel_rfl)
      clear hVif
      change wpList _ _ _ _ _ wc.drew
      generalize wc.drew = w5 at hclk5 F5 ⊢
      go_wp2_with (first
        | (at_mapUpdate; refine wpList_vstore _ rfl _ _ _ rfl tyII m _ rfl hclk5.map p _ rfl rfl hkp (by have := hok.len; simp only [maxLen]; omega) ?_; intro w6 hm6 ht6; have F6 : Fr [m] w5 w6 := turned_fr ht6 (by simp); have hb6 := hclk5.blk.fr F6 (by simpa using fun e => hclk.ne e.symm); have d4 : w6.cell? ⟨b, 4, none⟩ = some (.map (some m)) := hb6.cell 4)
        | (at_len; refine wpList_vlen _ rfl _ rfl Try.underlying85 m _ rfl hm6 ?_))
      all_goals
        have hw : (if 64 < (mput c.L p V).length then mdel (mput c.L p V) (Vm.worst (mput c.L p V)).1 else mput c.L p V) = Vm.wait c.L p t := by
          rw [HV.out, HG.out]
          rfl
        have HW := Lib.hid hw
        clear hw
        have hkeys : ∀ e ∈ mput c.L p V, okI e.1 := by
          intro e he
          rcases mem_mput.1 he with rfl | ⟨h, _⟩
          · exact hkp
          · exact hclk.keys e h
        have hclk6 : ClkAt w6 b m ⟨c.applied, c.asOf, lp3, lt3, mput c.L p V⟩ := ⟨hb6, hm6, hkeys⟩
        have hpos6 : ∀ e ∈ mput c.L p V, 1 ≤ e.1 := by
          intro e he
          have := hok.pos
          rcases mem_mput.1 he with rfl | ⟨h, _⟩
          · show 1 ≤ p; omega
          · have := hok.keys e h; omega
        have F7 : Fr [b, m] w w6 := F5.trans (F6.mono (by simp))
        have HB2 : Vm.beat c p t = ⟨c.applied, c.asOf, lp3, lt3, Vm.wait c.L p t⟩ := by rw [HB.out, if_neg (by omega)]
        have HB3 := Lib.hid HB2
        clear HB2
      · have h64 : 64 < (mput c.L p V).length := by
          have : (64 : Int) < ((mput c.L p V).length : Int) := by assumption
          omega
        have hwl := Vm.worst_spec (mput c.L p V) hpos6
        have hkw : okI (Vm.worst (mput c.L p V)).1 := by
          rcases hwl with ⟨h, _⟩ | h
          · rw [h] at h64; simp at h64
          · exact hkeys _ h.1
        clear hwl
        have hb6l := hb6.lt
        have hbm : b ∉ [m] := by simpa using fun e => hclk.ne e.symm
        go_region_held3 (fun w' => w'.cell? ⟨b, 4, none⟩ = some (.map (some m))) (first | go_keep | exact (hcc _ _ hb6l).trans d4 | exact ((hb6.drew.fr hf8 (by simp)).fr (turned_fr (S := [m]) ht9 (by simp)) hbm).cell 4)
          (first
            | (go_at_call 52; refine (worst_any b m _ _ (hclk6.fr (Fr.refl [] _).drew (by simp) (by simp)) hpos6).mono ?_; rintro e w8 ⟨rfl, hf8⟩; obtain ⟨hcc, hff⟩ := hf8.rules)
            | ((refine step_vdel _ rfl _ _ rfl tyII m _ rfl (hm6.drew.fr hf8 (by simp)) _ rfl hkw ?_; intro w9 hm9 ht9)))
        go_wp2
        go_end0
        have hf8' : Fr [b, m] w w8 := F7.drew.trans (hf8.mono (by simp))
        refine ⟨rfl, ⟨?_, ?_, fun e he => ?_⟩, hf8'.trans ((turned_fr (S := [m]) ht9 (by simp)).mono (by simp))⟩
        · rw [HB3.out]
          exact (hb6.drew.fr hf8 (by simp)).fr (turned_fr (S := [m]) ht9 (by simp)) hbm
        · rw [HB3.out, ← HW.out, if_pos h64]
          exact hm9
        · rw [HB3.out, ← HW.out, if_pos h64] at he
          exact hkeys e (mem_mdel.1 he).1
      · go_end0
        refine ⟨rfl, ?_, F7⟩
        rw [HB3.out, ← HW.out, if_neg (by omega)]
        exact hclk6
end Go.Proofs.Ytldolhdgkbljlaa
