/-
  VouchRecords: the walk.
-/
import Derived.Test.YtldolhdgkbljlaaVrA
namespace Go.Proofs.Ytldolhdgkbljlaa
open Go.RowKit Go.WideShapes Go.ChangeShapes

theorem OwnR.keepS {w w' : World} {v : Value} {out : List Rec} {b m : Nat} {s : Sm.Sta} (h : OwnR w v out) (hs : StaAt w b m s) (hf : Fr [b, m] w w') : OwnR w' v out := by
  obtain ⟨us, h1, _⟩ := id h
  exact h.fr hf (fun g hg => by
    have e1 := h1.ne hs.blk (by decide) hg
    have e2 := h1.ne_map hs.map hg
    simp [e1, e2]) (NoC.cons (noC_blk hs.blk (by decide)) (NoC.cons (noC_map hs.map) NoC.nil))

set_option maxRecDepth 100000 in
set_option maxHeartbeats 2000000 in
theorem vr_walk (A1 : Option Addr) (n1 cap1 : Nat) (hs : List Int) (A2 : Option Addr) (n cap : Nat) (xs : List Stp) (W : World) (hn1 : hs.length = n1) (hmax1 : n1 ≤ maxLen) (hx1 : n1 = 0 ∨ ∃ b off, A1 = some ⟨b, off, none⟩ ∧ IntsAt W b off hs)
    (hn : xs.length = n) (_hmax : n ≤ maxLen) (hx2 : n = 0 ∨ ∃ b0 off, A2 = some ⟨b0, off, none⟩ ∧ StepsAt W b0 off xs) :
    Calls Try.prog 3 #[.slice A1 n1 cap1, .slice A2 n cap] W fun e W' => e = .returned (.bool true) ∧ Below W.heap.size W W' := by
  have hmax := _hmax
  unfold maxLen at hmax
  go_enter Try.func3, Try.ntmps3
  go_wp2_with fail
  refine (sane_any _).mono ?_
  rintro e w1 ⟨rfl, f1⟩
  go_wp2_with fail
  refine (history_any A1 n1 cap1 hs w1 hn1 hmax1 (hx1.imp id (fun ⟨b, off, h1, h2⟩ => ⟨b, off, h1, h2.fr f1⟩))).mono ?_
  rintro e w2 ⟨rfl, hh, f2⟩
  go_wp2_with fail
  refine (new_any _).mono ?_
  rintro e w3 ⟨rfl, hclk3, f3⟩
  go_wp2_with fail
  refine (gnew_any 0 _ (by omega) (by omega)).mono ?_
  rintro e w4 ⟨rfl, hr4, f4⟩
  go_wp2_with fail
  refine (snew_any _).mono ?_
  rintro e w5 ⟨rfl, hs5, f5⟩
  have s1 := f1.size
  have l1 := hh.lt
  have l2 := hclk3.blk.lt
  have l3 := hr4.lt.1
  have R0 : VrAt W (w2.heap.size + 1) w2.heap.size (w3.heap.size + 1) w3.heap.size (w4.heap.size + 1) w4.heap.size w1.heap.size hs Vm.new (Gm.new 0) Sm.new w5 :=
    ⟨(hclk3.fr f4 (by simp) (by simp)).fr f5 (by simp) (by simp), hr4.fr0 f5, hs5, ((hh.fr f3 (by simp)).fr f4 (by simp)).fr f5 (by simp), (((f1.trans f2).trans f3).trans f4).trans f5, by omega⟩
  have K0 := VrOk.new hs
  generalize w2.heap.size + 1 = bx at *
  generalize w2.heap.size = mx at *
  generalize w3.heap.size + 1 = br at *
  generalize w3.heap.size = mr at *
  generalize w4.heap.size + 1 = bs at *
  generalize w4.heap.size = ms at *
  generalize w1.heap.size = g at *
  clear f1 f2 f3 f4 f5 hclk3 hr4 hs5 hh s1 l1 l2 l3 hx1 hn1 hmax1
  have ht := hst_top hs
  go_wp2_with fail
  go_loopw [10] (fun i wr => ∃ (k : Nat) (x : Vm.Clk) (r : Gm.Rcv) (s : Sm.Sta), (k ≤ n ∧ k ≤ 150 ∧ i = .int .i64 k) ∧ VrAt W bx mx br mr bs ms g hs x r s wr ∧ VrOk hs x r s) (fun i _ => n - (intOf i).toNat)
  case atStart => exact ⟨0, _, _, _, ⟨Nat.zero_le _, Nat.zero_le _, rfl⟩, R0, K0⟩
  case round =>
    clear R0 K0
    obtain ⟨k, x, r, s, ⟨hk, hk150, rfl⟩, R, K⟩ := hrel
    by_cases hlt : k < n ∧ k < 150
    · obtain ⟨b0, off, hA2, hx⟩ := hx2.resolve_left (by omega)
      subst hA2
      clear hx2
      have hc0 := (hx.fr R.fr).cell0 k (by omega)
      have hc1 := (hx.fr R.fr).cell1 k (by omega)
      have hc2 := (hx.fr R.fr).cell2 k (by omega)
      obtain ⟨o0, o1, o2⟩ := hx.wf _ (List.getElem_mem (show k < xs.length by omega))
      have hb0 : b0 < wr.heap.size := Nat.lt_of_lt_of_le (hx.lt (by omega)) R.fr.size
      generalize (xs[k]'(by omega)).call = y0 at hc0 o0
      generalize (xs[k]'(by omega)).pos = y1 at hc1 o1
      generalize (xs[k]'(by omega)).time = y2 at hc2 o2
      have o0 := okI_bounds o0
      have o1 := okI_bounds o1
      have o2 := okI_bounds o2
      have q1 := pickI_nonneg y2 (show (1 : Int) ≤ 100 by decide)
      have q2 := pickI_lt y2 (show (1 : Int) ≤ 100 by decide)
      have hp2 := Lib.hid (pick_any y2 100 wr o2.1 o2.2 (by decide) (by decide))
      have hp0 := Lib.hid (fun w => pick_any y0 3 w o0.1 o0.2 (by decide) (by decide))
      have hp9 := Lib.hid (fun w => pick_any y0 9 w o0.1 o0.2 (by decide) (by decide))
      have hp3 := Lib.hid (fun w => pick_any y1 3 w o1.1 o1.2 (by decide) (by decide))
      obtain ⟨q, hq⟩ : ∃ q : Nat, pickI y2 100 = q := ⟨(pickI y2 100).toNat, by omega⟩
      rw [hq] at q2 hp2
      clear hq q1
      go_upto_if 50 with (first
        | (go_at_call 17; ((with_reducible refine hp2.out.mono ?_); rintro e w' ⟨rfl, rfl⟩))
        | (go_at_call 17; ((with_reducible refine (hp0.out _).mono ?_); rintro e w' ⟨rfl, rfl⟩)))
      go_cut [] (fun wc => ∃ (x' : Vm.Clk) (r' : Gm.Rcv), VrAt W bx mx br mr bs ms g hs x' r' s wc ∧ VrOk hs x' r' s)
      case first =>
        by_cases hB : pickI y0 3 = 0
        · rw [hB]
          have cq : wr.cell? ⟨g, 1 + q, none⟩ = some (.int .i64 (hst hs (q + 1))) := by
            rw [Nat.add_comm]
            exact (R.hist.cell (q + 1)).trans (by rw [arr_get (by omega)]; simp [hcells]; omega)
          have K' := K.beat R.clk.nd (t := q + 1) (by omega) (by omega)
          rw [show ((q + 1 : Nat) : Int) = 1 + (q : Int) from by omega] at K'
          clear hB hp0 hp9 hp3 hp2
          go_wp2_with fail
          refine (beat_any bx mx x _ _ wr R.clk K.cok).mono ?_
          rintro e w4 ⟨rfl, h4, f4⟩
          have R' := R.setClk h4 f4
          clear h4 f4 R K cq
          go_wp2_with fail
          go_meet
          case rel => exact ⟨_, _, R', K'⟩
        · obtain ⟨v, hv⟩ : ∃ v, pickI y0 3 = v := ⟨_, rfl⟩
          rw [hv] at hB ⊢
          have hB' : (v == 0) = false := by simpa using hB
          have c100 : wr.cell? ⟨g, 100, none⟩ = some (.int .i64 (hst hs 100)) := (R.hist.cell 100).trans (by rw [arr_get (by omega)]; simp [hcells])
          clear hB hv hp0 hp2
          by_cases h100 : 0 < hst hs 100
          · have hpT := Lib.hid (fun w => pick_any y1 (hst hs 100) w o1.1 o1.2 (by omega) (by omega))
            obtain ⟨u, hu⟩ : ∃ u, pickI y1 (hst hs 100) = u := ⟨_, rfl⟩
            have u1 := pickI_nonneg y1 (show (1 : Int) ≤ hst hs 100 by omega)
            have u2 := pickI_lt y1 (show (1 : Int) ≤ hst hs 100 by omega)
            rw [hu] at hpT u1 u2
            obtain ⟨d, hd⟩ : ∃ d, pickI y1 3 = d := ⟨_, rfl⟩
            have d1 := pickI_nonneg y1 (show (1 : Int) ≤ 3 by decide)
            have d2 := pickI_lt y1 (show (1 : Int) ≤ 3 by decide)
            rw [hd] at hp3 d1 d2
            clear hu hd
            have P0 := R.sta.ok.p0
            have P1 := R.sta.ok.p1
            have w1 : IntKind.i64.wrap (s.pos + 1) = s.pos + 1 := IntWalk.i64_in _ (by omega)
            have w2 : IntKind.i64.wrap (s.pos + 1 + d) = s.pos + 1 + d := IntWalk.i64_in _ (by omega)
            have w3 : IntKind.i64.wrap (1 + u) = 1 + u := IntWalk.i64_in _ (by omega)
            have bb1 : (0 : Int) ≤ (k : Int) := by omega
            have bb2 : (k : Int) < (n : Int) := by omega
            have bb3 : k < n := by omega
            go_upto_region 15 with fail
            go_cut [12] (fun s12 wc => s12 = .int .i64 (s.pos + 1 + d) ∧ wc = wr.drew)
            case first =>
              go_region_held3 (fun w' => w'.cell? ⟨b0, off + k * 3 + 1, none⟩ = some (.int .i64 y1))
                (first | go_keep | exact hc1)
                (first
                  | (go_at_call 19; ((refine (sposition_any bs ms s _ (R.sta.fr0 (Fr.refl [] wr).drew)).mono ?_); rintro e w' ⟨rfl, rfl⟩))
                  | (go_at_call 17; ((with_reducible refine (hp3.out _).mono ?_); rintro e w' ⟨rfl, rfl⟩)))
              go_wp2_with fail
              go_meet
              case rel => exact ⟨rfl, rfl⟩
            case rest =>
              obtain ⟨rfl, rfl⟩ := hcut
              have RD := R.fr0 ((Fr.refl [] wr).drew)
              have hd0 : wr.drew.cell? ⟨b0, off + k * 3, none⟩ = some (.int .i64 y0) := hc0
              have hd1 : wr.drew.cell? ⟨b0, off + k * 3 + 1, none⟩ = some (.int .i64 y1) := hc1
              have c100' : wr.drew.cell? ⟨g, 100, none⟩ = some (.int .i64 (hst hs 100)) := c100
              clear hc0 hc1 hc2 c100 hx R hb0
              generalize wr.drew = wd at *
              by_cases h9 : pickI y0 9 = 1
              · rw [h9] at hp9
                clear h9
                go_wp2_with (go_at_call 17; ((with_reducible refine (hp9.out _).mono ?_); rintro e w' ⟨rfl, rfl⟩))
                go_region_held3 (fun w' => w'.cell? ⟨b0, off + k * 3 + 1, none⟩ = some (.int .i64 y1) ∧ w'.cell? ⟨g, 100, none⟩ = some (.int .i64 (hst hs 100)))
                  (first | go_keep | exact ⟨hd1, c100'⟩)
                  (first
                    | (go_at_call 17; ((with_reducible refine (hpT.out _).mono ?_); rintro e w' ⟨rfl, rfl⟩)))
                all_goals
                  have RE := RD.fr0 ((Fr.refl [] wd).drew)
                  have c100'' : wd.drew.cell? ⟨g, 100, none⟩ = some (.int .i64 (hst hs 100)) := c100'
                  clear hd0 hd1 c100' RD
                  generalize wd.drew = we at *
                  have hnear : ¬ hst hs 100 < 1 + u := by omega
                  go_wp2_with (first
                    | (go_at_call 21; refine (record_any (1 + u) _).mono ?_; rintro e w7 ⟨rfl, hc7, f7⟩)
                    | (go_at_call 20; refine (recv_any br mr r (1 + u) _ _ (RE.rcv.fr0 f7) hc7).mono ?_; rintro e w8 ⟨rfl, h8, f8⟩))
                  have R8 := (RE.fr0 f7).setRcv h8 f8
                  have K8 := K.recv (p := 1 + u) (by omega)
                  clear h8 f8 f7 hc7
                  go_wp2_with fail
                  go_meet
                  case rel => exact ⟨_, _, R8, K8⟩
              · obtain ⟨v9, hv9⟩ : ∃ v9, pickI y0 9 = v9 := ⟨_, rfl⟩
                rw [hv9] at h9 hp9
                have h9' : (v9 == 1) = false := by simpa using h9
                clear h9 hv9
                by_cases hnear : s.pos + 1 + d ≤ hst hs 100
                · go_wp2_with (go_at_call 17; ((with_reducible refine (hp9.out _).mono ?_); rintro e w' ⟨rfl, rfl⟩))
                  go_wp2_with (first
                    | (go_at_call 21; refine (record_any (s.pos + 1 + d) _).mono ?_; rintro e w7 ⟨rfl, hc7, f7⟩)
                    | (go_at_call 20; refine (recv_any br mr r (s.pos + 1 + d) _ _ (RD.rcv.fr0 f7) hc7).mono ?_; rintro e w8 ⟨rfl, h8, f8⟩))
                  have R8 := (RD.fr0 f7).setRcv h8 f8
                  have K8 := K.recv (p := s.pos + 1 + d) (by omega)
                  clear h8 f8 f7 hc7
                  go_wp2_with fail
                  go_meet
                  case rel => exact ⟨_, _, R8, K8⟩
                · go_wp2_with (go_at_call 17; ((with_reducible refine (hp9.out _).mono ?_); rintro e w' ⟨rfl, rfl⟩))
                  go_meet
                  case rel => exact ⟨_, _, RD, K⟩
          · go_wp2_with fail
            go_meet
            case rel => exact ⟨_, _, R, K⟩
      case rest =>
        clear R K hp0 hp2 hp3 hp9 hc0 hc1 hc2 hb0 hx o0 o1 o2 q2
        obtain ⟨x', r', R, K⟩ := hcut
        obtain ⟨a1, K5, hlo⟩ := K.took
        go_wp2_with fail
        refine (take_any br mr r' _ R.rcv).mono ?_
        rintro e w5 ⟨v, ⟨rfl, hv⟩, h5, f5⟩
        have R5 := R.setRcv h5 f5
        generalize Gm.take r'.L.length r' = T at *
        obtain ⟨out, r5⟩ := T
        dsimp only at *
        obtain ⟨A5, n5, cap5, hv5⟩ : ∃ A n cap, v = .slice A n cap := by
          obtain ⟨us, hu, _⟩ := hv
          obtain ⟨A, cap, h6⟩ := hu.val
          exact ⟨A, _, cap, h6⟩
        subst hv5
        have hn5 : out.length = n5 := by
          obtain ⟨us, _, h6, h7, _⟩ := hv.at1
          rw [h6, ← h7, List.length_map]
        have hn300 : n5 ≤ 300 := by omega
        have A1' := Lib.hid a1
        have HN5 := Lib.hid hn5
        clear a1 hn5 h5 f5 R K hlo
        go_wp2_with fail
        go_loopw [14] (fun i wi => ∃ k2 : Nat, (k2 ≤ n5 ∧ i = .int .i64 k2) ∧ VrAt W bx mx br mr bs ms g hs x' r5 ((out.take k2).foldl Sm.apply s) wi ∧ OwnR wi (.slice A5 n5 cap5) out) (fun i _ => n5 - (intOf i).toNat)
        case atStart => exact ⟨0, ⟨Nat.zero_le _, rfl⟩, R5, hv⟩
        case round =>
          clear R5 hv
          obtain ⟨k2, ⟨hkk, rfl⟩, R6, hv6⟩ := hrel
          by_cases hl2 : k2 < n5
          · have hv7 := hv6
            obtain ⟨us, hown, hmap, hks⟩ := hv6
            obtain ⟨ha, hnn⟩ := hown.at1 WRec.len
            have HNN := Lib.hid hnn
            clear hnn hown
            obtain ⟨b6, o6, e6, hb6, hc6⟩ := ha (by rw [← HNN.out]; omega)
            subst e6
            have hki : k2 < us.length := by rw [← HNN.out]; exact hl2
            have hko : k2 < out.length := by rw [HN5.out]; exact hl2
            have hu : us[k2].r = out[k2] := by
              have h1 : (us.map (·.r))[k2]? = out[k2]? := by rw [hmap]
              rw [List.getElem?_map, List.getElem?_eq_getElem hki, List.getElem?_eq_getElem hko] at h1
              simpa using h1
            have hcode := A1'.out k2 hko
            rw [← hu] at hcode
            have hfold : (out.take (k2 + 1)).foldl Sm.apply s = Sm.apply ((out.take k2).foldl Sm.apply s) us[k2].r := by
              rw [List.take_succ_eq_append_getElem hko, List.foldl_append, hu]
              rfl
            have HF := Lib.hid hfold
            have hk3 := hks _ (List.getElem_mem hki)
            have d0 := Lib.hid (hc6 k2 hki 0 (by decide))
            have d1 := Lib.hid (hc6 k2 hki 1 (by decide))
            clear hfold hu
            generalize us[k2] = u at hcode HF hk3 d0 d1
            obtain ⟨rr, A6, cap6⟩ := u
            dsimp only at hcode hk3
            have HCO := Lib.hid hcode
            have c0 : wr.cell? ⟨b6, o6 + k2 * 2, none⟩ = some (.int .i64 rr.p) := d0.out
            have c1 : wr.cell? ⟨b6, o6 + k2 * 2 + 1, none⟩ = some (.slice A6 rr.cs.length cap6) := d1.out
            clear d0 d1 hc6 ha hks hmap hcode
            generalize (out.take k2).foldl Sm.apply s = s6 at *
            go_wp2_with fail
            refine (sapply_any bs ms s6 rr A6 cap6 _ R6.sta hk3.1 (by have := hk3.2; simp only [maxLen]; omega)).mono ?_
            rintro e w7 ⟨he, h7, f7⟩
            rw [HCO.out] at he
            subst he
            have R7 := R6.setSta h7 f7
            rw [← HF.out] at R7
            have hv8 := hv7.keepS R6.sta f7
            clear R6 h7 f7 hv7 c0 c1 hk3
            go_wp2_with fail
            go_roundw
            case rel => exact ⟨k2 + 1, ⟨by omega, by go_num⟩, R7, hv8⟩
            case measure => simp [intOf]; omega
          · obtain rfl : k2 = n5 := by omega
            have hke : out.take k2 = out := List.take_of_length_le (by rw [HN5.out]; exact Nat.le_refl _)
            rw [hke] at R6
            clear hke hv6 A1' HN5 hl2 hkk
            generalize out.foldl Sm.apply s = s5 at *
            obtain ⟨t, t1, t2, t3, t4⟩ := K5.asks
            have e1 := K5.e1
            go_wp2_with fail
            refine (position_any br mr r5 _ R6.rcv).mono ?_
            rintro e w7 ⟨rfl, rfl⟩
            go_wp2_with fail
            refine (applied_any bx mx x' r5.pos _ R6.clk).mono ?_
            rintro e w8 ⟨rfl, h8, f8⟩
            have R8 := R6.setClk h8 f8
            have ct : w8.cell? ⟨g, t, none⟩ = some (.int .i64 (hst hs t)) := (R8.hist.cell t).trans (by rw [arr_get (by omega)]; simp [hcells, t1])
            have hAs : Hid (Calls Try.prog 26 #[.pointer (some ⟨bx, 0, none⟩)] w8 fun e w' => e = .returned (.int .i64 (t : Int)) ∧ w8 = w') := by
              rw [← t2]; exact asOf_any bx mx _ w8 R8.clk
            have hPo : Hid (Calls Try.prog 19 #[.pointer (some ⟨bs, 0, none⟩)] w8 fun e w' => e = .returned (.int .i64 r5.pos) ∧ w8 = w') := by
              rw [← e1]; exact sposition_any bs ms s5 w8 R8.sta
            have hLe : Hid (Calls Try.prog 27 #[.pointer (some ⟨bs, 0, none⟩)] w8 fun e w' => e = .returned (.int .i64 r5.pos) ∧ w8 = w') := by
              rw [← e1, ← t4]; exact slen_any bs ms s5 w8 R8.sta
            have hPr := Lib.hid (position_any br mr r5 w8 R8.rcv)
            have t3' : ¬ r5.pos < hst hs t := by omega
            have t1' : ¬ (100 : Int) < (t : Int) := by omega
            have t0' : ¬ (t : Int) < 0 := by omega
            clear t2 t3 t4 e1 R6 h8 f8
            go_wp2_with (first
              | (go_at_call 19; ((with_reducible refine hPo.out.mono ?_); rintro e w' ⟨rfl, rfl⟩))
              | (go_at_call 27; ((with_reducible refine hLe.out.mono ?_); rintro e w' ⟨rfl, rfl⟩))
              | (go_at_call 25; ((with_reducible refine hPr.out.mono ?_); rintro e w' ⟨rfl, rfl⟩))
              | (go_at_call 26; ((with_reducible refine hAs.out.mono ?_); rintro e w' ⟨rfl, rfl⟩)))
            go_roundw
            case rel => exact ⟨k + 1, _, _, _, ⟨by omega, by omega, by go_num⟩, R8, K5⟩
            case measure => simp [intOf]; omega
    · go_wp2_with fail
      all_goals
        go_ret
        exact ⟨rfl, R.fr.below⟩
end Go.Proofs.Ytldolhdgkbljlaa
