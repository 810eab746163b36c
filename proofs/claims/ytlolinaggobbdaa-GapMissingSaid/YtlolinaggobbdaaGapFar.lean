/-
  GapFar holds: a record that is more than 256 positions ahead does not wait, and is missing; the next one makes room.
-/
import Derived.Test.YtlolinaggobbdaaGapP
namespace Go.Proofs.Ytlolinaggobbdaa
open Go.RowKit Go.WideShapes Go.ChangeShapes

/-- 'Take', by what waits. -/
theorem take_isAt (b m : Nat) (c : Gm.Rcv) (S : Int → Prop) (w : World) (h : RcvAt w b m c) (his : Gm.Is c S) : Calls Try.prog 11 #[.pointer (some ⟨b, 0, none⟩)] w fun e w' =>
    ∃ (j : Nat) (A : Option Addr) (cap : Nat) (c' : Gm.Rcv), e = .returned (.slice A j cap) ∧ RcvAt w' b m c' ∧ (c'.pos = c.pos + j ∧ c'.high = c.high ∧ (∀ i : Int, 1 ≤ i → i ≤ j → S (c.pos + i)) ∧ ¬ S (c.pos + j + 1)) ∧ Gm.Is c' (fun q => S q ∧ c.pos + j < q) ∧ Fr [b, m] w w' := by
  obtain ⟨j, k1, k2, k3, k4, k5, k6⟩ := Gm.take_is c.L.length c S h.ok his (Nat.le_refl _)
  refine (take_any b m c w h).mono ?_
  rintro e w' ⟨v, ⟨rfl, hv⟩, hr, hf⟩
  obtain ⟨us, hu, hm, hk⟩ := hv
  obtain ⟨A, cap, rfl⟩ := hu.val
  have hl : us.length = j := by rw [← k1, ← hm, List.length_map]
  rw [hl]
  exact ⟨j, A, cap, _, rfl, hr, ⟨k2, k3, k4, k5⟩, k6, hf⟩
theorem recv_yes (b m : Nat) (c : Gm.Rcv) (S : Int → Prop) (q : Int) (A : Option Addr) (w : World) (h : RcvAt w b m c) (his : Gm.Is c S) (hc : HoldsC w A (recOf q).cs) (h1 : 1 ≤ q) (h2 : q ≤ 10000) (hq : c.pos < q) (hs : ¬ S q) (hf : q - c.pos ≤ 256) :
    Calls Try.prog 9 #[.pointer (some ⟨b, 0, none⟩), .agg #[.int .i64 q, .slice A 1 1]] w fun e w' =>
      ∃ c', e = .returned (.bool true) ∧ RcvAt w' b m c' ∧ Gm.Is c' (fun x => S x ∨ x = q) ∧ (c'.pos = c.pos ∧ c'.high = Gm.mx c.high q) ∧ Fr [b, m] w w' := by
  obtain ⟨hw, hp, hh⟩ := Gm.receive_is his h1 h2 hq
  rcases hw with ⟨h3, _, _⟩ | ⟨_, ht, hi⟩
  · exact absurd h3 (by rintro (h4 | h4); exact hs h4; omega)
  · refine (recv_any b m c q A w h hc).mono ?_
    rintro e w' ⟨rfl, hr, hf⟩
    rw [ht]
    exact ⟨_, rfl, hr, hi, ⟨hp, hh⟩, hf⟩
theorem recv_no (b m : Nat) (c : Gm.Rcv) (S : Int → Prop) (q : Int) (A : Option Addr) (w : World) (h : RcvAt w b m c) (his : Gm.Is c S) (hc : HoldsC w A (recOf q).cs) (h1 : 1 ≤ q) (h2 : q ≤ 10000) (hq : c.pos < q) (hs : S q ∨ 256 < q - c.pos) :
    Calls Try.prog 9 #[.pointer (some ⟨b, 0, none⟩), .agg #[.int .i64 q, .slice A 1 1]] w fun e w' =>
      ∃ c', e = .returned (.bool false) ∧ RcvAt w' b m c' ∧ Gm.Is c' S ∧ (c'.pos = c.pos ∧ c'.high = Gm.mx c.high q) ∧ Fr [b, m] w w' := by
  obtain ⟨hw, hp, hh⟩ := Gm.receive_is his h1 h2 hq
  rcases hw with ⟨_, ht, hi⟩ | ⟨h3, _, _⟩
  · refine (recv_any b m c q A w h hc).mono ?_
    rintro e w' ⟨rfl, hr, hf⟩
    rw [ht]
    exact ⟨_, rfl, hr, hi, ⟨hp, hh⟩, hf⟩
  · exact absurd hs (by rintro (h4 | h4); exact h3.1 h4; omega)

theorem Gm.far_missing {c : Gm.Rcv} {p : Int} (h : Gm.Is c (fun q => p + 2 ≤ q ∧ q ≤ p + 256)) (k : Nat) :
    Gm.missing c.L p k = if k = 0 then [] else if k ≤ 256 then [(p + 1, p + 1)] else [(p + 1, p + 1), (p + 257, p + k)] := by
  induction k with
  | zero => rfl
  | succ k ih =>
    rcases Gm.missing_succ h p k with ⟨hs, e⟩ | ⟨hs, e⟩
    · rw [e, ih, if_neg (by omega), if_pos (by omega), if_neg (by omega), if_pos (by omega)]
    · rw [e, ih]
      by_cases h0 : k = 0
      · subst h0
        simp [Gm.widen_nil]
      · by_cases h1 : k = 256
        · subst h1
          rw [if_neg (by omega), if_pos (by omega), if_neg (by omega), if_neg (by omega)]
          rw [Gm.widen_apart (x := p + 1) (y := p + 1) (by simp) rfl (by omega)]
          simp
          omega
        · rw [if_neg h0, if_neg (by omega), if_neg (by omega), if_neg (by omega)]
          rw [Gm.widen_touch (x := p + 257) (y := p + k) (by simp) rfl (by omega)]
          simp
          omega

/-- At the head of each round of the first loop. -/
structure FarRel (W : World) (b m : Nat) (p i : Int) (c : Gm.Rcv) (wr : World) : Prop where
  rcv : RcvAt wr b m c
  is : Gm.Is c (fun q => p + 2 ≤ q ∧ q < p + i ∧ q ≤ p + 256)
  pos : c.pos = p
  high : (i = 2 ∧ c.high = p) ∨ (2 < i ∧ c.high = p + i - 1)
  fr : Fr [] W wr
/-- At the head of each round of the second loop. -/
structure FarRel2 (W : World) (b m : Nat) (p i n : Int) (c : Gm.Rcv) (wr : World) : Prop where
  rcv : RcvAt wr b m c
  is : Gm.Is c (fun q => p + 257 ≤ q ∧ q < p + 256 + i)
  pos : c.pos = p + 256
  high : c.high = p + 256 + n
  fr : Fr [] W wr

set_option maxRecDepth 100000 in
set_option maxHeartbeats 2000000 in
theorem far_walk (x0 x1 : Int) (W : World) (wx0 : okI x0) (wx1 : okI x1) :
    Calls Try.prog 5 #[.int .i64 x0, .int .i64 x1] W fun e W' => e = .returned (.bool true) ∧ Below W.heap.size W W' := by
  have hb0 := okI_bounds wx0
  have hb1 := okI_bounds wx1
  have hp1 := pickI_nonneg x0 (n := 9001) (by decide)
  have hp2 := pickI_lt x0 (n := 9001) (by decide)
  have hn1 := pickI_nonneg x1 (n := 9) (by decide)
  have hn2 := pickI_lt x1 (n := 9) (by decide)
  go_enter Try.func5, Try.ntmps5
  go_wp2_with fail
  refine (sane_any _).mono ?_
  rintro e w1 ⟨rfl, f1⟩
  go_wp2_with fail
  refine (pick_any x0 9001 _ hb0.1 hb0.2 (by decide) (by decide)).mono ?_
  rintro e w' ⟨rfl, rfl⟩
  generalize pickI x0 9001 = p at *
  go_wp2_with fail
  refine (pick_any x1 9 _ hb1.1 hb1.2 (by decide) (by decide)).mono ?_
  rintro e w' ⟨rfl, rfl⟩
  generalize pickI x1 9 = n at *
  go_wp2_with fail
  refine (gnew_any p _ (by omega) (by omega)).mono ?_
  rintro e w2 ⟨rfl, h2, f2⟩
  have hwb : W.heap.size ≤ w1.heap.size := f1.size
  have R0 : FarRel W (w1.heap.size + 1) w1.heap.size p 2 (Gm.new p) w2 := ⟨h2, (Gm.is_new p).congr (fun q => ⟨fun h => h.elim, by rintro ⟨h1, h2, _⟩; omega⟩), rfl, .inl ⟨rfl, rfl⟩, f1.trans f2⟩
  have hmb : ∀ i ∈ [w1.heap.size + 1, w1.heap.size], i ∈ ([] : List Nat) ∨ W.heap.size ≤ i := by simp; omega
  generalize Gm.new p = c0 at R0
  generalize w1.heap.size + 1 = b at *
  generalize w1.heap.size = m at *
  have HMB := Lib.hid hmb
  clear f1 f2 h2 hwb wx0 hb0 wx1 hb1 hmb
  go_wp2_with fail
  go_loopw [9] (fun v wr => ∃ (i : Int) (c : Gm.Rcv), v = .int .i64 i ∧ (2 ≤ i ∧ i ≤ 257 + n) ∧ FarRel W b m p i c wr) (fun v _ => (300 - intOf v).toNat)
  case atStart => exact ⟨2, c0, rfl, ⟨by omega, by omega⟩, R0⟩
  case round =>
    clear R0
    obtain ⟨i, c, rfl, ⟨hi1, hi2⟩, R⟩ := hrel
    by_cases hlt : i ≤ 256 + n
    · go_wp2_with fail
      refine (record_any (p + i) _).mono ?_
      rintro e w3 ⟨rfl, hc3, f3⟩
      have h3 := R.rcv.fr0 f3
      have hcp := R.pos
      have hch := R.high
      have hmx : Gm.mx c.high (p + i) = p + i := by
        unfold Gm.mx
        split <;> omega
      by_cases hi : i ≤ 256
      · go_wp2_with fail
        refine (recv_yes b m c _ (p + i) _ _ h3 R.is hc3 (by omega) (by omega) (by omega) (by omega) (by omega)).mono ?_
        rintro e w4 ⟨c4, rfl, h4, is4, ⟨ep, eh⟩, f4⟩
        have F4 : Fr [] W w4 := (R.fr.trans f3).trans' f4 HMB.out
        have RR : FarRel W b m p (i + 1) c4 w4 := ⟨h4, is4.congr (fun q => by omega), by omega, .inr ⟨by omega, by omega⟩, F4⟩
        clear R f3 f4 F4 h3 h4 is4 ep eh hcp hch hmx hc3
        go_wp2_with fail
        go_roundw
        case rel => exact ⟨i + 1, c4, rfl, ⟨by omega, by omega⟩, RR⟩
        case measure => simp [intOf]; omega
      · go_wp2_with fail
        refine (recv_no b m c _ (p + i) _ _ h3 R.is hc3 (by omega) (by omega) (by omega) (by omega)).mono ?_
        rintro e w4 ⟨c4, rfl, h4, is4, ⟨ep, eh⟩, f4⟩
        have F4 : Fr [] W w4 := (R.fr.trans f3).trans' f4 HMB.out
        have RR : FarRel W b m p (i + 1) c4 w4 := ⟨h4, is4.congr (fun q => by omega), by omega, .inr ⟨by omega, by omega⟩, F4⟩
        clear R f3 f4 F4 h3 h4 is4 ep eh hcp hch hmx hc3
        go_wp2_with fail
        go_roundw
        case rel => exact ⟨i + 1, c4, rfl, ⟨by omega, by omega⟩, RR⟩
        case measure => simp [intOf]; omega
    · obtain rfl : i = 257 + n := by omega
      have his : Gm.Is c (fun q => p + 2 ≤ q ∧ q ≤ p + 256) := R.is.congr (fun q => by omega)
      have hcp := R.pos
      have hch : c.high = p + 256 + n := by have := R.high; omega
      have hk : (c.high - c.pos).toNat = 256 + n.toNat := by omega
      have hms : Gm.missing c.L c.pos (c.high - c.pos).toNat = if n = 0 then [(p + 1, p + 1)] else [(p + 1, p + 1), (p + 257, p + 256 + n)] := by
        rw [hk, hcp, Gm.far_missing his, if_neg (by omega)]
        by_cases h0 : n = 0
        · rw [if_pos h0, if_pos (by omega)]
        · rw [if_neg h0, if_neg (by omega), show p + ((256 + n.toNat : Nat) : Int) = p + 256 + n by omega]
      have HMS := Lib.hid hms
      have HCP := Lib.hid hcp
      have HCH := Lib.hid hch
      clear hk hms hcp hch
      go_wp2_with fail
      refine (missing_any b m c _ R.rcv).mono ?_
      rintro e w5 ⟨v, ⟨rfl, hv⟩, f5⟩
      rw [HMS.out] at hv
      have F5 := R.fr.trans f5
      have h5 := R.rcv.fr0 f5
      clear R f5
      have hq : ∀ w, (binOp .neq 42 (.agg #[.int .i64 (p + 1), .int .i64 (p + 1)]) (.agg #[.int .i64 (p + 1), .int .i64 (p + 1)])).run Try.prog w = .ok (.bool false) w := fun w => by
        have := neq_span (p + 1, p + 1) (p + 1, p + 1) w
        simpa using this
      have hg := eqGuard_span
      have hways : (n ≤ 0 ∧ OwnL 42 2 encS w5 v [(p + 1, p + 1)]) ∨ (0 < n ∧ OwnL 42 2 encS w5 v [(p + 1, p + 1), (p + 257, p + 256 + n)]) := by
        by_cases h0 : n = 0
        · rw [if_pos h0] at hv; exact .inl ⟨by omega, hv⟩
        · rw [if_neg h0] at hv; exact .inr ⟨by omega, hv⟩
      clear hv
      rcases hways with ⟨h0, hv⟩ | ⟨h0, hv⟩
      all_goals
        obtain ⟨A5, cap5, e5⟩ := hv.val
        subst e5
        obtain ⟨b6, o6, e6, hb6, hc6⟩ := (hv.at1 encS_len).1 (by simp)
        subst e6
        have c0 : w5.cell? ⟨b6, o6, none⟩ = some (.int .i64 (p + 1)) := hc6 0 (by simp) 0 (by decide)
        have c1 : w5.cell? ⟨b6, o6 + 1, none⟩ = some (.int .i64 (p + 1)) := hc6 0 (by simp) 1 (by decide)
        clear hc6 hv
        go_wp2_with fail
        refine (take_isAt b m c _ w5 h5 his).mono ?_
        rintro e w6 ⟨j, A6, cap6, c6, rfl, h6, ⟨g1, g2, g3, g4⟩, is6, f6⟩
        have hj : j = 0 := by
          have hcp := HCP.out
          rcases Nat.eq_zero_or_pos j with h7 | h7
          · exact h7
          · have := g3 1 (by omega) (by omega)
            omega
        subst hj
        have hcp6 : c6.pos = p := by have := HCP.out; omega
        have F6 : Fr [] W w6 := F5.trans' f6 HMB.out
        have is6' : Gm.Is c6 (fun q => p + 2 ≤ q ∧ q ≤ p + 256) := is6.congr (fun q => by have := HCP.out; omega)
        have HC6 := Lib.hid (And.intro hcp6 g2)
        clear g1 g2 g3 g4 is6 f6 hcp6 c0 c1 hq hg h5 F5 his
        go_wp2_with fail
        refine (record_any (p + 1) _).mono ?_
        rintro e w7 ⟨rfl, hc7, f7⟩
        go_wp2_with fail
        refine (recv_yes b m c6 _ (p + 1) _ _ (h6.fr0 f7) is6' hc7 (by omega) (by omega) (by have := HC6.out.1; omega) (by omega) (by have := HC6.out.1; omega)).mono ?_
        rintro e w8 ⟨c8, rfl, h8, is8, ⟨ep, eh⟩, f8⟩
        have F8 : Fr [] W w8 := (F6.trans f7).trans' f8 HMB.out
        have HC8 : Hid (c8.pos = p ∧ c8.high = p + 256 + n) := Lib.hid (by
          have h1 := HC6.out.1
          have h2 := HC6.out.2
          have h3 := HCH.out
          refine ⟨by omega, ?_⟩
          rw [eh]
          unfold Gm.mx
          split <;> omega)
        clear ep eh hc7 f7 f8 F6 h6 is6'
        go_wp2_with fail
        refine (take_isAt b m c8 _ w8 h8 is8).mono ?_
        rintro e w9 ⟨j, A9, cap9, c9, rfl, h9, ⟨g1, g2, g3, g4⟩, is9, f9⟩
        have hj : j = 256 := by
          have h1 := HC8.out.1
          have h2 : ¬ 257 ≤ j := fun h7 => by
            have := g3 257 (by omega) (by omega)
            omega
          have h3 : ¬ j ≤ 255 := fun h7 => g4 (by omega)
          omega
        subst hj
        have F9 : Fr [] W w9 := F8.trans' f9 HMB.out
        have R9 : FarRel2 W b m p 1 n c9 w9 := ⟨h9, is9.congr (fun q => by have := HC8.out.1; omega), by have := HC8.out.1; omega, by have := HC8.out.2; omega, F9⟩
        clear g1 g2 g3 g4 is9 is8 f9 F8 F9 h8 h9
        go_wp2_with fail
        go_loopw [11] (fun v wr => ∃ (i : Int) (c : Gm.Rcv), v = .int .i64 i ∧ (1 ≤ i ∧ i ≤ 1 + n) ∧ FarRel2 W b m p i n c wr) (fun v _ => (300 - intOf v).toNat)
        case atStart => exact ⟨1, c9, rfl, ⟨by omega, by omega⟩, R9⟩
        case round =>
          clear R9
          obtain ⟨i, c, rfl, ⟨hi1, hi2⟩, R⟩ := hrel
          by_cases hlt : i ≤ n
          · go_wp2_with fail
            refine (record_any (p + 256 + i) _).mono ?_
            rintro e w3 ⟨rfl, hc3, f3⟩
            have h3 := R.rcv.fr0 f3
            have hcp := R.pos
            have hch := R.high
            have hmx : Gm.mx c.high (p + 256 + i) = p + 256 + n := by
              unfold Gm.mx
              split <;> omega
            go_wp2_with fail
            refine (recv_yes b m c _ (p + 256 + i) _ _ h3 R.is hc3 (by omega) (by omega) (by omega) (by omega) (by omega)).mono ?_
            rintro e w4 ⟨c4, rfl, h4, is4, ⟨ep, eh⟩, f4⟩
            have F4 : Fr [] W w4 := (R.fr.trans f3).trans' f4 HMB.out
            have RR : FarRel2 W b m p (i + 1) n c4 w4 := ⟨h4, is4.congr (fun q => by omega), by omega, by omega, F4⟩
            clear R f3 f4 F4 h3 h4 is4 ep eh hcp hch hmx hc3
            go_wp2_with fail
            go_roundw
            case rel => exact ⟨i + 1, c4, rfl, ⟨by omega, by omega⟩, RR⟩
            case measure => simp [intOf]; omega
          · obtain rfl : i = 1 + n := by omega
            go_wp2_with fail
            refine (take_isAt b m c _ _ R.rcv R.is).mono ?_
            rintro e wa ⟨j, Aa, capa, ca, rfl, ha, ⟨g1, g2, g3, g4⟩, isa, fa⟩
            have hcp := R.pos
            have hch := R.high
            have hj : (j : Int) = n := by
              have h2 : ¬ n + 1 ≤ j := fun h7 => by
                have := g3 (n + 1) (by omega) (by omega)
                omega
              have h3 : ¬ (j : Int) ≤ n - 1 := fun h7 => g4 (by omega)
              omega
            have Fa : Fr [] W wa := R.fr.trans' fa HMB.out
            have hpa : ca.pos = p + 256 + n := by omega
            have hha : ca.high = ca.pos := by omega
            have hd1 : ((j : Int) == n) = true := by simpa using hj
            have hm0 : Hid (Gm.missing ca.L ca.pos (ca.high - ca.pos).toNat = []) := Lib.hid (by rw [hha, show (ca.pos - ca.pos).toNat = 0 by omega]; rfl)
            have hd2 : (ca.pos == p + 256 + n) = true := by simpa using hpa
            clear g1 g2 g3 g4 hcp hch hpa hha hj isa R fa
            go_wp2_with fail
            refine (position_any b m ca _ ha).mono ?_
            rintro e w' ⟨rfl, rfl⟩
            go_wp2_with fail
            refine (missing_any b m ca _ ha).mono ?_
            rintro e wb ⟨vb, ⟨rfl, hvb⟩, fb⟩
            rw [hm0.out] at hvb
            obtain ⟨Ab, capb, eb⟩ := hvb.val
            subst eb
            go_wp2_with fail
            go_ret
            exact ⟨rfl, (Fa.trans fb).below⟩

theorem far_law : LawWalk 5 Try.f5 := by
  intro H enc W base args ds p hval0 hA0 hlt hsz
  have hval : ∀ (j : Nat) t v, Try.f5.params[j]? = some t → args[j]? = some v → Value.okWide Try.prog W .any base t v := hval0
  have hA : DataW.TrodAll enc Try.prog W 0 (fun _ => true) true Try.f5.params.toList args.toList ds p := hA0
  clear hA0 hval0 hsz
  rw [Try.params5] at hA hval
  obtain ⟨v0, vs0, d0, ds0, p0, q0, hargs, rfl, rfl, h0, r0⟩ := trodAll_cons hA
  obtain ⟨v1, vs1, d1, ds1, p1, q1, rfl, rfl, rfl, h1, r1⟩ := trodAll_cons r0
  obtain ⟨rfl, rfl, rfl⟩ := trodAll_nil r1
  obtain rfl : args = #[v0, v1] := by cases args; simp_all
  obtain ⟨x0, rfl, rfl, rfl, wx0⟩ := open_int Try.underlying3 (hval 0 _ v0 rfl rfl) h0
  obtain ⟨x1, rfl, rfl, rfl, wx1⟩ := open_int Try.underlying3 (hval 1 _ v1 rfl rfl) h1
  exact far_walk x0 x1 W wx0 wx1

theorem far_lifted (os : Os) (started : os.Started) (H : Type) (enc : TypeId × Value → H) :
    ReturnsInHanded {} Try.checked os 5 .any (Rows.gapFarSpec.pre6 enc Try.prog Try.f5 Rows.gapFarRow.domain false) (Rows.gapFarSpec.post enc Try.prog Try.f5 false true false false) :=
  law_lifted (s := Rows.gapFarSpec) (conds := Rows.gapFarRow.domain) Try.func5 (by kernel_rfl) rfl rfl
    (by
      rw [Try.params5]
      intro t ht
      simp only [List.mem_cons, List.not_mem_nil, or_false] at ht
      rcases ht with rfl | rfl
      all_goals exact ⟨by kernel_rfl, of_decide_eq_true (by kernel_rfl)⟩)
    (fun H ds h => by
      match ds, h with
      | [d0, d1], _ => exact ⟨rfl, rfl, rfl⟩) far_law os started H enc
    (ChangeSpec.witness6 (enc := enc) (C := Try.checked) false ⟨#[], #[.int .i64 0, .int .i64 0], []⟩ 8 (by kernel_rfl) (by kernel_rfl) (by kernel_rfl) (by kernel_rfl))

theorem far_holds : Rows.GapFarSaid :=
  OpenClaim.holds_of_wide 5 Try.f5 rfl rfl rfl rfl rfl rfl rfl ⟨rfl, rfl, rfl, rfl, rfl⟩ rfl rfl rfl rfl rfl (by kernel_rfl) Try.func5 (by kernel_rfl)
    (of_decide_eq_true (by kernel_rfl)) (by unfold Func.isWrapper; rw [if_neg (of_decide_eq_false (by kernel_rfl))]; exact ⟨rfl, rfl⟩)
    (fun os started H enc _ => far_lifted os started H enc)
#print axioms far_holds

end Go.Proofs.Ytlolinaggobbdaa
