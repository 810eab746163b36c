/-
  newIntervals: a row of intervals sorted by their lows, its reaches told.
-/
import Derived.Test.YtciaallekkdnhaaGreatJk
import Derived.Test.YtciaallekkdnhaaGreatJl
import Derived.Test.YtciaallekkdnhaaGreatJd
import Derived.Test.YtciaallekkdnhaaGreatSort
import Derived.Test.YtciaallekkdnhaaGreatLvA
import Derived.StillTailTactics
namespace Go.Proofs.YtciaallekkdnhaaGreat
open Go.RowKit Go.Sort

instance : Inhabited Mm.Iv := ⟨⟨0, 0, 0, 0⟩⟩
namespace Mm
def cmpLow (x y : Iv) : Int := cmpI x.low y.low
theorem cmpLow_neg (x y : Iv) : ltOf cmpLow x y = true ↔ x.low < y.low := by
  unfold ltOf cmpLow cmpI
  rw [decide_eq_true_eq]
  split
  · simpa
  · split
    · simp; omega
    · simp; omega
theorem swoLow : SWO (ltOf cmpLow) where
  irrefl x := by
    rw [Bool.eq_false_iff]
    intro h
    have := (cmpLow_neg x x).1 h
    omega
  trans x y z h1 h2 := by
    have h1 := (cmpLow_neg x y).1 h1
    have h2 := (cmpLow_neg y z).1 h2
    exact (cmpLow_neg x z).2 (by omega)
  ntrans x y z h1 h2 := by
    rw [Bool.eq_false_iff] at h1 h2 ⊢
    intro h3
    have h3 := (cmpLow_neg x z).1 h3
    have h1 : ¬ x.low < y.low := fun h => h1 ((cmpLow_neg x y).2 h)
    have h2 : ¬ y.low < z.low := fun h => h2 ((cmpLow_neg y z).2 h)
    omega
end Mm
theorem cmpLow_any (x y : Mm.Iv) (W : World) : Calls Tryz.prog 109 (#[.agg x.cells.toArray, .agg y.cells.toArray] ++ #[]) W fun e w' => e = .returned (.int .i64 (Mm.cmpLow x y)) ∧ ∃ q os, w' = grow (W.drewN q) os := by
  have HCM := Lib.hid compare_any
  have hW : ∃ q os, (W.alloc (.cells x.cells.toArray 144)).alloc (.cells y.cells.toArray 144) = grow (W.drewN q) os := ⟨0, _, by rw [alloc_eq_grow, alloc_eq_grow, grow_grow]; rfl⟩
  have HW := Lib.hid hW
  clear hW
  obtain ⟨xl, xh, xr, xi⟩ := x
  obtain ⟨yl, yh, yr, yi⟩ := y
  unfold Mm.cmpLow
  simp only [Mm.Iv.cells] at HW ⊢
  generalize hc : cmpI xl yl = c
  have HC := Lib.hid hc
  clear hc
  go_enter Tryz.func109, Tryz.ntmps109
  go_wp2_with (go_at_call 110; refine (HCM.out _ _ _).mono ?_; rintro e w' ⟨rfl, rfl⟩)
  go_ret
  rw [HC.out]
  exact ⟨rfl, HW.out⟩
theorem sort_ivs (A : Option Addr) (n cap : Nat) (w : World) (L : List Mm.Iv) (h : OwnL 144 4 Mm.Iv.cells w (.slice A n cap) L) (hl : L.length ≤ 4000) :
    Calls Tryz.prog 108 #[.slice A n cap, .func (.func 109) #[] #[]] w fun e w' =>
      e = .returned (.tuple #[]) ∧ ∃ R, OwnL 144 4 Mm.Iv.cells w' (.slice A n cap) R ∧ R.Perm L ∧ R.Pairwise (fun x y => x.low ≤ y.low) ∧ Fr (Value.slice A n cap).ownBlock.toList w w' := by
  obtain ⟨A', cap', hv⟩ := h.val
  cases hv
  rcases Nat.eq_zero_or_pos L.length with h0 | h0
  · have hL : L = [] := List.eq_nil_of_length_eq_zero h0
    subst hL
    have hcon := AnyF.slices_SortFunc_none (P := Tryz.prog) (ρ := Shlf.sortIv_ren) { Shlf.sortIv with } A cap (.func (.func 109) #[] #[]) w
    change Calls Tryz.prog 108 _ _ _ at hcon
    refine hcon.mono ?_
    rintro e w' ⟨rfl, rfl⟩
    exact ⟨rfl, [], h, List.Perm.refl _, List.Pairwise.nil, Fr.refl _ _⟩
  · obtain ⟨g, cap', hv, hnc, hcm, hgl, _, _⟩ := h.form Mm.Iv.len h0
    cases hv
    have eg : ∀ args w, (callFunc 109 args).run Tryz.prog w = .ok (.enter 109 args) w := enters_of Tryz.func109 (by kernel_rfl) rfl
    have hcmp : CmpLays Tryz.prog 109 #[] Mm.Iv.cells 4 Mm.cmpLow g 0 L.toArray.size w := fun m os dk _ x y => cmpLow_any x y _
    have hcon := AnyQ.slices_SortFunc (P := Tryz.prog) (ρ := Shlf.sortIv_ren) Shlf.sortIv 4 Tryz.isAgg144 Tryz.sizeOf144 Mm.Iv.cells Mm.Iv.len Mm.Iv.one Mm.cmpLow Mm.swoLow 109 #[] g 0 cap L.toArray w eg hcmp (h.holdsK Mm.Iv.len) hgl (by simp only [List.size_toArray]; omega)
    change Calls Tryz.prog 108 _ _ _ at hcon
    simp only [List.size_toArray] at hcon
    refine hcon.mono ?_
    rintro e w' ⟨rfl, d', n, os, hp, hs, rfl⟩
    have hd : d'.size = L.length := by simpa using hp.1
    refine ⟨rfl, d'.toList, h.sorted Mm.Iv.len d' hd n os, ?_, ?_, (sortWorld_fr n d' os 4 0).mono (by simp [Value.ownBlock])⟩
    · have h1 := hp.2.2
      have h2 : d'.extract 0 L.length = d' := by rw [← hd]; simp
      have h3 : L.toArray.extract 0 L.length = L.toArray := by simp
      rw [h2, h3] at h1
      simpa using h1
    · rw [List.pairwise_iff_getElem]
      intro i j hi hj hij
      have h2 := hs i j (Nat.zero_le _) hij (by rw [← hd]; simpa using hj)
      have hi' : i < d'.size := by simpa using hi
      have hj' : j < d'.size := by simpa using hj
      have e1 : d'[i]! = d'.toList[i] := by simp [hi']
      have e2 : d'[j]! = d'.toList[j] := by simp [hj']
      rw [e1, e2] at h2
      refine Int.not_lt.1 fun h1 => ?_
      have := (Mm.cmpLow_neg _ _).2 h1
      rw [this] at h2
      cases h2
/-- A reach is written. -/
theorem OwnL.putReach {w : World} {g n cap : Nat} {L : List Mm.Iv} (h : OwnL 144 4 Mm.Iv.cells w (.slice (some ⟨g, 0, none⟩) n cap) L) {i : Nat} (hi : i < L.length) (v : Int) :
    OwnL 144 4 Mm.Iv.cells (w.setCell ⟨g, i * 4 + 2, none⟩ (.int .i64 v)) (.slice (some ⟨g, 0, none⟩) n cap) (L.set i ⟨L[i].low, L[i].high, v, L[i].id⟩) := by
  obtain ⟨hn, h0 | ⟨g', cur, hA, hb, hc, hm, hs, ht⟩⟩ := h.blk
  · cases h0.1
  · injection hA with hA
    injection hA with hA
    subst hA
    refine OwnL.of_blk Mm.Iv.len (hb.set_ _ _) (by rw [List.length_set]; exact hn) hc hm (by rw [Array.size_setIfInBounds, hs]) (fun k hk => ?_)
    have hq : k / 4 < L.length := by omega
    have hr : k % 4 < 4 := Nat.mod_lt _ (by decide)
    have h2 := flat_get Mm.Iv.len (L.set i ⟨L[i].low, L[i].high, v, L[i].id⟩) (k / 4) (by rw [List.length_set]; exact hq) (k % 4) hr
    have h3 := flat_get Mm.Iv.len L (k / 4) hq (k % 4) hr
    rw [show k / 4 * 4 + k % 4 = k by omega] at h2 h3
    rw [h2, Array.getElem?_setIfInBounds]
    by_cases hki : k / 4 = i
    · subst hki
      have h4 : (L.set (k / 4) ⟨L[k / 4].low, L[k / 4].high, v, L[k / 4].id⟩)[k / 4]'(by rw [List.length_set]; exact hq) = ⟨L[k / 4].low, L[k / 4].high, v, L[k / 4].id⟩ := by simp
      rw [h4]
      by_cases hj : k / 4 * 4 + 2 = k
      · have e : k % 4 = 2 := by omega
        rw [if_pos hj, if_pos (by rw [hs]; have := Nat.mul_le_mul_right 4 hc; omega), e]
        rfl
      · rw [if_neg hj, OwnL.cur_get ht hk, h3]
        have hj3 : k % 4 = 0 ∨ k % 4 = 1 ∨ k % 4 = 3 := by omega
        rcases hj3 with e | e | e <;> rw [e] <;> rfl
    · rw [if_neg (by omega), OwnL.cur_get ht hk, h3]
      rw [List.getElem_set_ne (by omega)]
theorem max_ints (P : Program) (ats : Array TypeId) (ty : TypeId) (x y : Int) (w : World) : (Builtin.max_ ats ty #[.int .i64 x, .int .i64 y]).run P w = .ok (.int .i64 (if y > x then y else x)) w := by
  simp [Builtin.max_, Builtin.max2, List.foldlM]
theorem OwnL.ivAt {w : World} {A : Option Addr} {n cap : Nat} {L : List Mm.Iv} (h : OwnL 144 4 Mm.Iv.cells w (.slice A n cap) L) {i : Nat} (hi : i < L.length) : ∃ g, A = some ⟨g, 0, none⟩ ∧ g < w.heap.size ∧ w.cell? ⟨g, i * 4, none⟩ = some (.int .i64 L[i].low) ∧
    w.cell? ⟨g, i * 4 + 1, none⟩ = some (.int .i64 L[i].high) ∧ w.cell? ⟨g, i * 4 + 2, none⟩ = some (.int .i64 L[i].reach) ∧ w.cell? ⟨g, i * 4 + 3, none⟩ = some (.int .i64 L[i].id) ∧ w.frozen? ⟨g, i * 4 + 2, none⟩ = false := by
  obtain ⟨g, cap', hv, _, _, hlt, hc, hf⟩ := h.form Mm.Iv.len (by omega)
  cases hv
  exact ⟨g, rfl, hlt, (hc i hi 0 (by decide)).trans rfl, (hc i hi 1 (by decide)).trans rfl, (hc i hi 2 (by decide)).trans rfl, (hc i hi 3 (by decide)).trans rfl, hf _⟩
set_option maxRecDepth 100000 in
set_option maxHeartbeats 4000000 in
theorem newIv_any (A : Option Addr) (N cap : Nat) (L : List Mm.Iv) (w : World) (h : OwnL 144 4 Mm.Iv.cells w (.slice A N cap) L) (hl : L.length ≤ 500) :
    Calls Tryz.prog 62 #[.slice A N cap] w fun e w' => e = .returned (.slice A N cap) ∧ ∃ R, OwnL 144 4 Mm.Iv.cells w' (.slice A N cap) R ∧ Mm.Fixed L R ∧ Fr (Value.slice A N cap).ownBlock.toList w w' := by
  have hN : N = L.length := by
    obtain ⟨A', cap', hv⟩ := h.val
    cases hv
    rfl
  have HS := Lib.hid (sort_ivs A N cap w L h (by omega))
  have HN := Lib.hid hN
  have hn500 : N ≤ 500 := by omega
  clear h hl hN
  go_enter Tryz.func62, Tryz.ntmps62
  go_wp2_with (go_at_call 108; refine HS.out.mono ?_; rintro e w1 ⟨rfl, hR⟩)
  obtain ⟨L0, h1, h2, h3, h4⟩ := hR
  have hn0 : N = L0.length := by rw [h2.length_eq]; exact HN.out
  have HN0 := Lib.hid hn0
  have HO := Lib.hid h1
  have HP := Lib.hid h2
  have HS3 := Lib.hid h3
  have HF := Lib.hid h4
  clear h1 h2 h3 h4 HS hn0
  go_wp2
  go_loopw [8] (fun p wr => ∃ (q : Nat) (R : List Mm.Iv), p = .int .i64 q ∧ q ≤ N ∧ Hid (Mm.Fx L0 q R) ∧ Hid (OwnL 144 4 Mm.Iv.cells wr (.slice A N cap) R) ∧ Hid (Fr (Value.slice A N cap).ownBlock.toList w1 wr)) (fun p _ => N - (intOf p).toNat)
  case atStart => exact ⟨0, L0, rfl, by omega, Lib.hid (Mm.Fx.zero L0), HO, Lib.hid (Fr.refl _ _)⟩
  case round =>
    clear HO
    obtain ⟨q, R, rfl, hq, HX, HR, HF1⟩ := hrel
    by_cases h4 : q < N
    · have h4' : (q : Int) < (N : Int) := by omega
      have hqR : q < R.length := by rw [HX.out.len, ← HN0.out]; exact h4
      obtain ⟨g, hA, hg, d0, d1, d2, d3, z2⟩ := HR.out.ivAt hqR
      subst hA
      have HR2 := Lib.hid (HR.out.putReach hqR R[q].high)
      have HFa := Lib.hid (HF1.out.setCell (p := ⟨g, q * 4 + 2, none⟩) (.inl (by simp [Value.ownBlock])) (.int .i64 R[q].high))
      obtain ⟨hi, hhi⟩ : ∃ v, v = R[q].high := ⟨_, rfl⟩
      rw [← hhi] at d1 HR2 HFa
      obtain ⟨R1, hR1⟩ : ∃ R1, R1 = R.set q ⟨R[q].low, hi, hi, R[q].id⟩ := ⟨_, rfl⟩
      rw [← hR1] at HR2
      have hstep : ∀ v, hi ≤ v → (∀ j (hj : j < R.length), j + 1 = q → R[j].reach ≤ v) → (v = hi ∨ ∃ j, ∃ hj : j < R.length, j + 1 = q ∧ v = R[j].reach) → Mm.Fx L0 (q + 1) (R.set q ⟨R[q].low, R[q].high, v, R[q].id⟩) := by
        intro v v1 v2 v3
        rw [hhi] at v1 v3
        exact HX.out.step hqR v1 v2 v3
      have HST := Lib.hid hstep
      have HHI := Lib.hid hhi
      have HR1 := Lib.hid hR1
      clear hstep hhi hR1 HF1 d0 d3
      rcases q with _ | k
      · go_upto_region 6 with (fail)
        clear d1 z2 d2
        go_wp2
        go_roundw
        case rel => exact ⟨1, R1, by go_num, by omega, Lib.hid (by
          have h := HST.out hi (Int.le_refl _) (fun j hj e => by omega) (.inl rfl)
          rw [← HHI.out] at h
          rw [HR1.out]
          exact h), HR2, HFa⟩
        case measure => simp [intOf]; omega
      · rw [show ((k + 1 : Nat) : Int) = (k : Int) + 1 by omega] at h4' ⊢
        have hkR : k < R.length := by omega
        have HRk : Hid (R[k].reach = R[k].reach) := Lib.hid rfl
        obtain ⟨pv, hpv⟩ : ∃ v, v = R[k].reach := ⟨_, rfl⟩
        obtain ⟨g', hg1, -, -, -, c2, -, -⟩ := HR.out.ivAt hkR
        cases hg1
        rw [← hpv] at c2
        have HPV := Lib.hid hpv
        clear hpv HRk HR
        go_upto_region 6 with (fail)
        have y1 : (wr.setCell ⟨g, (k + 1) * 4 + 2, none⟩ (.int .i64 hi)).cell? ⟨g, (k + 1) * 4 + 2, none⟩ = some (.int .i64 hi) := World.cell?_setCell_same' _ _ _ (by rw [d2]; rfl)
        have y2 : (wr.setCell ⟨g, (k + 1) * 4 + 2, none⟩ (.int .i64 hi)).cell? ⟨g, k * 4 + 2, none⟩ = some (.int .i64 pv) := by
          rw [World.cell?_setCell_other _ _ _ _ (by intro e; injection e with _ e; omega)]
          exact c2
        have yz : (wr.setCell ⟨g, (k + 1) * 4 + 2, none⟩ (.int .i64 hi)).frozen? ⟨g, (k + 1) * 4 + 2, none⟩ = false := by rw [World.frozen?_setCell]; exact z2
        clear d1 d2 c2 z2
        generalize wr.setCell ⟨g, (k + 1) * 4 + 2, none⟩ (.int .i64 hi) = W2 at *
        have hmx := max_ints Tryz.prog
        go_upto_region 7 with (fail)
        obtain ⟨v, hv⟩ : ∃ v, v = if hi < pv then pv else hi := ⟨_, rfl⟩
        have hfx := HST.out v (by rw [hv]; split <;> omega) (fun j hj e => by
          obtain rfl : j = k := by omega
          have := HPV.out
          rw [hv]
          split <;> omega) (by
          rw [hv]
          split
          · exact .inr ⟨k, hkR, rfl, HPV.out⟩
          · exact .inl rfl)
        have hlR1 : k + 1 < R1.length := by rw [HR1.out, List.length_set]; exact hqR
        have ho := HR2.out.putReach hlR1 v
        have e1 : R1.set (k + 1) ⟨R1[k + 1].low, R1[k + 1].high, v, R1[k + 1].id⟩ = R.set (k + 1) ⟨R[k + 1].low, R[k + 1].high, v, R[k + 1].id⟩ := by
          have e2 : R1[k + 1] = ⟨R[k + 1].low, hi, hi, R[k + 1].id⟩ := by
            have : R1[k + 1]? = some ⟨R[k + 1].low, hi, hi, R[k + 1].id⟩ := by rw [HR1.out]; simp [hqR]
            rw [List.getElem?_eq_getElem hlR1] at this
            injection this
          rw [e2, HR1.out, List.set_set, HHI.out]
        rw [e1] at ho
        have HFX2 := Lib.hid hfx
        have HO3 := Lib.hid (ho.fr ((Fr.refl [] _).drew) (by simp))
        have HF3 := Lib.hid ((HFa.out.setCell (p := ⟨g, (k + 1) * 4 + 2, none⟩) (.inl (by simp [Value.ownBlock])) (.int .i64 v)).drew)
        have HV := Lib.hid hv
        clear hfx ho e1 hv
        go_region
        rw [← HV.out]
        clear hmx y1 y2 yz
        generalize (W2.setCell ⟨g, (k + 1) * 4 + 2, none⟩ (.int .i64 v)).drew = W3 at *
        go_wp2
        go_roundw
        case rel => exact ⟨k + 2, _, by go_num, by omega, HFX2, HO3, HF3⟩
        case measure => simp [intOf]; omega
    · have hqN : q = N := by omega
      have hqn : (q : Int) = (N : Int) := by omega
      have hxl := HX.out.len
      have HFX : Hid (Mm.Fixed L R) := Lib.hid (Mm.Fx.fixed (by rw [hxl, ← HN0.out, ← hqN]; exact HX.out) HP.out HS3.out)
      have HFE := Lib.hid (HF.out.trans HF1.out)
      clear hxl HX HF1
      go_wp2
      go_ret
      exact ⟨rfl, R, HR.out, HFX.out, HFE.out⟩
end Go.Proofs.YtciaallekkdnhaaGreat
