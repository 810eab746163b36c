/-
  Folding a closure over integers and over rows.
-/
import Derived.Test.YtjiikpmkedkbkaaHc
import Derived.Test.YtjiikpmkedkbkaaGag
import Derived.Deep.RegionLaw
import Derived.Test.YtjiikpmkedkbkaaGar
namespace Go.Proofs.Ytjiikpmkedkbkaa
open Go.RowKit

theorem rfrange_bad (s : Value) (t c lo hi : Int) (w : World) (h : c < 0 ∨ 4 ≤ c) :
    Calls Try.prog 41 #[s, .int .i64 t, .int .i64 c, .int .i64 lo, .int .i64 hi] w fun e w' => e = .returned (.slice none 0 0) ∧ w = w' := by
  rcases h with h | h
  all_goals
    go_enter Try.func41, Try.ntmps41
    go_wp2
    go_ret
    exact ⟨rfl, rfl⟩

/-- At the head of each round: the rows chosen so far. -/
structure RgRel (w wr : World) (v : Value) (R : List RowV) (Lk : List RowV) (t c lo hi : Int) : Prop where
  row : RowsOwn wr v R
  fr : Fr [] w wr
  own : ∀ g, v.ownBlock = some g → w.heap.size ≤ g
  perm : R.Perm (Lk.filter (inRng t c lo hi))
  srt : R.Pairwise (ahead2 c)

set_option maxRecDepth 100000 in
set_option maxHeartbeats 4000000 in
theorem rfrange_any (b : Nat) (v : Value) (L : List RowV) (s : Sm.Sta) (t c lo hi : Int) (w : World) (h : RfAt w b v L s) (h0 : 0 ≤ c) (h4 : c < 4) :
    Calls Try.prog 41 #[.pointer (some ⟨b, 0, none⟩), .int .i64 t, .int .i64 c, .int .i64 lo, .int .i64 hi] w fun e w' => ∃ v' R, e = .returned v' ∧ RowsOwn w' v' R ∧ Picked s c (inRng t c lo hi) R ∧ Fr [] w w' ∧ ∀ g, v'.ownBlock = some g → w.heap.size ≤ g := by
  obtain ⟨A, cap, hv⟩ := h.row.val
  subst hv
  have hlen : L.length ≤ 2000 := by rw [h.sim.len]; exact h.ok.len
  have H := Lib.hid h
  have HFM := Lib.hid (fun (h0 : 0 < L.length) => h.row.form RowV.cells_len h0)
  have P0 : Hid (RgRel w w (.slice none 0 0) [] (L.take 0) t c lo hi) := Lib.hid ⟨OwnL.nil, Fr.refl _ _, fun g hg => by simp [Value.ownBlock] at hg, by simp, List.Pairwise.nil⟩
  have HVA := Lib.hid rfValue_any
  obtain ⟨i0, TR⟩ := etRow
  clear h
  go_enter Try.func41, Try.ntmps41
  go_wp2_with fail
  go_loopw [11, 12] (fun vo i wr => ∃ (k : Nat) (Ao : Option Addr) (R : List RowV) (co : Nat), vo = .slice Ao R.length co ∧ i = .int .i64 k ∧ k ≤ L.length ∧ Hid (RgRel w wr (.slice Ao R.length co) R (L.take k) t c lo hi)) (fun _ i _ => L.length - (intOf i).toNat)
  case atStart => exact ⟨0, none, [], 0, rfl, rfl, Nat.zero_le _, P0⟩
  case round =>
    clear P0
    obtain ⟨k, Ao, R, co, rfl, rfl, hk, RR⟩ := hrel
    have hb : wr.cell? ⟨b, 0, none⟩ = some (.slice A L.length cap) := (H.out.blk.fr RR.out.fr (by simp)).cell 0
    by_cases hlt : k < L.length
    · obtain ⟨gR, cap', hA, hlc, hcm, hgl, hcell, hfz⟩ := HFM.out (by omega)
      cases hA
      have hck := Lib.hid (fun j (hj : j < 5) => (RR.out.fr.cell (p := ⟨gR, k * 5 + j, none⟩) hgl (by simp)).trans (hcell k hlt j hj))
      have htk : (L.take (k + 1)).filter (inRng t c lo hi) = (L.take k).filter (inRng t c lo hi) ++ (if inRng t c lo hi L[k] = true then [L[k]] else []) := by
        rw [List.take_succ_eq_append_getElem hlt, List.filter_append]
        congr 1
        by_cases e : inRng t c lo hi L[k] = true
        · rw [if_pos e, List.filter_cons_of_pos e]; rfl
        · rw [if_neg e, List.filter_cons_of_neg e]; rfl
      have HTK := Lib.hid htk
      have hkeys : Hid (inRng t c lo hi L[k] = true → ∀ a ∈ R, a.k < L[k].k) := Lib.hid fun hin a ha => by
        obtain ⟨h1, h2⟩ := List.mem_filter.1 (RR.out.perm.mem_iff.1 ha)
        obtain ⟨i, hi', rfl⟩ := List.getElem_of_mem h1
        rw [List.length_take] at hi'
        have h3 := H.out.sim.srt.get (show i < L.length by omega) hlt (by omega)
        have e1 := inRng_t _ h2
        have e2 := inRng_t _ hin
        rw [List.getElem_take] at e1 ⊢
        omega
      have hll : Hid (R.length + 1 ≤ 2010) := Lib.hid (by
        have := List.length_filter_le (inRng t c lo hi) (L.take k)
        rw [List.length_take, ← RR.out.perm.length_eq] at this
        omega)
      clear htk hcell hfz
      generalize L[k] = x at *
      obtain ⟨xt, xk, xa, xb, xc⟩ := x
      have x0 : wr.cell? ⟨gR, k * 5, none⟩ = some (.int .i64 xt) := hck.out 0 (by decide)
      have x1 : wr.cell? ⟨gR, k * 5 + 1, none⟩ = some (.int .i64 xk) := hck.out 1 (by decide)
      have x2 : wr.cell? ⟨gR, k * 5 + 2, none⟩ = some (.int .i64 xa) := hck.out 2 (by decide)
      have x3 : wr.cell? ⟨gR, k * 5 + 3, none⟩ = some (.int .i64 xb) := hck.out 3 (by decide)
      have x4 : wr.cell? ⟨gR, k * 5 + 4, none⟩ = some (.int .i64 xc) := hck.out 4 (by decide)
      clear hck
      have hN0 := Blk.new wr 57 #[.int .i64 xt, .int .i64 xk, .int .i64 xa, .int .i64 xb, .int .i64 xc]
      have hv5 := Lib.hid (HVA.out ⟨xt, xk, xa, xb, xc⟩ c (wr.alloc (.cells #[.int .i64 xt, .int .i64 xk, .int .i64 xa, .int .i64 xb, .int .i64 xc] 57)))
      unfold RowV.val at hv5
      dsimp only at hv5
      go_wp2_with fail
      refine hv5.out.mono ?_
      rintro e w2 ⟨rfl, f2⟩
      have F2 : Fr [] wr w2 := ((Fr.refl _ _).alloc _).trans f2
      have hN := hN0.fr f2 (by simp)
      have y0 := hN.cell 0
      have y1 := hN.cell 1
      have y2 := hN.cell 2
      have y3 := hN.cell 3
      have y4 := hN.cell 4
      clear x0 x1 x2 x3 x4 hN0 f2 hv5 hb
      have HE : Hid (inRng t c lo hi ⟨xt, xk, xa, xb, xc⟩ = (decide (xt = t) && (decide (lo ≤ RowV.value ⟨xt, xk, xa, xb, xc⟩ c) && decide (RowV.value ⟨xt, xk, xa, xb, xc⟩ c ≤ hi)))) := Lib.hid rfl
      obtain ⟨vv, hvv⟩ : ∃ vv, RowV.value ⟨xt, xk, xa, xb, xc⟩ c = vv := ⟨_, rfl⟩
      rw [hvv] at HE ⊢
      have HVV := Lib.hid hvv
      clear hvv
      by_cases hin : xt = t ∧ lo ≤ vv ∧ vv ≤ hi
      · have HIN : Hid (inRng t c lo hi ⟨xt, xk, xa, xb, xc⟩ = true) := Lib.hid (by rw [HE.out]; simp [hin.1, hin.2.1, hin.2.2])
        obtain ⟨hin1, hin2, hin3⟩ := hin
        have e' : (xt != t) = false := by simp [hin1]
        clear hin1
        obtain ⟨Wk, hWk⟩ : ∃ W, W = wr := ⟨_, rfl⟩
        subst hWk
        have hRl : R.length ≤ 2010 := by have := hll.out; omega
        have hrow2 := RR.out.row.fr F2 (by simp)
        have HROW := Lib.hid hrow2
        have HFQ := Lib.hid (fun (h : 0 < R.length) => hrow2.form RowV.cells_len h)
        have hxl : Wk.heap.size < w2.heap.size := hN.lt
        have hxw : Hid (w.heap.size ≤ w2.heap.size) := Lib.hid (RR.out.fr.trans F2).size
        clear hrow2
        have f20 : Fr [] w2 w2 := Fr.refl _ _
        have hmax : Hid (∀ i (h : i < R.length), R.length ≤ i → vv < R[i].value c) := Lib.hid fun i h h1 => by omega
        go_wp2_with fail
        go_loopw [15] (fun i wr => ∃ j : Nat, i = .int .i64 j ∧ j ≤ R.length ∧ Hid (∀ i (h : i < R.length), j ≤ i → vv < R[i].value c) ∧ Fr [] w2 wr) (fun i _ => (intOf i).toNat)
        case atStart => exact ⟨R.length, rfl, Nat.le_refl _, hmax, f20⟩
        case round =>
          clear f20 hmax
          obtain ⟨j, rfl, hj, hgt, hfq⟩ := hrel
          clear y0 y1 y2 y3 y4
          by_cases hj0 : 0 < j
          · obtain ⟨gQ, cap'', hQ, hql, hqm, hqg, hqc, hqz⟩ := HFQ.out (by omega)
            have hAo : Ao = some ⟨gQ, 0, none⟩ := by injection hQ
            subst hAo
            have hck := Lib.hid (fun i (hi : i < R.length) jj (hj : jj < 5) => (hfq.cell (p := ⟨gQ, i * 5 + jj, none⟩) hqg (by simp)).trans (hqc i hi jj hj))
            clear hqc hqz hQ
            have hj1 : j - 1 < R.length := by omega
            have hcj := Lib.hid (hck.out (j - 1) hj1)
            have hlast := Lib.hid (fun (e : vv < R[j - 1].value c) => (show ∀ i (h : i < R.length), j - 1 ≤ i → vv < R[i].value c from fun i h h1 => by
              rcases Nat.lt_or_ge i j with h2 | h2
              · obtain rfl : i = j - 1 := by omega
                exact e
              · exact hgt.out i h h2))
            have hlow := Lib.hid (fun (e : ¬ vv < R[j - 1].value c) => (show ∀ i (h : i < R.length), i < j → R[i].value c ≤ vv from fun i h h1 => by
              rcases Nat.lt_or_ge i (j - 1) with h2 | h2
              · have h3 := List.pairwise_iff_getElem.1 RR.out.srt i (j - 1) h hj1 h2
                unfold ahead2 at h3
                omega
              · obtain rfl : i = j - 1 := by omega
                omega))
            have ej : (j : Int) - 1 = ((j - 1 : Nat) : Int) := by omega
            obtain ⟨q, hq⟩ : ∃ q, R[j - 1] = q := ⟨_, rfl⟩
            rw [hq] at hcj hlast hlow
            clear hq
            obtain ⟨qt, qk, qa, qb, qc⟩ := q
            have q0 : wr.cell? ⟨gQ, (j - 1) * 5, none⟩ = some (.int .i64 qt) := hcj.out 0 (by decide)
            have q1 : wr.cell? ⟨gQ, (j - 1) * 5 + 1, none⟩ = some (.int .i64 qk) := hcj.out 1 (by decide)
            have q2 : wr.cell? ⟨gQ, (j - 1) * 5 + 2, none⟩ = some (.int .i64 qa) := hcj.out 2 (by decide)
            have q3 : wr.cell? ⟨gQ, (j - 1) * 5 + 3, none⟩ = some (.int .i64 qb) := hcj.out 3 (by decide)
            have q4 : wr.cell? ⟨gQ, (j - 1) * 5 + 4, none⟩ = some (.int .i64 qc) := hcj.out 4 (by decide)
            have hq5 := Lib.hid (HVA.out ⟨qt, qk, qa, qb, qc⟩ c wr)
            unfold RowV.val at hq5
            dsimp only at hq5
            generalize RowV.value ⟨qt, qk, qa, qb, qc⟩ c = qv at hq5 hlast hlow
            have HGT := hgt
            have HGT := hgt
            have HGT := hgt
            have HGT := hgt
            have HGT := hgt
            clear hck hcj hgt
            by_cases hqv : vv < qv
            · have HL := Lib.hid (hlast.out hqv)
              clear hlast hlow
              go_wp2_with (go_at_call 23; refine hq5.out.mono ?_; rintro e w3 ⟨rfl, f3⟩; have F3 := Lib.hid (hfq.trans f3); clear f3)
              go_roundw
              case rel => exact ⟨j - 1, by go_num, by omega, HL, F3.out⟩
              case measure => simp [intOf]; omega
            · have HL := Lib.hid (hlow.out hqv)
              -- BRANCH J
              have hlo2 : Hid (∀ i (h : i < R.length), i < j → R[i].value c ≤ vv) := HL
              have hhi2 : Hid (∀ i (h : i < R.length), j ≤ i → vv < R[i].value c) := HGT
              clear hlast hlow
              go_wp2_with (go_at_call 23; refine hq5.out.mono ?_; rintro e w3 ⟨rfl, f3⟩; have F3 := Lib.hid (hfq.trans f3); clear f3)
              by_cases hjR : j < R.length
              · skip
                have hrow3 := Lib.hid (HROW.out.fr F3.out (by simp))
                have hrd3 := Lib.hid ((hrow3.out).reads rfl)
                have hcap3 : R.length ≤ co := own_cap2 hrow3.out
                have hjco : j ≤ co := by omega
                have hN3 := hN.fr F3.out (by simp)
                have y0 := hN3.cell 0
                have y1 := hN3.cell 1
                have y2 := hN3.cell 2
                have y3 := hN3.cell 3
                have y4 := hN3.cell 4
                have hlt3 := hN3.lt
                have hjl : Hid ((R.take j).length = j) := Lib.hid (by rw [List.length_take]; omega)
                have htk3 := Lib.hid (hrd3.out.takeL RowV.cells_len (k := j) (by omega))
                have hcne : ¬ co = j := by omega
                have hdr3 := Lib.hid (hrd3.out.from_ RowV.cells_len (k := j) (off := j * 5) (by omega) rfl)
                have hdl3 : Hid (R.length - j = (R.drop j).length) := Lib.hid (by rw [List.length_drop])
                have hb1 : Hid ([(⟨xt, xk, xa, xb, xc⟩ : RowV)].length + (R.drop j).length ≤ 2020) := Lib.hid (by have := hll.out; simp only [List.length_singleton, List.length_drop, List.length_nil]; omega)
                have hb2 : Hid ((R.take j).length + ([(⟨xt, xk, xa, xb, xc⟩ : RowV)] ++ (R.drop j)).length ≤ 2020) := Lib.hid (by have := hll.out; simp only [List.length_append, List.length_take, List.length_singleton, List.length_drop, List.length_nil]; omega)
                have hmx : Hid ((2020 : Nat) ≤ maxLen) := Lib.hid (by decide)
                have hdrop : Hid ((R.drop j) = R.drop j) := Lib.hid (rfl)
                first
                  | go_region_law (first
                    | (refine step_appendL rfl _ _ rfl TR RowV.cells_len RowV.cells_one rfl (own_new _ ⟨xt, xk, xa, xb, xc⟩ RowV.cells_len) _ _ _ _ (R.drop j) rfl hdl3.out (hdr3.out.alloc (Nat.le_refl _) _) (Nat.le_trans hb1.out hmx.out) (Nat.le_trans (Nat.mul_le_mul_right 40 hb1.out) (by decide)) ?_; intro v1 w1' hrow1' hg1 hat1; have htk1 := Lib.hid ((htk3.out.drew.alloc (Nat.le_refl _) (.cells #[.int .i64 xt, .int .i64 xk, .int .i64 xa, .int .i64 xb, .int .i64 xc] 57)).grown hg1 (by rw [World.size_alloc]; exact Nat.le_succ _) (fun g hg => Nat.le_of_eq (Option.some.inj hg))); have hrow1 := Lib.hid hrow1'; have HG1 := Lib.hid hg1; have HA1 := Lib.hid hat1; obtain ⟨A1, n1, cap1, hv1, hn1, hrd1, hn1p⟩ := own_open hrow1' (by simp only [List.length_append, List.length_cons]; omega); subst hv1; have HN1 := Lib.hid hn1; have HRD1 := Lib.hid hrd1; clear hrow1' hg1 hat1 hn1 hrd1)
                    | (refine step_append_fullL rfl _ _ rfl TR RowV.cells_one _ _ _ _ rfl (L := R.take j) hjl.out.symm htk1.out (Nat.le_refl _) _ _ _ _ (N := [(⟨xt, xk, xa, xb, xc⟩ : RowV)] ++ (R.drop j)) rfl HN1.out hn1p HRD1.out (Nat.le_trans hb2.out hmx.out) (Nat.le_trans (Nat.mul_le_mul_right 40 hb2.out) (by decide)) ?_; intro v2 w2' hrow2' hg2 hat2; have HR2 := Lib.hid hrow2'; have HG2 := Lib.hid hg2; have HA2 := Lib.hid hat2; obtain ⟨A2, n2, cap2, hv2, hn2, hrd2, hn2p⟩ := own_open hrow2' (by simp only [List.length_append, List.length_cons]; omega); subst hv2; have HN2 := Lib.hid hn2; clear hrow2' hg2 hat2 hn2 hrd2))
                  | fail "law"
                have HRn : Hid ((R.take j) ++ ([(⟨xt, xk, xa, xb, xc⟩ : RowV)] ++ (R.drop j)) = (R.take j ++ ((⟨xt, xk, xa, xb, xc⟩ : RowV) :: R.drop j))) := Lib.hid (by rfl)
                have HFN := Lib.hid ((((((RR.out.fr.trans F2).trans F3.out).drew).alloc (.cells #[.int .i64 xt, .int .i64 xk, .int .i64 xa, .int .i64 xb, .int .i64 xc] 57)).grown HG1.out (fun g hg => .inr (by
                  have h1 := hxw.out
                  have h2 := F3.out.size
                  have h5 : w3.heap.size = g := Option.some.inj hg
                  omega))).grown HG2.out (fun g hg => by cases hg))
                have R3 : Hid (RgRel w w2' (.slice A2 n2 cap2) (R.take j ++ ((⟨xt, xk, xa, xb, xc⟩ : RowV) :: R.drop j)) (L.take (k + 1)) t c lo hi) := Lib.hid ⟨by rw [← HRn.out]; exact HR2.out, HFN.out, fun g hg => by
                    have h1 := HA2.out
                    rw [hg] at h1
                    injection h1 with h1
                    have h2 := HG1.out.size
                    have h3 := hxw.out
                    have h4 := F3.out.size
                    simp at h2
                    omega,
                  (insert_perm j).trans (by rw [HTK.out, if_pos HIN.out]; exact RR.out.perm.append_right _),
                  insert_srt RR.out.srt (fun i hi h1 => by rw [HVV.out]; exact hlo2.out i hi h1) (fun i hi h1 => by rw [HVV.out]; exact hhi2.out i hi h1) (hkeys.out HIN.out)⟩
                go_wp2_with fail
                go_roundw
                case rel => exact ⟨k + 1, A2, (R.take j ++ ((⟨xt, xk, xa, xb, xc⟩ : RowV) :: R.drop j)), cap2, by rw [HN2.out, HRn.out], by go_num, by omega, by rw [← HRn.out, ← HN2.out, HRn.out]; exact R3⟩
                case measure => simp [intOf]; omega
              · skip
                have hrow3 := Lib.hid (HROW.out.fr F3.out (by simp))
                have hrd3 := Lib.hid ((hrow3.out).reads rfl)
                have hcap3 : R.length ≤ co := own_cap2 hrow3.out
                have hjco : j ≤ co := by omega
                have hN3 := hN.fr F3.out (by simp)
                have y0 := hN3.cell 0
                have y1 := hN3.cell 1
                have y2 := hN3.cell 2
                have y3 := hN3.cell 3
                have y4 := hN3.cell 4
                have hlt3 := hN3.lt
                have hjl : Hid ((R.take j).length = j) := Lib.hid (by rw [List.length_take]; omega)
                have htk3 := Lib.hid (hrd3.out.takeL RowV.cells_len (k := j) (by omega))
                have hdl3 : Hid (R.length - j = ([] : List RowV).length) := Lib.hid (by simp; omega)
                have hb1 : Hid ([(⟨xt, xk, xa, xb, xc⟩ : RowV)].length + ([] : List RowV).length ≤ 2020) := Lib.hid (by have := hll.out; simp only [List.length_singleton, List.length_drop, List.length_nil]; omega)
                have hb2 : Hid ((R.take j).length + ([(⟨xt, xk, xa, xb, xc⟩ : RowV)] ++ ([] : List RowV)).length ≤ 2020) := Lib.hid (by have := hll.out; simp only [List.length_append, List.length_take, List.length_singleton, List.length_drop, List.length_nil]; omega)
                have hmx : Hid ((2020 : Nat) ≤ maxLen) := Lib.hid (by decide)
                have hdrop : Hid (([] : List RowV) = R.drop j) := Lib.hid ((List.drop_eq_nil_of_le (by omega)).symm)
                first
                  | go_region_law (first
                    | (refine step_appendL rfl _ _ rfl TR RowV.cells_len RowV.cells_one rfl (own_new _ ⟨xt, xk, xa, xb, xc⟩ RowV.cells_len) 0 _ _ _ ([] : List RowV) rfl hdl3.out (reads_none hdl3.out) (Nat.le_trans hb1.out hmx.out) (Nat.le_trans (Nat.mul_le_mul_right 40 hb1.out) (by decide)) ?_; intro v1 w1' hrow1' hg1 hat1; have htk1 := Lib.hid ((htk3.out.drew.alloc (Nat.le_refl _) (.cells #[.int .i64 xt, .int .i64 xk, .int .i64 xa, .int .i64 xb, .int .i64 xc] 57)).grown hg1 (by rw [World.size_alloc]; exact Nat.le_succ _) (fun g hg => Nat.le_of_eq (Option.some.inj hg))); have hrow1 := Lib.hid hrow1'; have HG1 := Lib.hid hg1; have HA1 := Lib.hid hat1; obtain ⟨A1, n1, cap1, hv1, hn1, hrd1, hn1p⟩ := own_open hrow1' (by simp only [List.length_append, List.length_cons]; omega); subst hv1; have HN1 := Lib.hid hn1; have HRD1 := Lib.hid hrd1; clear hrow1' hg1 hat1 hn1 hrd1)
                    | (refine step_append_fullL rfl _ _ rfl TR RowV.cells_one _ _ _ _ rfl (L := R.take j) hjl.out.symm htk1.out (Nat.le_refl _) _ _ _ _ (N := [(⟨xt, xk, xa, xb, xc⟩ : RowV)] ++ ([] : List RowV)) rfl HN1.out hn1p HRD1.out (Nat.le_trans hb2.out hmx.out) (Nat.le_trans (Nat.mul_le_mul_right 40 hb2.out) (by decide)) ?_; intro v2 w2' hrow2' hg2 hat2; have HR2 := Lib.hid hrow2'; have HG2 := Lib.hid hg2; have HA2 := Lib.hid hat2; obtain ⟨A2, n2, cap2, hv2, hn2, hrd2, hn2p⟩ := own_open hrow2' (by simp only [List.length_append, List.length_cons]; omega); subst hv2; have HN2 := Lib.hid hn2; clear hrow2' hg2 hat2 hn2 hrd2))
                  | fail "law"
                have HRn : Hid ((R.take j) ++ ([(⟨xt, xk, xa, xb, xc⟩ : RowV)] ++ ([] : List RowV)) = (R.take j ++ ((⟨xt, xk, xa, xb, xc⟩ : RowV) :: R.drop j))) := Lib.hid (by rw [← hdrop.out]; rfl)
                have HFN := Lib.hid ((((((RR.out.fr.trans F2).trans F3.out).drew).alloc (.cells #[.int .i64 xt, .int .i64 xk, .int .i64 xa, .int .i64 xb, .int .i64 xc] 57)).grown HG1.out (fun g hg => .inr (by
                  have h1 := hxw.out
                  have h2 := F3.out.size
                  have h5 : w3.heap.size = g := Option.some.inj hg
                  omega))).grown HG2.out (fun g hg => by cases hg))
                have R3 : Hid (RgRel w w2' (.slice A2 n2 cap2) (R.take j ++ ((⟨xt, xk, xa, xb, xc⟩ : RowV) :: R.drop j)) (L.take (k + 1)) t c lo hi) := Lib.hid ⟨by rw [← HRn.out]; exact HR2.out, HFN.out, fun g hg => by
                    have h1 := HA2.out
                    rw [hg] at h1
                    injection h1 with h1
                    have h2 := HG1.out.size
                    have h3 := hxw.out
                    have h4 := F3.out.size
                    simp at h2
                    omega,
                  (insert_perm j).trans (by rw [HTK.out, if_pos HIN.out]; exact RR.out.perm.append_right _),
                  insert_srt RR.out.srt (fun i hi h1 => by rw [HVV.out]; exact hlo2.out i hi h1) (fun i hi h1 => by rw [HVV.out]; exact hhi2.out i hi h1) (hkeys.out HIN.out)⟩
                go_wp2_with fail
                go_roundw
                case rel => exact ⟨k + 1, A2, (R.take j ++ ((⟨xt, xk, xa, xb, xc⟩ : RowV) :: R.drop j)), cap2, by rw [HN2.out, HRn.out], by go_num, by omega, by rw [← HRn.out, ← HN2.out, HRn.out]; exact R3⟩
                case measure => simp [intOf]; omega
          · have hj00 : j = 0 := by omega
            subst hj00
            have F3 := Lib.hid hfq
            have hlo2 : Hid (∀ i (h : i < R.length), i < 0 → R[i].value c ≤ vv) := Lib.hid fun i h h1 => by omega
            have hhi2 : Hid (∀ i (h : i < R.length), 0 ≤ i → vv < R[i].value c) := hgt
            go_wp2_with fail
            have hrow3 := Lib.hid (HROW.out.fr F3.out (by simp))
            have hrd3 := Lib.hid ((hrow3.out).reads rfl)
            have hcap3 : R.length ≤ co := own_cap2 hrow3.out
            have hjco : 0 ≤ co := by omega
            have hN3 := hN.fr F3.out (by simp)
            have y0 := hN3.cell 0
            have y1 := hN3.cell 1
            have y2 := hN3.cell 2
            have y3 := hN3.cell 3
            have y4 := hN3.cell 4
            have hlt3 := hN3.lt
            have hb1 : Hid ([(⟨xt, xk, xa, xb, xc⟩ : RowV)].length + R.length ≤ 2020) := Lib.hid (by have := hll.out; simp only [List.length_singleton, List.length_drop, List.length_nil]; omega)
            have hb2 : Hid ((R.take 0).length + ([(⟨xt, xk, xa, xb, xc⟩ : RowV)] ++ R).length ≤ 2020) := Lib.hid (by have := hll.out; simp only [List.length_append, List.length_take, List.length_singleton, List.length_drop, List.length_nil]; omega)
            have hmx : Hid ((2020 : Nat) ≤ maxLen) := Lib.hid (by decide)
            first
              | go_region_law (first
                | (refine step_appendL rfl _ _ rfl TR RowV.cells_len RowV.cells_one rfl (own_new _ ⟨xt, xk, xa, xb, xc⟩ RowV.cells_len) _ _ _ _ R rfl rfl (hrd3.out.alloc (Nat.le_refl _) _) (Nat.le_trans hb1.out hmx.out) (Nat.le_trans (Nat.mul_le_mul_right 40 hb1.out) (by decide)) ?_; intro v1 w1' hrow1' hg1 hat1; have hrow1 := Lib.hid hrow1'; have HG1 := Lib.hid hg1; have HA1 := Lib.hid hat1; obtain ⟨A1, n1, cap1, hv1, hn1, hrd1, hn1p⟩ := own_open hrow1' (by simp only [List.length_append, List.length_cons]; omega); subst hv1; have HN1 := Lib.hid hn1; have HRD1 := Lib.hid hrd1; clear hrow1' hg1 hat1 hn1 hrd1)
                | (refine step_append_fullL rfl _ _ rfl TR RowV.cells_one 0 _ _ _ rfl (L := R.take 0) rfl Reads.none_ (Nat.le_refl _) _ _ _ _ (N := [(⟨xt, xk, xa, xb, xc⟩ : RowV)] ++ R) rfl HN1.out hn1p HRD1.out (Nat.le_trans hb2.out hmx.out) (Nat.le_trans (Nat.mul_le_mul_right 40 hb2.out) (by decide)) ?_; intro v2 w2' hrow2' hg2 hat2; have HR2 := Lib.hid hrow2'; have HG2 := Lib.hid hg2; have HA2 := Lib.hid hat2; obtain ⟨A2, n2, cap2, hv2, hn2, hrd2, hn2p⟩ := own_open hrow2' (by simp only [List.length_append, List.length_cons]; omega); subst hv2; have HN2 := Lib.hid hn2; clear hrow2' hg2 hat2 hn2 hrd2))
              | fail "law"
            have HRn : Hid ((R.take 0) ++ ([(⟨xt, xk, xa, xb, xc⟩ : RowV)] ++ R) = (R.take 0 ++ ((⟨xt, xk, xa, xb, xc⟩ : RowV) :: R.drop 0))) := Lib.hid (by simp)
            have HFN := Lib.hid ((((((RR.out.fr.trans F2).trans F3.out).drew).alloc (.cells #[.int .i64 xt, .int .i64 xk, .int .i64 xa, .int .i64 xb, .int .i64 xc] 57)).grown HG1.out (fun g hg => .inr (by
              have h1 := hxw.out
              have h2 := F3.out.size
              have h5 : wr.heap.size = g := Option.some.inj hg
              omega))).grown HG2.out (fun g hg => by cases hg))
            have R3 : Hid (RgRel w w2' (.slice A2 n2 cap2) (R.take 0 ++ ((⟨xt, xk, xa, xb, xc⟩ : RowV) :: R.drop 0)) (L.take (k + 1)) t c lo hi) := Lib.hid ⟨by rw [← HRn.out]; exact HR2.out, HFN.out, fun g hg => by
                have h1 := HA2.out
                rw [hg] at h1
                injection h1 with h1
                have h2 := HG1.out.size
                have h3 := hxw.out
                have h4 := F3.out.size
                simp at h2
                omega,
              (insert_perm 0).trans (by rw [HTK.out, if_pos HIN.out]; exact RR.out.perm.append_right _),
              insert_srt RR.out.srt (fun i hi h1 => by rw [HVV.out]; exact hlo2.out i hi h1) (fun i hi h1 => by rw [HVV.out]; exact hhi2.out i hi h1) (hkeys.out HIN.out)⟩
            go_wp2_with fail
            go_roundw
            case rel => exact ⟨k + 1, A2, (R.take 0 ++ ((⟨xt, xk, xa, xb, xc⟩ : RowV) :: R.drop 0)), cap2, by rw [HN2.out, HRn.out], by go_num, by omega, by rw [← HRn.out, ← HN2.out, HRn.out]; exact R3⟩
            case measure => simp [intOf]; omega
      · have HIN : Hid (inRng t c lo hi ⟨xt, xk, xa, xb, xc⟩ = false) := Lib.hid (by rw [HE.out]; simp; omega)
        have R2 : Hid (RgRel w w2 (.slice Ao R.length co) R (L.take (k + 1)) t c lo hi) := Lib.hid ⟨RR.out.row.fr F2 (by simp), RR.out.fr.trans F2, RR.out.own, by rw [HTK.out, if_neg (by rw [HIN.out]; simp), List.append_nil]; exact RR.out.perm, RR.out.srt⟩
        by_cases e1 : xt = t
        · have e' : (xt != t) = false := by simp [e1]
          have E1 := Lib.hid e1
          by_cases e2 : vv < lo
          · clear e1 hin
            go_wp2_with fail
            go_roundw
            case rel => exact ⟨k + 1, Ao, R, co, rfl, by go_num, by omega, R2⟩
            case measure => simp [intOf]; omega
          · have e3 : hi < vv := by omega
            clear e1 hin
            go_wp2_with fail
            go_roundw
            case rel => exact ⟨k + 1, Ao, R, co, rfl, by go_num, by omega, R2⟩
            case measure => simp [intOf]; omega
        · have e' : (xt != t) = true := by simpa using e1
          clear e1 hin
          go_wp2_with fail
          go_roundw
          case rel => exact ⟨k + 1, Ao, R, co, rfl, by go_num, by omega, R2⟩
          case measure => simp [intOf]; omega
    · have hke : L.take k = L := List.take_of_length_le (by omega)
      rw [hke] at RR
      clear hke
      go_wp2_with fail
      go_ret
      exact ⟨_, R, rfl, RR.out.row, ⟨RR.out.perm.trans (H.out.sim.perm.filter _), RR.out.srt.imp fun h => ahead2_asymm h⟩, RR.out.fr, RR.out.own⟩
end Go.Proofs.Ytjiikpmkedkbkaa
namespace Go.Proofs.Ytjiikpmkedkbkaa
open Go.RowKit

def encI (x : Int) : List Value := [.int .i64 x]
theorem encI_len (x : Int) : (encI x).length = 1 := rfl
theorem encI_one (x : Int) : ∀ u ∈ encI x, u.oneCell' = true := by
  intro u hu
  simp only [encI, List.mem_singleton] at hu
  subst hu
  rfl
theorem etI : ∃ i z, ET Try.prog 117 3 1 8 i z := by
  have h : (Try.prog.info? 3).map (fun i => (i.zero, i.size, i.bytes)) = some (some (.int .i64 0), 1, 8) := by kernel_rfl
  obtain ⟨i0, hi, hz0, hz1, hz2⟩ := info_parts h
  exact ⟨i0, _, Try.underlying117, hi, hz0, hz1, hz2, rfl, by decide⟩
/-- Integers at an address. -/
def IntRow (w : World) (A : Option Addr) (xs : List Int) : Prop := 0 < xs.length → ∃ b off, A = some ⟨b, off, none⟩ ∧ b < w.heap.size ∧ ∀ k (h : k < xs.length), w.cell? ⟨b, off + k, none⟩ = some (.int .i64 xs[k])
theorem IntRow.fr0 {w w' : World} {A : Option Addr} {xs : List Int} (h : IntRow w A xs) (hf : Fr [] w w') : IntRow w' A xs := by
  intro h0
  obtain ⟨b, off, e, hb, hc⟩ := h h0
  exact ⟨b, off, e, Nat.lt_of_lt_of_le hb hf.size, fun k hk => by rw [hf.cell (p := ⟨b, off + k, none⟩) hb (by simp)]; exact hc k hk⟩
theorem IntRow.of_own {w : World} {A : Option Addr} {n cap : Nat} {xs : List Int} (h : OwnL 3 1 encI w (.slice A n cap) xs) : IntRow w A xs ∧ n = xs.length := by
  obtain ⟨h1, h2⟩ := h.at1 encI_len
  refine ⟨fun h0 => ?_, h2⟩
  obtain ⟨b, off, e, hb, hc⟩ := h1 h0
  refine ⟨b, off, e, hb, fun k hk => ?_⟩
  have h3 := hc k hk 0 (by decide)
  rw [Nat.mul_one, Nat.add_zero] at h3
  exact h3
/-- What a fold does to a number and a flag. -/
def foldS {X : Type} (g : Int → Bool → X → Int × Bool) (l : List X) (s : Int × Bool) : Int × Bool := l.foldl (fun s x => g s.1 s.2 x) s
theorem foldS_take {X : Type} (g : Int → Bool → X → Int × Bool) (l : List X) (s : Int × Bool) {k : Nat} (hk : k < l.length) {n : Int} {f : Bool} (h : foldS g (l.take k) s = (n, f)) : foldS g (l.take (k + 1)) s = g n f l[k] := by
  unfold foldS at *
  rw [List.take_succ_eq_append_getElem hk, List.foldl_append, h]
  rfl
/-- Between two rounds. -/
structure FoRel (w wr : World) (v : Value) (n : Int) (f : Bool) : Prop where
  box : Blk wr w.heap.size 27 #[v, .int .i64 n, .bool f]
  res : Blk wr (w.heap.size + 1) 27 #[.slice none 0 0, .int .i64 0, .bool false]
  fr : Fr [] w wr
theorem FoRel.new (w : World) (v : Value) (n : Int) (f : Bool) : FoRel w ((w.alloc (.cells #[v, .int .i64 n, .bool f] 27)).alloc (.cells #[.slice none 0 0, .int .i64 0, .bool false] 27)) v n f := by
  refine ⟨(Blk.new w _ _).alloc _, ?_, ((Fr.refl _ _).alloc _).alloc _⟩
  have h := Blk.new (w.alloc (.cells #[v, .int .i64 n, .bool f] 27)) 27 #[.slice none 0 0, .int .i64 0, .bool false]
  rw [World.size_alloc] at h
  exact h
theorem FoRel.fr0 {w wr w' : World} {v : Value} {n : Int} {f : Bool} (h : FoRel w wr v n f) (hf : Fr [] wr w') : FoRel w w' v n f := ⟨h.box.fr hf (by simp), h.res.fr hf (by simp), h.fr.trans hf⟩
theorem FoRel.put {w w2 : World} {v : Value} {n : Int} {f : Bool} (h : FoRel w w2 v n f) (n2 : Int) (f2 : Bool) :
    FoRel w (((w2.setCell ⟨w.heap.size, 0, none⟩ v).setCell ⟨w.heap.size, 1, none⟩ (.int .i64 n2)).setCell ⟨w.heap.size, 2, none⟩ (.bool f2)) v n2 f2 := by
  have hf : Fr [w.heap.size] w2 (((w2.setCell ⟨w.heap.size, 0, none⟩ v).setCell ⟨w.heap.size, 1, none⟩ (.int .i64 n2)).setCell ⟨w.heap.size, 2, none⟩ (.bool f2)) := (((Fr.refl _ _).setCell (.inl (by simp)) _).setCell (.inl (by simp)) _).setCell (.inl (by simp)) _
  exact ⟨((h.box.set_ 0 _).set_ 1 _).set_ 2 _, h.res.fr hf (by simp), h.fr.trans' hf (fun x hx => .inr (by simp only [List.mem_singleton] at hx; omega))⟩
theorem FoRel.fin {w w2 : World} {v : Value} {n : Int} {f : Bool} (h : FoRel w w2 v n f) (v2 : Value) (n2 : Int) (f2 : Bool) :
    ∃ w3, ((w2.setCell ⟨w.heap.size + 1, 0, none⟩ v2).setCell ⟨w.heap.size + 1, 1, none⟩ (.int .i64 n2)).setCell ⟨w.heap.size + 1, 2, none⟩ (.bool f2) = w3 ∧
      w3.cell? ⟨w.heap.size + 1, 0, none⟩ = some v2 ∧ w3.cell? ⟨w.heap.size + 1, 1, none⟩ = some (.int .i64 n2) ∧ w3.cell? ⟨w.heap.size + 1, 2, none⟩ = some (.bool f2) ∧ Fr [] w w3 := by
  have hq := ((h.res.set_ 0 v2).set_ 1 (.int .i64 n2)).set_ 2 (.bool f2)
  exact ⟨_, rfl, hq.cell 0, hq.cell 1, hq.cell 2, ((h.fr.setCell (.inr (Nat.le_succ _)) _).setCell (.inr (Nat.le_succ _)) _).setCell (.inr (Nat.le_succ _)) _⟩
end Go.Proofs.Ytjiikpmkedkbkaa
