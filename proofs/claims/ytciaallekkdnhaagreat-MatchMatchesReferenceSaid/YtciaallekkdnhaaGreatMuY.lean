/-
  Reference 08: Add, Remove.
-/
import Derived.Test.YtciaallekkdnhaaGreatMuX
import Derived.Test.YtciaallekkdnhaaGreatJx
import Derived.Deep.DeepCutAuto
import Derived.Deep.CutBlock
namespace Go.Proofs.YtciaallekkdnhaaGreat
open Go.RowKit

section
variable {w w' : World} {b : Nat} {v : Value} {M : Mm.Ix} {R : Rx.Rl} {id : Int} {q : Qry}
theorem RxAt.code_ne (h : RxAt w b v M R) (hn : ¬ (Em.valid q = true ∧ Rx.there R id = false ∧ R.length < 500)) : Mm.code M id q = 80 ∧ Mm.add M id q = M := by
  have h1 : Mm.code M id q ≠ 0 := fun e => hn ((h.sim.code q).1 e)
  have h2 : Mm.code M id q = 80 := by
    unfold Mm.code at h1 ⊢
    split
    · rfl
    · rename_i hc
      rw [if_neg hc] at h1
      exact absurd rfl h1
  exact ⟨h2, if_neg h1⟩
theorem RxAt.code_eq (h : RxAt w b v M R) (hv : Em.valid q = true) (ht : Rx.there R id = false) (hl : R.length < 500) : Mm.code M id q = 0 ∧ Mm.add M id q = mput M id q := by
  have h1 := (h.sim.code q).2 ⟨hv, ht, hl⟩
  exact ⟨h1, if_pos h1⟩
end
set_option maxRecDepth 100000 in
set_option maxHeartbeats 8000000 in
theorem rxadd_any (b : Nat) (v : Value) (M : Mm.Ix) (R : Rx.Rl) (id : Int) (q : Qry) (w : World) (h : RxAt w b v M R) : Calls Tryz.prog 18 #[.pointer (some ⟨b, 0, none⟩), .int .i64 id, q.val] w fun e w' => ∃ v' R', e = .returned (.int .i64 (Mm.code M id q)) ∧ RxAt w' b v' (Mm.add M id q) R' ∧ Fr [b] w w' := by
  have H := Lib.hid h
  have HB := Lib.hid (QAt.new w q)
  have HF := Lib.hid ((Fr.refl [] w).alloc (.cells #[.int .i64 q.kind, .int .i64 q.table, .int .i64 q.column, .int .i64 q.low, .int .i64 q.high, .int .i64 q.by_, .int .i64 q.other] 35))
  have HV := Lib.hid (fun W => rvalid_any q W)
  have H0 := Lib.hid (h.fr0 HF.out)
  have HATC := Lib.hid (rxat_any b v M R id _ H0.out)
  obtain ⟨A, cap, hv, hc1, hc2⟩ := h.val
  have h63 : cap < 9223372036854775808 := by simp only [maxLen] at hc2; omega
  have hn5 := h.len
  obtain ⟨n, hn⟩ : ∃ n, n = R.length := ⟨_, rfl⟩
  rw [← hn] at hv hc1 hn5
  have HN := Lib.hid hn
  have hpl := Rx.pos_le R id
  rw [← hn] at hpl
  obtain ⟨pp, HPP⟩ : ∃ p, Hid (Rx.pos R id = p) := ⟨_, Lib.hid rfl⟩
  obtain ⟨tt, HTT⟩ : ∃ p, Hid (Rx.there R id = p) := ⟨_, Lib.hid rfl⟩
  obtain ⟨vv, HVV⟩ : ∃ p, Hid (Em.valid q = p) := ⟨_, Lib.hid rfl⟩
  obtain ⟨cc, HCC⟩ : ∃ p, Hid (Mm.code M id q = p) := ⟨_, Lib.hid rfl⟩
  obtain ⟨MM, HMM⟩ : ∃ p, Hid (Mm.add M id q = p) := ⟨_, Lib.hid rfl⟩
  rw [HPP.out] at hpl
  rw [HPP.out, HTT.out] at HATC
  rw [HVV.out] at HV
  rw [HCC.out, HMM.out]
  subst hv
  clear h hn
  go_enter Tryz.func18, Tryz.ntmps18
  go_wp2_with fail
  refine HATC.out.mono ?_
  rintro e w1 ⟨rfl, f1⟩
  have F1 := Lib.hid (HF.out.trans f1)
  have B1 := Lib.hid (QAt.fr HB.out f1 (by simp))
  have q0 := B1.out.c0
  have q1 := B1.out.c1
  have q2 := B1.out.c2
  have q3 := B1.out.c3
  have q4 := B1.out.c4
  have q5 := B1.out.c5
  have q6 := B1.out.c6
  clear f1 HATC HB HF H0
  go_wp2_with fail
  refine (HV.out _).mono ?_
  rintro e w2 ⟨rfl, f2⟩
  have F2 := Lib.hid (F1.out.trans f2)
  have B2 := Lib.hid (QAt.fr B1.out f2 (by simp))
  have H2 := Lib.hid (H.out.fr0 F2.out)
  clear f2 q0 q1 q2 q3 q4 q5 q6 B1 F1 HV
  have e0 : w2.cell? ⟨b, 0, none⟩ = some (.slice A n cap) := H2.out.blk.cell 0
  cases vv with
  | false =>
    have HE := Lib.hid (H2.out.code_ne (id := id) (q := q) (by rw [HVV.out]; simp))
    have hcc : Hid (cc = 80 ∧ MM = M) := Lib.hid (by rw [← HCC.out, ← HMM.out]; exact HE.out)
    go_wp2_with fail
    go_ret
    exact ⟨_, R, by rw [hcc.out.1]; rfl, by rw [hcc.out.2]; exact H2.out, F2.out.mono (by simp)⟩
  | true =>
    cases tt with
    | true =>
      have HE := Lib.hid (H2.out.code_ne (id := id) (q := q) (by rw [HTT.out]; simp))
      have hcc : Hid (cc = 80 ∧ MM = M) := Lib.hid (by rw [← HCC.out, ← HMM.out]; exact HE.out)
      go_wp2_with fail
      go_ret
      exact ⟨_, R, by rw [hcc.out.1]; rfl, by rw [hcc.out.2]; exact H2.out, F2.out.mono (by simp)⟩
    | false =>
      by_cases hfull : 500 ≤ n
      · have HE := Lib.hid (H2.out.code_ne (id := id) (q := q) (by rw [← HN.out]; omega))
        have hcc : Hid (cc = 80 ∧ MM = M) := Lib.hid (by rw [← HCC.out, ← HMM.out]; exact HE.out)
        have hfull' : (500 : Int) ≤ (n : Int) := by omega
        go_wp2_with fail
        go_ret
        exact ⟨_, R, by rw [hcc.out.1]; rfl, by rw [hcc.out.2]; exact H2.out, F2.out.mono (by simp)⟩
      · have HE := Lib.hid (H2.out.code_eq HVV.out HTT.out (by rw [← HN.out]; omega))
        have hcc : Hid (cc = 0 ∧ MM = mput M id q) := Lib.hid (by rw [← HCC.out, ← HMM.out]; exact HE.out)
        have hfull' : decide ((500 : Int) ≤ (n : Int)) = false := decide_eq_false (by omega)
        have HSIM := Lib.hid (H2.out.sim.add (id := id) q HTT.out)
        rw [HPP.out] at HSIM
        obtain ⟨i0, z0, TQ⟩ := etIt
        have TV := Lib.hid TQ
        have hRD := Lib.hid (H2.out.row.reads (A := A) (n := n) (cap := cap) rfl)
        rw [← HN.out] at hRD
        have hTK := Lib.hid (hRD.out.takeL encIt_len (k := pp) (by omega))
        have htl : Hid ((R.take pp).length = pp) := Lib.hid (by rw [List.length_take, ← HN.out]; omega)
        have H499 : Hid (n < 500) := Lib.hid (by omega)
        clear TQ hfull
        go_upto_region 7 with (at_builtin; refine wpList_appendL rfl _ _ rfl TV.out encIt_len encIt_one rfl OwnL.nil _ _ _ _ (R.take pp) rfl htl.out.symm hTK.out (by rw [htl.out]; simp only [maxLen, List.length_nil]; omega) (by rw [htl.out]; simp only [List.length_nil]; omega) ?_; intro v5 w5 ho5 hg5 hat5; have HO5 := Lib.hid ho5; have HG5 := Lib.hid ((Fr.refl [] w2).grown hg5 (fun g h => by cases h)); have HA5 := Lib.hid (own_fresh hat5 (Nat.le_refl _)); clear ho5 hg5 hat5)
        clear e0 hTK
        have B5 := Lib.hid (QAt.fr B2.out HG5.out (by simp))
        have q0 := B5.out.c0
        have q1 := B5.out.c1
        have q2 := B5.out.c2
        have q3 := B5.out.c3
        have q4 := B5.out.c4
        have q5 := B5.out.c5
        have q6 := B5.out.c6
        have RN : Hid (Reads (w5.alloc (.cells #[.int .i64 id, .int .i64 q.kind, .int .i64 q.table, .int .i64 q.column, .int .i64 q.low, .int .i64 q.high, .int .i64 q.by_, .int .i64 q.other] 87)) (w5.heap.size + 1) 8 (some ⟨w5.heap.size, 0, none⟩) 1 ([(id, q)].flatMap encIt)) := Lib.hid (reads_new w5 87 (id, q) rfl)
        go_upto_region 8 with (at_builtin; refine wpList_appendL rfl _ _ rfl TV.out encIt_len encIt_one rfl (HO5.out.fr ((Fr.refl [] w5).alloc _) (by simp)) _ _ _ _ [(id, q)] rfl rfl RN.out (by rw [List.length_append, htl.out]; simp only [maxLen, List.length_nil, List.length_singleton]; omega) (by rw [List.length_append, htl.out]; simp only [List.length_nil, List.length_singleton]; omega) ?_; intro v6 w6 ho6 hg6 hat6; have HO6 := Lib.hid ho6; have HG6 := Lib.hid ((HG5.out.alloc _).grown hg6 (fun g hg => .inr (HA5.out g hg))); have HA6 := Lib.hid (own_fresh2 HA5.out hat6 (by rw [World.size_alloc]; have := HG5.out.size; omega)); clear ho6 hg6 hat6)
        clear q0 q1 q2 q3 q4 q5 q6 RN B5
        have H6 := Lib.hid (H2.out.fr0 HG6.out)
        have e6 : w6.cell? ⟨b, 0, none⟩ = some (.slice A n cap) := H6.out.blk.cell 0
        have hRD6 := Lib.hid (H6.out.row.reads (A := A) (n := n) (cap := cap) rfl)
        rw [← HN.out] at hRD6
        have HFIN : Hid (∀ (N : List (Int × Qry)) (v7 : Value) (w7 : World), N = R.drop pp → OwnL 87 8 encIt w7 v7 ((([] ++ R.take pp) ++ [(id, q)]) ++ N) → w6.grownBy w7 v6.ownBlock → (v7.ownBlock = v6.ownBlock ∨ v7.ownBlock = some w6.heap.size) → (∃ A7 n7 c7, v7 = .slice A7 n7 c7) ∧ (w7.cell? ⟨b, 0, none⟩ = some (.slice A n cap) ∧ w7.frozen? ⟨b, 0, none⟩ = false) ∧ RxAt (w7.setCell ⟨b, 0, none⟩ v7) b v7 MM ((R.take pp ++ [(id, q)]) ++ R.drop pp) ∧ Fr [b] w (w7.setCell ⟨b, 0, none⟩ v7)) := Lib.hid (by
          intro N v7 w7 hN ho7 hg7 hat7
          subst hN
          have hbs := H.out.blk.lt
          have hg : Fr [] w2 w7 := HG6.out.grown hg7 (fun g hg => .inr (HA6.out g hg))
          have hA7 := own_fresh2 HA6.out hat7 HG6.out.size
          have hb2 : b < w2.heap.size := Nat.lt_of_lt_of_le hbs F2.out.size
          have hb7 := H2.out.blk.fr hg (by simp)
          have hw2 := F2.out.size
          refine ⟨(match ho7.val with | ⟨_, _, hv⟩ => ⟨_, _, _, hv⟩), ⟨hb7.cell 0, hb7.frozen 0⟩, ⟨?_, ?_, ?_, ?_⟩, ((F2.out.mono (by simp)).trans (hg.mono (by simp))).setCell (.inl (by simp)) _⟩
          · simpa using hb7.set_ 0 v7
          · rw [List.nil_append] at ho7
            exact ho7.fr ((Fr.refl [b] w7).setCell (.inl (by simp)) _) (fun g hg hm => by
              have h1 := hA7 g hg
              have h2 : g = b := by simpa using hm
              omega)
          · rw [hcc.out.2]
            exact HSIM.out
          · simp only [List.length_append, List.length_take, List.length_drop, List.length_singleton]
            rw [← HN.out]
            have := H499.out
            omega)
        have htd : Hid ((R.drop pp).length = n - pp) := Lib.hid (by rw [List.length_drop, ← HN.out])
        by_cases hq : pp < n
        · obtain ⟨gR, cap', hA, -, -, -, -, -⟩ := H6.out.row.form encIt_len (by rw [← HN.out]; omega)
          injection hA with hA h2 h3
          subst hA
          have hDR := Lib.hid (Reads.from2 encIt_len (by rw [← HN.out]; exact hRD6.out) (k := pp) (off := pp * 8) (n := n - pp) (by rw [← HN.out]; omega) rfl (by rw [← HN.out]))
          have hcne : ¬ cap = pp := by omega
          clear h2 h3
          go_wp2_with (at_builtin; refine wpList_appendL rfl _ _ rfl TV.out encIt_len encIt_one rfl HO6.out _ _ _ _ (R.drop pp) rfl htd.out.symm hDR.out (by rw [htd.out, List.length_append, List.length_append, htl.out]; simp only [maxLen, List.length_nil, List.length_singleton]; omega) (by rw [htd.out, List.length_append, List.length_append, htl.out]; simp only [List.length_nil, List.length_singleton]; omega) ?_; intro v7 w7 ho7 hg7 hat7; obtain ⟨⟨A7, n7, c7, hv7⟩, ⟨y7, z7⟩, hrx, hfx⟩ := HFIN.out _ _ _ rfl ho7 hg7 hat7; subst hv7; have HRX := Lib.hid hrx; have HFX := Lib.hid hfx; clear ho7 hg7 hat7 hrx hfx)
          go_ret
          first
            | exact ⟨_, _, by rw [hcc.out.1]; rfl, HRX.out, HFX.out⟩
            | exact ⟨by rw [hcc.out.1]; rfl, ⟨_, _, HRX.out⟩, HFX.out⟩
        · have hdn : Hid (([] : List (Int × Qry)) = R.drop pp) := Lib.hid (List.drop_eq_nil_of_le (by rw [← HN.out]; omega)).symm
          go_wp2_with (at_builtin; refine wpList_appendL rfl _ _ rfl TV.out encIt_len encIt_one rfl HO6.out 0 _ _ _ ([] : List (Int × Qry)) rfl (by first | omega | (simp; omega)) (reads_none (by first | omega | (simp; omega))) (by rw [List.length_append, List.length_append, htl.out]; simp only [maxLen, List.length_nil, List.length_singleton]; omega) (by rw [List.length_append, List.length_append, htl.out]; simp only [List.length_nil, List.length_singleton]; omega) ?_; intro v7 w7 ho7 hg7 hat7; obtain ⟨⟨A7, n7, c7, hv7⟩, ⟨y7, z7⟩, hrx, hfx⟩ := HFIN.out _ _ _ hdn.out ho7 hg7 hat7; subst hv7; have HRX := Lib.hid hrx; have HFX := Lib.hid hfx; clear ho7 hg7 hat7 hrx hfx)
          all_goals
            go_ret
            first
              | exact ⟨_, _, by rw [hcc.out.1]; rfl, HRX.out, HFX.out⟩
              | exact ⟨by rw [hcc.out.1]; rfl, ⟨_, _, HRX.out⟩, HFX.out⟩
set_option maxRecDepth 100000 in
set_option maxHeartbeats 8000000 in
theorem rxremove_any (b : Nat) (v : Value) (M : Mm.Ix) (R : Rx.Rl) (id : Int) (w : World) (h : RxAt w b v M R) : Calls Tryz.prog 16 #[.pointer (some ⟨b, 0, none⟩), .int .i64 id] w fun e w' => ∃ v' R', e = .returned (.bool (mget M id).isSome) ∧ RxAt w' b v' (mdel M id) R' ∧ Fr [b] w w' := by
  have H := Lib.hid h
  have HATC := Lib.hid (rxat_any b v M R id _ h)
  obtain ⟨A, cap, hv, hc1, hc2⟩ := h.val
  have h63 : cap < 9223372036854775808 := by simp only [maxLen] at hc2; omega
  have hn5 := h.len
  obtain ⟨n, hn⟩ : ∃ n, n = R.length := ⟨_, rfl⟩
  rw [← hn] at hv hc1 hn5
  have HN := Lib.hid hn
  have hpl := Rx.pos_le R id
  rw [← hn] at hpl
  obtain ⟨pp, HPP⟩ : ∃ p, Hid (Rx.pos R id = p) := ⟨_, Lib.hid rfl⟩
  obtain ⟨tt, HTT⟩ : ∃ p, Hid (Rx.there R id = p) := ⟨_, Lib.hid rfl⟩
  obtain ⟨MM, HMM⟩ : ∃ p, Hid (mdel M id = p) := ⟨_, Lib.hid rfl⟩
  have HGS : Hid ((mget M id).isSome = tt) := Lib.hid (by rw [← h.sim.there]; exact HTT.out)
  rw [HPP.out] at hpl
  rw [HPP.out, HTT.out] at HATC
  rw [HGS.out, HMM.out]
  subst hv
  clear h hn
  go_enter Tryz.func16, Tryz.ntmps16
  go_wp2_with fail
  refine HATC.out.mono ?_
  rintro e w2 ⟨rfl, f1⟩
  have F2 := Lib.hid f1
  have H2 := Lib.hid (H.out.fr0 f1)
  clear f1 HATC
  have e0 : w2.cell? ⟨b, 0, none⟩ = some (.slice A n cap) := H2.out.blk.cell 0
  cases tt with
  | false =>
    have hmm : Hid (MM = M) := Lib.hid (by rw [← HMM.out]; exact H.out.sim.same HTT.out)
    go_wp2_with fail
    go_ret
    first
      | exact ⟨_, R, rfl, by rw [hmm.out]; exact H2.out, F2.out.mono (by simp)⟩
      | exact ⟨rfl, ⟨_, R, by rw [hmm.out]; exact H2.out⟩, F2.out.mono (by simp)⟩
  | true =>
    obtain ⟨hp1, -⟩ := Rx.there_at HTT.out
    have hp2 : pp < n := by rw [HN.out, ← HPP.out]; exact hp1
    have HSIM := Lib.hid (H2.out.sim.del (id := id) HTT.out)
    rw [HPP.out, HMM.out] at HSIM
    obtain ⟨i0, z0, TQ⟩ := etIt
    have TV := Lib.hid TQ
    have hRD := Lib.hid (H2.out.row.reads (A := A) (n := n) (cap := cap) rfl)
    rw [← HN.out] at hRD
    have hTK := Lib.hid (hRD.out.takeL encIt_len (k := pp) (by omega))
    have htl : Hid ((R.take pp).length = pp) := Lib.hid (by rw [List.length_take, ← HN.out]; omega)
    clear TQ hp1
    go_upto_region 6 with (at_builtin; refine wpList_appendL rfl _ _ rfl TV.out encIt_len encIt_one rfl OwnL.nil _ _ _ _ (R.take pp) rfl htl.out.symm hTK.out (by rw [htl.out]; simp only [maxLen, List.length_nil]; omega) (by rw [htl.out]; simp only [List.length_nil]; omega) ?_; intro v6 w6 ho5 hg5 hat5; have HO6 := Lib.hid ho5; have HG6 := Lib.hid ((Fr.refl [] w2).grown hg5 (fun g h => by cases h)); have HA6 := Lib.hid (own_fresh hat5 (Nat.le_refl _)); clear ho5 hg5 hat5)
    clear e0 hTK
    have H6 := Lib.hid (H2.out.fr0 HG6.out)
    have e6 : w6.cell? ⟨b, 0, none⟩ = some (.slice A n cap) := H6.out.blk.cell 0
    have hRD6 := Lib.hid (H6.out.row.reads (A := A) (n := n) (cap := cap) rfl)
    rw [← HN.out] at hRD6
    have HFIN : Hid (∀ (N : List (Int × Qry)) (v7 : Value) (w7 : World), N = R.drop (pp + 1) → OwnL 87 8 encIt w7 v7 (([] ++ R.take pp) ++ N) → w6.grownBy w7 v6.ownBlock → (v7.ownBlock = v6.ownBlock ∨ v7.ownBlock = some w6.heap.size) → (∃ A7 n7 c7, v7 = .slice A7 n7 c7) ∧ (w7.cell? ⟨b, 0, none⟩ = some (.slice A n cap) ∧ w7.frozen? ⟨b, 0, none⟩ = false) ∧ RxAt (w7.setCell ⟨b, 0, none⟩ v7) b v7 MM (R.take pp ++ R.drop (pp + 1)) ∧ Fr [b] w (w7.setCell ⟨b, 0, none⟩ v7)) := Lib.hid (by
      intro N v7 w7 hN ho7 hg7 hat7
      subst hN
      have hbs := H.out.blk.lt
      have hg : Fr [] w2 w7 := HG6.out.grown hg7 (fun g hg => .inr (HA6.out g hg))
      have hA7 := own_fresh2 HA6.out hat7 HG6.out.size
      have hb2 : b < w2.heap.size := Nat.lt_of_lt_of_le hbs F2.out.size
      have hb7 := H2.out.blk.fr hg (by simp)
      refine ⟨(match ho7.val with | ⟨_, _, hv⟩ => ⟨_, _, _, hv⟩), ⟨hb7.cell 0, hb7.frozen 0⟩, ⟨?_, ?_, HSIM.out, ?_⟩, ((F2.out.mono (by simp)).trans (hg.mono (by simp))).setCell (.inl (by simp)) _⟩
      · simpa using hb7.set_ 0 v7
      · rw [List.nil_append] at ho7
        exact ho7.fr ((Fr.refl [b] w7).setCell (.inl (by simp)) _) (fun g hg hm => by
          have h1 := hA7 g hg
          have h2 : g = b := by simpa using hm
          omega)
      · simp only [List.length_append, List.length_take, List.length_drop]
        rw [← HN.out]
        omega)
    have htd : Hid ((R.drop (pp + 1)).length = n - (pp + 1)) := Lib.hid (by rw [List.length_drop, ← HN.out])
    by_cases hq : pp + 1 < n
    · obtain ⟨gR, cap', hA, -, -, -, -, -⟩ := H6.out.row.form encIt_len (by rw [← HN.out]; omega)
      injection hA with hA h2 h3
      subst hA
      have hDR := Lib.hid (Reads.from2 encIt_len (by rw [← HN.out]; exact hRD6.out) (k := pp + 1) (off := (pp + 1) * 8) (n := n - (pp + 1)) (by rw [← HN.out]; omega) rfl (by rw [← HN.out]))
      have hcne : ¬ cap = pp + 1 := by omega
      clear h2 h3
      go_wp2_with (at_builtin; refine wpList_appendL rfl _ _ rfl TV.out encIt_len encIt_one rfl HO6.out _ _ _ _ (R.drop (pp + 1)) rfl htd.out.symm hDR.out (by rw [htd.out, List.length_append, htl.out]; simp only [maxLen, List.length_nil]; omega) (by rw [htd.out, List.length_append, htl.out]; simp only [List.length_nil]; omega) ?_; intro v7 w7 ho7 hg7 hat7; obtain ⟨⟨A7, n7, c7, hv7⟩, ⟨y7, z7⟩, hrx, hfx⟩ := HFIN.out _ _ _ rfl ho7 hg7 hat7; subst hv7; have HRX := Lib.hid hrx; have HFX := Lib.hid hfx; clear ho7 hg7 hat7 hrx hfx)
      all_goals
        go_ret
        first
          | exact ⟨_, _, rfl, HRX.out, HFX.out⟩
          | exact ⟨rfl, ⟨_, _, HRX.out⟩, HFX.out⟩
    · have hdn : Hid (([] : List (Int × Qry)) = R.drop (pp + 1)) := Lib.hid (List.drop_eq_nil_of_le (by rw [← HN.out]; omega)).symm
      go_wp2_with (at_builtin; refine wpList_appendL rfl _ _ rfl TV.out encIt_len encIt_one rfl HO6.out 0 _ _ _ ([] : List (Int × Qry)) rfl (by first | omega | (simp; omega)) (reads_none (by first | omega | (simp; omega))) (by rw [List.length_append, htl.out]; simp only [maxLen, List.length_nil]; omega) (by rw [List.length_append, htl.out]; simp only [List.length_nil]; omega) ?_; intro v7 w7 ho7 hg7 hat7; obtain ⟨⟨A7, n7, c7, hv7⟩, ⟨y7, z7⟩, hrx, hfx⟩ := HFIN.out _ _ _ hdn.out ho7 hg7 hat7; subst hv7; have HRX := Lib.hid hrx; have HFX := Lib.hid hfx; clear ho7 hg7 hat7 hrx hfx)
      all_goals
        go_ret
        first
          | exact ⟨_, _, rfl, HRX.out, HFX.out⟩
          | exact ⟨rfl, ⟨_, _, HRX.out⟩, HFX.out⟩
end Go.Proofs.YtciaallekkdnhaaGreat
