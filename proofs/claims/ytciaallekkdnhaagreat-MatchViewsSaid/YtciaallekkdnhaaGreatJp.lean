/-
  patchRows.
-/
import Derived.Test.YtciaallekkdnhaaGreatJo
import Derived.Deep.RegionHeld3
import Derived.Deep.QuietTactic
import Derived.Test.YtciaallekkdnhaaGreatJa
namespace Go.Proofs.YtciaallekkdnhaaGreat
open Go.RowKit

/-- Insert, wherever. -/
theorem pairIns_any (A : Option Addr) (n cap : Nat) (L : List PairV) (i : Nat) (x : PairV) (vb : Nat) (w : World) (ho : OwnL 187 10 PairV.cells w (.slice A n cap) L) (hi : i ≤ n) (hl : n ≤ 100000) (hv : Blk w vb 187 (PairV.cells x).toArray) (hne : ∀ ad, A = some ad → vb ≠ ad.block) :
    Calls Tryz.prog 178 #[.slice A n cap, .int .i64 i, .slice (some ⟨vb, 0, none⟩) 1 1] w fun e w' => ∃ A' n' c', e = .returned (.slice A' n' c') ∧ OwnL 187 10 PairV.cells w' (.slice A' n' c') (L.take i ++ x :: L.drop i) ∧ Fr (sliceB A) w w' ∧ ∀ ad, A' = some ad → ad.block ∈ sliceB A ∨ w.heap.size ≤ ad.block := by
  have hn : n = L.length := ho.blk.1
  by_cases h1 : i = n
  · subst h1
    refine (pairInsEnd A i cap L x vb w ho hl hv).mono ?_
    rintro e w' ⟨v', rfl, ho', hf, hb⟩
    obtain ⟨A', n', c', rfl, -⟩ := own_val ho'
    refine ⟨A', n', c', rfl, ?_, hf, fun ad ha => ?_⟩
    · rw [List.take_of_length_le (by omega), List.drop_eq_nil_of_le (by omega)]
      exact ho'
    · subst ha
      rcases hb with h | h
      · exact .inl (own_sliceB h.symm)
      · injection h with h
        exact .inr (by omega)
  · by_cases h2 : cap ≤ n
    · refine (pairInsGrow A n cap L i x vb w ho (by omega) h2 hl hv).mono ?_
      rintro e w' ⟨c', rfl, ho', hf⟩
      exact ⟨_, _, _, rfl, ho', hf.mono (by simp), fun ad ha => by injection ha with ha; subst ha; exact .inr (Nat.le_refl _)⟩
    · obtain ⟨-, h0 | ⟨g, cur, rfl, -⟩⟩ := ho.blk
      · rw [h0.2.1] at hn
        simp at hn
        omega
      · refine (pairInsShift g n cap L i x vb w ho (by omega) (by omega) hl hv (hne _ rfl)).mono ?_
        rintro e w' ⟨rfl, ho', hf⟩
        exact ⟨_, _, _, rfl, ho', by simpa [sliceB] using hf, fun ad ha => by injection ha with ha; subst ha; exact .inl (by simp [sliceB])⟩
set_option maxRecDepth 100000 in
set_option maxHeartbeats 2000000 in
/-- without: those of which a function does not hold. -/
theorem pairWithout_any (fn : Nat) (cb : Array Value) (p : PairV → Bool) (A : Option Addr) (n cap : Nat) (L : List PairV) (w : World) (hx : AtL PairV.cells 10 w A L) (hn : n = L.length) (hl : n ≤ 100000)
    (eg : ∀ args w, (callFunc fn args).run Tryz.prog w = .ok (.enter fn args) w)
    (hp : ∀ (W : World) (x : PairV), Fr [] w W → Calls Tryz.prog fn (#[PairV.val x] ++ cb) W fun e w' => e = .returned (.bool (p x)) ∧ Fr [] W w') :
    Calls Tryz.prog 151 #[.slice A n cap, .func (.func fn) #[] cb] w fun e w' => ∃ A' n' c', e = .returned (.slice A' n' c') ∧ OwnL 187 10 PairV.cells w' (.slice A' n' c') (L.filter fun x => !p x) ∧ Fr [] w w' ∧ ∀ ad, A' = some ad → w.heap.size ≤ ad.block := by
  have HC := Lib.hid (pairClone_any A n cap L w hx hn hl)
  have HP := Lib.hid hp
  have HN : Hid (L.length ≤ 100000) := Lib.hid (by omega)
  clear hp hx hn hl
  go_enter Tryz.func151, Tryz.ntmps151
  go_wp2_with (first
    | (go_at_call 177; refine HC.out.mono ?_; rintro e w1 ⟨v, rfl, ho, hf, hg⟩; obtain ⟨A1, n1, c1, hv, hn1⟩ := own_val ho; subst hv; have HO1 := Lib.hid ho; have HF1 := Lib.hid hf; have HG1 : Hid (∀ ad, A1 = some ad → w.heap.size ≤ ad.block) := Lib.hid (fun ad ha => hg _ (sliceB_own ho ha)); have HN1 : Hid (n1 ≤ 100000) := Lib.hid (by rw [hn1]; exact HN.out); clear ho hf hg hn1)
    | (go_at_call 176; refine (pairDel_any fn cb p A1 n1 c1 L w1 HO1.out HN1.out eg (fun W x hw => HP.out W x (HF1.out.trans' hw (fun i hi => by obtain ⟨ad, h1, h2⟩ := mem_sliceB.1 hi; have h3 := HG1.out ad h1; exact .inr (by omega))))).mono ?_; rintro e w2 ⟨m, rfl, ho2, hf2⟩; have HO2 := Lib.hid ho2; have HF2 := Lib.hid hf2; clear ho2 hf2))
  go_ret
  exact ⟨A1, m, c1, rfl, HO2.out, HF1.out.trans' HF2.out (fun i hi => by obtain ⟨ad, h1, h2⟩ := mem_sliceB.1 hi; have h3 := HG1.out ad h1; exact .inr (by omega)), HG1.out⟩
set_option maxRecDepth 100000 in
set_option maxHeartbeats 4000000 in
/-- inserted: ahead of the first one of which a function holds. -/
theorem pairInserted_any (fn : Nat) (cb : Array Value) (p : PairV → Bool) (A : Option Addr) (n cap : Nat) (L : List PairV) (x : PairV) (w : World) (ho : OwnL 187 10 PairV.cells w (.slice A n cap) L) (hl : n ≤ 100000)
    (eg : ∀ args w, (callFunc fn args).run Tryz.prog w = .ok (.enter fn args) w)
    (hp : ∀ (W : World) (x : PairV), Fr [] w W → Calls Tryz.prog fn (#[PairV.val x] ++ cb) W fun e w' => e = .returned (.bool (p x)) ∧ Fr [] W w') :
    Calls Tryz.prog 156 #[.slice A n cap, PairV.val x, .func (.func fn) #[] cb] w fun e w' => ∃ A' n' c', e = .returned (.slice A' n' c') ∧ OwnL 187 10 PairV.cells w' (.slice A' n' c') (Pm.ins p x L) ∧ Fr (sliceB A) w w' ∧ ∀ ad, A' = some ad → ad.block ∈ sliceB A ∨ w.heap.size ≤ ad.block := by
  have hn : n = L.length := ho.blk.1
  obtain ⟨⟨r0, r1, r2, r3, r4⟩, ⟨r5, r6, r7, r8, r9⟩⟩ := x
  have F0 := (Fr.refl [] w).alloc (.cells #[.int .i64 r0, .int .i64 r1, .int .i64 r2, .int .i64 r3, .int .i64 r4, .int .i64 r5, .int .i64 r6, .int .i64 r7, .int .i64 r8, .int .i64 r9] 187)
  have HB : Hid (Blk (w.alloc (.cells #[.int .i64 r0, .int .i64 r1, .int .i64 r2, .int .i64 r3, .int .i64 r4, .int .i64 r5, .int .i64 r6, .int .i64 r7, .int .i64 r8, .int .i64 r9] 187)) w.heap.size 187 #[.int .i64 r0, .int .i64 r1, .int .i64 r2, .int .i64 r3, .int .i64 r4, .int .i64 r5, .int .i64 r6, .int .i64 r7, .int .i64 r8, .int .i64 r9]) := Lib.hid (Blk.new _ _ _)
  have ho1 : OwnL 187 10 PairV.cells (w.alloc (.cells #[.int .i64 r0, .int .i64 r1, .int .i64 r2, .int .i64 r3, .int .i64 r4, .int .i64 r5, .int .i64 r6, .int .i64 r7, .int .i64 r8, .int .i64 r9] 187)) (.slice A n cap) L := ho.fr F0 (by simp)
  have HIX := Lib.hid (pairIdx_any fn cb p A n cap L (w.alloc (.cells #[.int .i64 r0, .int .i64 r1, .int .i64 r2, .int .i64 r3, .int .i64 r4, .int .i64 r5, .int .i64 r6, .int .i64 r7, .int .i64 r8, .int .i64 r9] 187)) (ho1.at1 PairV.cells_len).1 hn hl eg (fun W x hf => hp W x (F0.trans hf)))
  have HO1 := Lib.hid ho1
  have HF0 := Lib.hid F0
  have HNE : Hid (∀ ad, A = some ad → ad.block < w.heap.size) := Lib.hid (fun ad ha => ho.lt (sliceB_own ho ha))
  have HL := Lib.hid hl
  have HN := Lib.hid hn
  have step : ∀ (j : Nat), j ≤ n → Hid (Pm.ins p (⟨⟨r0, r1, r2, r3, r4⟩, ⟨r5, r6, r7, r8, r9⟩⟩ : PairV) L = L.take j ++ (⟨⟨r0, r1, r2, r3, r4⟩, ⟨r5, r6, r7, r8, r9⟩⟩ : PairV) :: L.drop j) → ∀ w2, Fr [] (w.alloc (.cells #[.int .i64 r0, .int .i64 r1, .int .i64 r2, .int .i64 r3, .int .i64 r4, .int .i64 r5, .int .i64 r6, .int .i64 r7, .int .i64 r8, .int .i64 r9] 187)) w2 → Calls Tryz.prog 178 #[.slice A n cap, .int .i64 j, .slice (some ⟨w2.heap.size, 0, none⟩) 1 1] (w2.alloc (.cells #[.int .i64 r0, .int .i64 r1, .int .i64 r2, .int .i64 r3, .int .i64 r4, .int .i64 r5, .int .i64 r6, .int .i64 r7, .int .i64 r8, .int .i64 r9] 187)) fun e w' => ∃ A' n' c', e = .returned (.slice A' n' c') ∧ Hid (OwnL 187 10 PairV.cells w' (.slice A' n' c') (Pm.ins p (⟨⟨r0, r1, r2, r3, r4⟩, ⟨r5, r6, r7, r8, r9⟩⟩ : PairV) L)) ∧ Hid (Fr (sliceB A) w w') ∧ Hid (∀ ad, A' = some ad → ad.block ∈ sliceB A ∨ w.heap.size ≤ ad.block) := by
    intro j hj hins w2 f2
    have f3 := f2.alloc (.cells #[.int .i64 r0, .int .i64 r1, .int .i64 r2, .int .i64 r3, .int .i64 r4, .int .i64 r5, .int .i64 r6, .int .i64 r7, .int .i64 r8, .int .i64 r9] 187)
    have h3 := HO1.out.fr f3 (by simp)
    refine (pairIns_any A n cap L j ⟨⟨r0, r1, r2, r3, r4⟩, ⟨r5, r6, r7, r8, r9⟩⟩ w2.heap.size _ h3 hj HL.out (Blk.new _ _ _) (fun ad ha e => ?_)).mono ?_
    · have h4 := HNE.out ad ha
      have h5 := f2.size
      rw [World.size_alloc] at h5
      omega
    · rintro e w' ⟨A', n', c', rfl, ho', hf, hb⟩
      have hs := (HF0.out.trans f3).size
      refine ⟨A', n', c', rfl, Lib.hid (by rw [hins.out]; exact ho'), Lib.hid (((HF0.out.trans f3).mono (by simp)).trans hf), Lib.hid (fun ad ha => ?_)⟩
      rcases hb ad ha with h | h
      · exact .inl h
      · exact .inr (by omega)
  have HSTEP := Lib.hid step
  rcases first_or p L with hall | ⟨k, hk, hbefore, hit⟩
  · have HM : Hid (idxP p L 0 = -1) := Lib.hid (idxP_miss 0 hall)
    have HI : Hid (Pm.ins p (⟨⟨r0, r1, r2, r3, r4⟩, ⟨r5, r6, r7, r8, r9⟩⟩ : PairV) L = L.take n ++ (⟨⟨r0, r1, r2, r3, r4⟩, ⟨r5, r6, r7, r8, r9⟩⟩ : PairV) :: L.drop n) := Lib.hid (by rw [Pm.ins_end hall, List.take_of_length_le (by omega), List.drop_eq_nil_of_le (by omega)])
    clear hall step ho1 F0 ho hp hn hl
    go_enter Tryz.func156, Tryz.ntmps156
    go_upto_region 4 with (go_at_call 154; refine HIX.out.mono ?_; rintro e w2 ⟨rfl, f2⟩; rw [HM.out]; have F2 := Lib.hid f2; clear f2)
    have HB2 := HB.out.fr F2.out (by simp)
    have b0 := HB2.cell 0
    have b1 := HB2.cell 1
    have b2 := HB2.cell 2
    have b3 := HB2.cell 3
    have b4 := HB2.cell 4
    have b5 := HB2.cell 5
    have b6 := HB2.cell 6
    have b7 := HB2.cell 7
    have b8 := HB2.cell 8
    have b9 := HB2.cell 9
    clear HB2
    go_wp2_with (go_at_call 178; refine (HSTEP.out n (Nat.le_refl _) HI w2 F2.out).mono ?_; rintro e w3 ⟨A', n', c', rfl, H1, H2, H3⟩)
    go_ret
    exact ⟨A', n', c', rfl, H1.out, H2.out, H3.out⟩
  · have HM : Hid (idxP p L 0 = (k : Int)) := Lib.hid (by rw [idxP_hit 0 k hk hbefore hit, Nat.zero_add])
    have HI : Hid (Pm.ins p (⟨⟨r0, r1, r2, r3, r4⟩, ⟨r5, r6, r7, r8, r9⟩⟩ : PairV) L = L.take k ++ (⟨⟨r0, r1, r2, r3, r4⟩, ⟨r5, r6, r7, r8, r9⟩⟩ : PairV) :: L.drop k) := Lib.hid (Pm.ins_at hk hbefore hit)
    have HK : Hid (k ≤ n) := Lib.hid (by omega)
    have hk0 : ¬ ((k : Int) < 0) := by omega
    clear hit hbefore step ho1 F0 ho hp hn hl hk
    go_enter Tryz.func156, Tryz.ntmps156
    go_upto_region 4 with (go_at_call 154; refine HIX.out.mono ?_; rintro e w2 ⟨rfl, f2⟩; rw [HM.out]; have F2 := Lib.hid f2; clear f2)
    have HB2 := HB.out.fr F2.out (by simp)
    have b0 := HB2.cell 0
    have b1 := HB2.cell 1
    have b2 := HB2.cell 2
    have b3 := HB2.cell 3
    have b4 := HB2.cell 4
    have b5 := HB2.cell 5
    have b6 := HB2.cell 6
    have b7 := HB2.cell 7
    have b8 := HB2.cell 8
    have b9 := HB2.cell 9
    clear HB2
    go_wp2_with (go_at_call 178; refine (HSTEP.out k HK.out HI w2 F2.out).mono ?_; rintro e w3 ⟨A', n', c', rfl, H1, H2, H3⟩)
    go_ret
    exact ⟨A', n', c', rfl, H1.out, H2.out, H3.out⟩
end Go.Proofs.YtciaallekkdnhaaGreat
namespace Go.Proofs.YtciaallekkdnhaaGreat
open Go.RowKit

set_option maxRecDepth 100000 in
set_option maxHeartbeats 4000000 in
theorem pbehind_any (q : Qry) (c : Chg) (pb : Option Addr) (u v : Int) (ga : Nat) (a : RowV) (w : World) (ha : Blk w ga 116 a.cells.toArray) :
    Calls Tryz.prog 124 #[.agg (effArr q c pb (some ⟨ga, 0, none⟩) u v)] w fun e w' => ∃ ge gv, e = .returned (.func (.func 150) #[] #[.pointer (some ⟨ge, 0, none⟩), .pointer (some ⟨gv, 0, none⟩)]) ∧ EffAt w' ge q c pb (some ⟨ga, 0, none⟩) u v ∧ Blk w' gv 3 #[.int .i64 (a.value q.column)] ∧ Fr [] w w' ∧ w.heap.size ≤ ge ∧ w.heap.size ≤ gv := by
  have F0 : Hid (Fr [] w (w.alloc (.cells (effArr q c pb (some ⟨ga, 0, none⟩) u v) 103))) := Lib.hid ((Fr.refl _ _).alloc _)
  have HB := Lib.hid (EffAt.new w q c pb (some ⟨ga, 0, none⟩) u v)
  have HA := Lib.hid (ha.alloc (.cells (effArr q c pb (some ⟨ga, 0, none⟩) u v) 103))
  have HV := Lib.hid pval5
  clear ha
  obtain ⟨m, HM⟩ : ∃ m, Hid (a.value q.column = m) := ⟨_, Lib.hid rfl⟩
  rw [HM.out]
  go_enter Tryz.func124, Tryz.ntmps124
  go_upto_region 1 with (fail)
  generalize w.alloc (.cells (effArr q c pb (some ⟨ga, 0, none⟩) u v) 103) = w1 at *
  obtain ⟨r0, r1, r2, r3, r4⟩ := a
  have HS : Hid (∀ W, Fr [] w1 W → W.cell? ⟨w.heap.size, 18, none⟩ = some (.pointer (some ⟨ga, 0, none⟩)) ∧ W.cell? ⟨w.heap.size, 2, none⟩ = some (.int .i64 q.column) ∧ W.cell? ⟨ga, 0, none⟩ = some (.int .i64 r0) ∧ W.cell? ⟨ga, 1, none⟩ = some (.int .i64 r1) ∧ W.cell? ⟨ga, 2, none⟩ = some (.int .i64 r2) ∧ W.cell? ⟨ga, 3, none⟩ = some (.int .i64 r3) ∧ W.cell? ⟨ga, 4, none⟩ = some (.int .i64 r4)) := Lib.hid (fun W hf => ⟨(HB.out.fr0 hf).c18, (HB.out.fr0 hf).c2, (HA.out.fr hf (by simp)).cell 0, (HA.out.fr hf (by simp)).cell 1, (HA.out.fr hf (by simp)).cell 2, (HA.out.fr hf (by simp)).cell 3, (HA.out.fr hf (by simp)).cell 4⟩)
  obtain ⟨e18, e2, b0, b1, b2, b3, b4⟩ := HS.out w1 (Fr.refl _ _)
  go_cut [3] (fun p wn => ∃ gv, p = .pointer (some ⟨gv, 0, none⟩) ∧ Hid (Blk wn gv 3 #[.int .i64 m]) ∧ Hid (Fr [] w1 wn) ∧ Hid (w1.heap.size ≤ gv))
  case first =>
    go_region_held3 (fun W => W.cell? ⟨w.heap.size, 18, none⟩ = some (.pointer (some ⟨ga, 0, none⟩)) ∧ W.cell? ⟨w.heap.size, 2, none⟩ = some (.int .i64 q.column) ∧ W.cell? ⟨ga, 0, none⟩ = some (.int .i64 r0) ∧ W.cell? ⟨ga, 1, none⟩ = some (.int .i64 r1) ∧ W.cell? ⟨ga, 2, none⟩ = some (.int .i64 r2) ∧ W.cell? ⟨ga, 3, none⟩ = some (.int .i64 r3) ∧ W.cell? ⟨ga, 4, none⟩ = some (.int .i64 r4))
      (first | exact ⟨e18, e2, b0, b1, b2, b3, b4⟩ | go_keep | exact HS.out _ (by repeat (first | exact Fr.refl _ _ | refine Fr.drew ?_ | refine Fr.alloc ?_ _ | refine Fr.setCell ?_ (.inr (by simp [World.size_alloc])) _)))
      ((first
        | (go_at_call 66; (with_reducible refine (HV.out _ _ _ _ _ _ _).mono ?_); rintro e w' ⟨rfl, rfl⟩; rw [HM.out])))
    all_goals
      go_wp2_with fail
      go_meet
      refine ⟨_, rfl, Lib.hid ?_, Lib.hid ?_, Lib.hid (by omega)⟩
      · repeat (first | exact Blk.newP (by simp [World.size_alloc]) | refine Blk.drew ?_ | refine Blk.alloc ?_ _)
      · repeat (first | exact Fr.refl _ _ | refine Fr.drew ?_ | refine Fr.alloc ?_ _)
  case rest =>
    obtain ⟨gv, rfl, BV, FV, GV⟩ := hcut
    have HB2 := Lib.hid (HB.out.fr0 FV.out)
    have F2 := Lib.hid (F0.out.trans FV.out)
    have G2 := Lib.hid (Nat.le_trans F0.out.size GV.out)
    go_wp2
    go_ret
    exact ⟨_, _, rfl, HB2.out, BV.out, F2.out, Nat.le_refl _, G2.out⟩
set_option maxRecDepth 100000 in
set_option maxHeartbeats 4000000 in
theorem pbehind1_any (q : Qry) (c : Chg) (pb : Option Addr) (u v : Int) (ga ge gv : Nat) (a x : RowV) (w : World) (he : EffAt w ge q c pb (some ⟨ga, 0, none⟩) u v) (hv : Blk w gv 3 #[.int .i64 (a.value q.column)]) (ha : Blk w ga 116 a.cells.toArray) :
    Calls Tryz.prog 150 #[x.val, .pointer (some ⟨ge, 0, none⟩), .pointer (some ⟨gv, 0, none⟩)] w fun e w' => e = .returned (.bool (Pm.behind q a x)) ∧ Fr [] w w' := by
  obtain ⟨r0, r1, r2, r3, r4⟩ := x
  obtain ⟨a0, a1, a2, a3, a4⟩ := a
  have F0 := (Fr.refl [] w).alloc (.cells #[.int .i64 r0, .int .i64 r1, .int .i64 r2, .int .i64 r3, .int .i64 r4] 116)
  have F1 := F0.alloc (.cells #[.int .i64 r0, .int .i64 r1, .int .i64 r2, .int .i64 r3, .int .i64 r4] 116)
  have hb := Blk.new w 116 #[.int .i64 r0, .int .i64 r1, .int .i64 r2, .int .i64 r3, .int .i64 r4]
  have hb2 := hb.alloc (.cells #[.int .i64 r0, .int .i64 r1, .int .i64 r2, .int .i64 r3, .int .i64 r4] 116)
  have HE := Lib.hid (he.fr0 F0)
  have HE2 := Lib.hid (he.fr0 F1)
  have HA2 := Lib.hid (ha.fr F1 (by simp))
  have HV := Lib.hid pval5
  have HB2 := Lib.hid hb2
  have HF := Lib.hid F1
  obtain ⟨m, HM⟩ : ∃ m, Hid (RowV.value ⟨a0, a1, a2, a3, a4⟩ q.column = m) := ⟨_, Lib.hid rfl⟩
  rw [HM.out] at hv
  obtain ⟨W, HW⟩ : ∃ m, Hid (RowV.value ⟨r0, r1, r2, r3, r4⟩ q.column = m) := ⟨_, Lib.hid rfl⟩
  obtain ⟨R, hR⟩ : ∃ R, Pm.behind q ⟨a0, a1, a2, a3, a4⟩ ⟨r0, r1, r2, r3, r4⟩ = R := ⟨_, rfl⟩
  rw [hR]
  have HP : Hid (R = (decide (m < W) || (decide (W = m) && decide (a1 < r1)))) := Lib.hid (by rw [← hR, ← HM.out, ← HW.out]; rfl)
  clear hR
  have HVV := Lib.hid (hv.fr F1 (by simp))
  clear F0 F1 hb hb2 he hv ha
  have e2 := HE.out.c2
  go_enter Tryz.func150, Tryz.ntmps150
  go_upto_region 2 with (go_at_call 66; refine (HV.out _ _ _ _ _ _ _).mono ?_; rintro e w' ⟨rfl, rfl⟩; rw [HW.out])
  clear e2
  generalize (w.alloc (.cells #[.int .i64 r0, .int .i64 r1, .int .i64 r2, .int .i64 r3, .int .i64 r4] 116)).alloc (.cells #[.int .i64 r0, .int .i64 r1, .int .i64 r2, .int .i64 r3, .int .i64 r4] 116) = w2 at *
  have v0 := HVV.out.cell 0
  have x1 : w2.cell? ⟨w.heap.size, 1, none⟩ = some (.int .i64 r1) := HB2.out.cell 1
  have a1' : w2.cell? ⟨ga, 1, none⟩ = some (.int .i64 a1) := HA2.out.cell 1
  have e18 := HE2.out.c18
  by_cases h1 : m < W
  · have E : Hid ((decide (m < W) || (decide (W = m) && decide (a1 < r1))) = true) := Lib.hid (by simp [h1])
    go_quiet (fail)
    go_wp2
    go_ret
    exact ⟨by rw [HP.out, E.out]; rfl, HF.out.drewN _⟩
  · have g1 : decide (m < W) = false := by simp [h1]
    by_cases h2 : W = m
    · have E : Hid ((decide (m < W) || (decide (W = m) && decide (a1 < r1))) = decide (a1 < r1)) := Lib.hid (by simp [h2])
      have g2 : (W == m) = true := by simp [h2]
      have HH1 := Lib.hid h1
      have HH2 := Lib.hid h2
      clear h1 h2
      go_quiet (fail)
      go_wp2
      go_ret
      exact ⟨by rw [HP.out, E.out]; rfl, HF.out.drewN _⟩
    · have E : Hid ((decide (m < W) || (decide (W = m) && decide (a1 < r1))) = false) := Lib.hid (by simp [h1, h2])
      have g2 : (W == m) = false := by simp [h2]
      have HH1 := Lib.hid h1
      have HH2 := Lib.hid h2
      clear h1 h2
      go_quiet (fail)
      go_wp2
      go_ret
      exact ⟨by rw [HP.out, E.out]; rfl, HF.out.drewN _⟩
end Go.Proofs.YtciaallekkdnhaaGreat
namespace Go.Proofs.YtciaallekkdnhaaGreat
open Go.RowKit

set_option maxRecDepth 100000 in
set_option maxHeartbeats 4000000 in
/-- The rows of the change itself. -/
theorem prows1_any (q : Qry) (c : Chg) (pb pa : Option Addr) (u v : Int) (ge : Nat) (x : RowV) (w : World) (he : EffAt w ge q c pb pa u v) :
    Calls Tryz.prog 122 #[x.val, .pointer (some ⟨ge, 0, none⟩)] w fun e w' => e = .returned (.bool (Pm.own c x)) ∧ Fr [] w w' := by
  obtain ⟨r0, r1, r2, r3, r4⟩ := x
  have F0 := (Fr.refl [] w).alloc (.cells #[.int .i64 r0, .int .i64 r1, .int .i64 r2, .int .i64 r3, .int .i64 r4] 116)
  have hb := Blk.new w 116 #[.int .i64 r0, .int .i64 r1, .int .i64 r2, .int .i64 r3, .int .i64 r4]
  have HE := Lib.hid (he.fr0 F0)
  have HF := Lib.hid F0
  have HB := Lib.hid hb
  clear he F0 hb
  obtain ⟨R, hR⟩ : ∃ R, Pm.own c ⟨r0, r1, r2, r3, r4⟩ = R := ⟨_, rfl⟩
  rw [hR]
  have HP : Hid (R = (decide (r0 = c.t) && decide (r1 = c.k))) := Lib.hid hR.symm
  clear hR
  go_enter Tryz.func122, Tryz.ntmps122
  go_upto_region 1 with (fail)
  generalize w.alloc (.cells #[.int .i64 r0, .int .i64 r1, .int .i64 r2, .int .i64 r3, .int .i64 r4] 116) = w1 at *
  have b0 := HB.out.cell 0
  have b1 : w1.cell? ⟨w.heap.size, 1, none⟩ = some (.int .i64 r1) := HB.out.cell 1
  have e7 := HE.out.c7
  have e8 := HE.out.c8
  by_cases h1 : r0 = c.t
  · have E : Hid ((decide (r0 = c.t) && decide (r1 = c.k)) = (r1 == c.k)) := Lib.hid (by simp [h1]; rfl)
    have g1 : (r0 == c.t) = true := by simp [h1]
    have HH := Lib.hid h1
    clear h1
    go_wp2
    go_ret
    exact ⟨by rw [HP.out, E.out]; rfl, HF.out⟩
  · have E : Hid ((decide (r0 = c.t) && decide (r1 = c.k)) = false) := Lib.hid (by simp [h1])
    have g1 : (r0 == c.t) = false := by simp [h1]
    have HH := Lib.hid h1
    clear h1
    go_wp2
    go_ret
    exact ⟨by rw [HP.out, E.out]; rfl, HF.out⟩
set_option maxRecDepth 100000 in
set_option maxHeartbeats 8000000 in
theorem prows_any (q : Qry) (c : Chg) (pb pa : Option Addr) (u v : Int) (X : Option Addr) (n cap : Nat) (m : Int) (f : Bool) (L : List RowV) (w : World) (hx : AtL RowV.cells 5 w X L) (hn : n = L.length) (hl : n ≤ 100000) (hpa : PtrR w pa (Pm.A q c)) :
    Calls Tryz.prog 76 #[.agg (effArr q c pb pa u v), .agg #[.slice X n cap, .int .i64 m, .bool f]] w fun e w' => ∃ A' n' c', e = .returned (.tuple #[.agg #[.slice A' n' c', .int .i64 m, .bool f], .bool true]) ∧ OwnL 116 5 RowV.cells w' (.slice A' n' c') (Pm.rows q L c) ∧ Fr [] w w' := by
  have F0 : Hid (Fr [] w (((w.alloc (.cells (effArr q c pb pa u v) 103)).alloc (.cells #[.slice X n cap, .int .i64 m, .bool f] 71)).alloc (.cells #[.slice none 0 0, .int .i64 0, .bool false] 71))) := Lib.hid ((((Fr.refl _ _).alloc _).alloc _).alloc _)
  have HB : Hid (EffAt (((w.alloc (.cells (effArr q c pb pa u v) 103)).alloc (.cells #[.slice X n cap, .int .i64 m, .bool f] 71)).alloc (.cells #[.slice none 0 0, .int .i64 0, .bool false] 71)) w.heap.size q c pb pa u v) := Lib.hid (Blk.alloc (Blk.alloc (EffAt.new w q c pb pa u v) _) _)
  have hr := Blk.new (w.alloc (.cells (effArr q c pb pa u v) 103)) 71 #[.slice X n cap, .int .i64 m, .bool f]
  rw [World.size_alloc] at hr
  have HR : Hid (Blk (((w.alloc (.cells (effArr q c pb pa u v) 103)).alloc (.cells #[.slice X n cap, .int .i64 m, .bool f] 71)).alloc (.cells #[.slice none 0 0, .int .i64 0, .bool false] 71)) (w.heap.size + 1) 71 #[.slice X n cap, .int .i64 m, .bool f]) := Lib.hid (hr.alloc _)
  have hz := Blk.new ((w.alloc (.cells (effArr q c pb pa u v) 103)).alloc (.cells #[.slice X n cap, .int .i64 m, .bool f] 71)) 71 #[.slice none 0 0, .int .i64 0, .bool false]
  rw [World.size_alloc, World.size_alloc] at hz
  have HZ := Lib.hid hz
  have HS3 : Hid ((((w.alloc (.cells (effArr q c pb pa u v) 103)).alloc (.cells #[.slice X n cap, .int .i64 m, .bool f] 71)).alloc (.cells #[.slice none 0 0, .int .i64 0, .bool false] 71)).heap.size = w.heap.size + 3) := Lib.hid (by simp [World.size_alloc])
  clear hr hz
  have HX := Lib.hid (hx.fr0 F0.out)
  have HPA := Lib.hid (hpa.fr0 F0.out)
  have HN := Lib.hid hn
  have HGA : Hid (∀ r, Pm.A q c = some r → ∀ ga, pa = some ⟨ga, 0, none⟩ → ga < w.heap.size) := Lib.hid (fun r hr ga hga => by
    rw [hr] at hpa
    obtain ⟨g, h1, h2⟩ := hpa
    rw [hga] at h1
    injection h1 with h1
    injection h1 with h1
    subst h1
    exact h2.lt)
  clear hx hpa hn
  go_enter Tryz.func76, Tryz.ntmps76
  go_upto_region 1 with (fail)
  generalize (((w.alloc (.cells (effArr q c pb pa u v) 103)).alloc (.cells #[.slice X n cap, .int .i64 m, .bool f] 71)).alloc (.cells #[.slice none 0 0, .int .i64 0, .bool false] 71)) = w1 at *
  have c0 := HR.out.cell 0
  have HWO := Lib.hid (rowWithout_any 122 #[.pointer (some ⟨w.heap.size, 0, none⟩)] (Pm.own c) X n cap L w1 HX.out HN.out hl (enters_of Tryz.func122 (by kernel_rfl) rfl) (fun W x hf => prows1_any q c pb pa u v w.heap.size x W (HB.out.fr0 hf)))
  have HL2 : Hid ((L.filter fun x => !Pm.own c x).length ≤ 100000) := Lib.hid (Nat.le_trans (List.length_filter_le _ _) (by rw [← HN.out]; exact hl))
  go_upto_region 2 with (go_at_call 121; refine HWO.out.mono ?_; rintro e w2 ⟨A2, n2, c2, rfl, ho2, f2, hg2⟩; have HO2 := Lib.hid ho2; have F2 := Lib.hid f2; have HG2 : Hid (∀ ad, A2 = some ad → w.heap.size + 3 ≤ ad.block) := Lib.hid (fun ad ha => by have := hg2 ad ha; have := HS3.out; omega); have z0 := (HR.out.fr f2 (by simp)).frozen 0; have d0 := (HR.out.fr f2 (by simp)).cell 0; clear ho2 f2 hg2)
  clear z0 d0 c0 HWO
  have hfs : Fr [w.heap.size + 1] w2 (w2.setCell ⟨w.heap.size + 1, 0, none⟩ (.slice A2 n2 c2)) := (Fr.refl _ _).setCell (.inl (by simp)) _
  have HR2 : Hid (Blk (w2.setCell ⟨w.heap.size + 1, 0, none⟩ (.slice A2 n2 c2)) (w.heap.size + 1) 71 #[.slice A2 n2 c2, .int .i64 m, .bool f]) := Lib.hid ((HR.out.fr F2.out (by simp)).set_ 0 _)
  have HZ2 := Lib.hid ((HZ.out.fr F2.out (by simp)).fr hfs (by simp))
  have HB2 := Lib.hid ((HB.out.fr0 F2.out).fr hfs (by simp))
  have HO3 := Lib.hid (HO2.out.fr hfs (fun g hg => by obtain ⟨ad, h1, h2⟩ := mem_sliceB.1 (own_sliceB hg); have := HG2.out ad h1; simp; omega))
  have FA := Lib.hid ((F0.out.trans F2.out).trans' hfs (by simp))
  have HPA2 : Hid (PtrR (w2.setCell ⟨w.heap.size + 1, 0, none⟩ (.slice A2 n2 c2)) pa (Pm.A q c)) := Lib.hid ((HPA.out.fr0 F2.out).frE hfs (fun g' cs hb e => by
    subst e
    have h9 : Blk _ _ _ _ := HR.out.fr F2.out (by simp)
    unfold Blk at h9 hb
    rw [h9] at hb
    injection hb with hb
    injection hb with _ ht
    exact absurd ht (by decide)))
  have HS4 : Hid (w.heap.size + 3 ≤ (w2.setCell ⟨w.heap.size + 1, 0, none⟩ (.slice A2 n2 c2)).heap.size) := Lib.hid (by have h1 := F2.out.size; have h2 := hfs.size; have := HS3.out; omega)
  clear hfs HR HZ HB HO2 HPA HX F0 F2
  generalize w2.setCell ⟨w.heap.size + 1, 0, none⟩ (.slice A2 n2 c2) = w4 at *
  obtain ⟨T, HT⟩ : ∃ T, Hid (Pm.rows q L c = T) := ⟨_, Lib.hid rfl⟩
  cases hA : Pm.A q c with
  | none =>
    have hpn : pa = none := by have h := HPA2.out; rw [hA] at h; exact h
    subst hpn
    have HOR : Hid (OwnL 116 5 RowV.cells w4 (.slice A2 n2 c2) (Pm.rows q L c)) := Lib.hid (by
      unfold Pm.rows
      rw [hA]
      exact HO3.out)
    have e18 := HB2.out.c18
    have HR3 := HR2.out
    have HZ3 := HZ2.out
    clear hA HT HGA
    go_wp2_with (first
      | (refine wpList_load_row rfl _ _ rfl (w.heap.size + 1) rfl 71 _ (0, 0) _ HR3 Tryz.underlying71 rfl (by kernel_rfl) ?_)
      | (refine wpList_store_blk rfl _ _ _ rfl (w.heap.size + 1 + 1) #[.slice A2 n2 c2, .int .i64 m, .bool f] rfl rfl 71 _ HZ3 (by kernel_rfl) rfl rfl ?_; intro w9 hb9 hf9; have HB9 := Lib.hid hb9; have HF9 := Lib.hid hf9; clear hb9 hf9))
    have q0 := HB9.out.cell 0
    have q1 := HB9.out.cell 1
    have q2 := HB9.out.cell 2
    refine bodyPost_ret (v := .tuple #[.agg #[.slice A2 n2 c2, .int .i64 m, .bool f], .bool true]) (by simp [results, Tryz.results76, go_sem, q0, q1, q2]) rfl ⟨_, _, _, rfl, HOR.out.fr HF9.out (fun g hg => by obtain ⟨ad, h1, h2⟩ := mem_sliceB.1 (own_sliceB hg); have := HG2.out ad h1; simp; omega), FA.out.trans' HF9.out (fun i hi => .inr (by rw [List.mem_singleton] at hi; omega))⟩
  | some a =>
    have hpa : ∃ ga, pa = some ⟨ga, 0, none⟩ ∧ Blk w4 ga 116 a.cells.toArray := by have h := HPA2.out; rw [hA] at h; exact h
    obtain ⟨ga, rfl, hga⟩ := hpa
    have HA2 := Lib.hid hga
    have HGA2 : Hid (ga < w.heap.size) := Lib.hid (HGA.out _ hA ga rfl)
    clear HGA
    have HRO : Hid (Pm.rows q L c = Pm.ins (Pm.behind q a) a (L.filter fun x => !Pm.own c x)) := Lib.hid (by
      unfold Pm.rows
      rw [hA])
    clear hA hga HT
    obtain ⟨r0, r1, r2, r3, r4⟩ := a
    have e18 := HB2.out.c18
    go_upto_region 3 with (fail)
    clear e18
    have HS : Hid (∀ W, Fr [] w4 W → W.cell? ⟨w.heap.size + 1, 0, none⟩ = some (.slice A2 n2 c2) ∧ W.cell? ⟨w.heap.size, 18, none⟩ = some (.pointer (some ⟨ga, 0, none⟩)) ∧ Blk W w.heap.size 103 (effArr q c pb (some ⟨ga, 0, none⟩) u v) ∧ Blk W ga 116 #[.int .i64 r0, .int .i64 r1, .int .i64 r2, .int .i64 r3, .int .i64 r4]) := Lib.hid (fun W hf => ⟨(HR2.out.fr hf (by simp)).cell 0, (HB2.out.fr0 hf).c18, HB2.out.fr0 hf, HA2.out.fr hf (by simp)⟩)
    have HAF : Hid (∀ W, Fr [] w4 W → Blk W ga 116 (RowV.cells ⟨r0, r1, r2, r3, r4⟩).toArray) := Lib.hid (fun W hf => HA2.out.fr hf (by simp))
    have HNR : Hid (w.heap.size + 1 ∉ sliceB A2) := Lib.hid (fun hm => by obtain ⟨ad, h1, h2⟩ := mem_sliceB.1 hm; have := HG2.out ad h1; omega)
    have HNZ : Hid (w.heap.size + 1 + 1 ∉ sliceB A2) := Lib.hid (fun hm => by obtain ⟨ad, h1, h2⟩ := mem_sliceB.1 hm; have := HG2.out ad h1; omega)
    have HIN : Hid (∀ W ge gv, Fr [] w4 W → EffAt W ge q c pb (some ⟨ga, 0, none⟩) u v → Blk W gv 3 #[.int .i64 (RowV.value ⟨r0, r1, r2, r3, r4⟩ q.column)] → Calls Tryz.prog 123 #[.slice A2 n2 c2, .agg #[.int .i64 r0, .int .i64 r1, .int .i64 r2, .int .i64 r3, .int .i64 r4], .func (.func 150) #[] #[.pointer (some ⟨ge, 0, none⟩), .pointer (some ⟨gv, 0, none⟩)]] W fun e w' => ∃ A' n' c', e = .returned (.slice A' n' c') ∧ Hid (OwnL 116 5 RowV.cells w' (.slice A' n' c') (Pm.rows q L c)) ∧ Hid (Fr (sliceB A2) W w') ∧ Hid (∀ ad, A' = some ad → ad.block ∈ sliceB A2 ∨ W.heap.size ≤ ad.block)) := Lib.hid (fun W ge gv hf he hv => by
      have ho := HO3.out.fr hf (by simp)
      refine (rowInserted_any 150 #[.pointer (some ⟨ge, 0, none⟩), .pointer (some ⟨gv, 0, none⟩)] (Pm.behind q ⟨r0, r1, r2, r3, r4⟩) A2 n2 c2 _ ⟨r0, r1, r2, r3, r4⟩ W ho (by rw [ho.blk.1]; exact HL2.out) (enters_of Tryz.func150 (by kernel_rfl) rfl) (fun W' x hf' => pbehind1_any q c pb u v ga ge gv ⟨r0, r1, r2, r3, r4⟩ x W' (he.fr0 hf') (hv.fr hf' (by simp)) (HA2.out.fr (hf.trans hf') (by simp)))).mono ?_
      rintro e w' ⟨A', n', c', rfl, h1, h2, h3⟩
      exact ⟨A', n', c', rfl, Lib.hid (by rw [HRO.out]; exact h1), Lib.hid h2, Lib.hid h3⟩)
    have HSX : Hid (∀ W1 W, Fr [] w4 W1 → Fr (sliceB A2) W1 W → W.cell? ⟨w.heap.size + 1, 0, none⟩ = some (.slice A2 n2 c2) ∧ W.cell? ⟨w.heap.size, 18, none⟩ = some (.pointer (some ⟨ga, 0, none⟩)) ∧ Blk W w.heap.size 103 (effArr q c pb (some ⟨ga, 0, none⟩) u v) ∧ Blk W ga 116 #[.int .i64 r0, .int .i64 r1, .int .i64 r2, .int .i64 r3, .int .i64 r4]) := Lib.hid (fun W1 W h1 h2 => by
      have k : ∀ g, g < w.heap.size + 3 → g ∉ sliceB A2 := fun g hg hm => by obtain ⟨ad, e1, e2⟩ := mem_sliceB.1 hm; have := HG2.out ad e1; omega
      have b := (HB2.out.fr0 h1).fr h2 (k _ (by omega))
      have r := (HR2.out.fr h1 (by simp)).fr h2 (k _ (by omega))
      have a := (HA2.out.fr h1 (by simp)).fr h2 (k _ (by have := HGA2.out; omega))
      exact ⟨r.cell 0, b.c18, b, a⟩)
    refine wp_region_head (fun W => W.cell? ⟨w.heap.size + 1, 0, none⟩ = some (.slice A2 n2 c2) ∧ W.cell? ⟨w.heap.size, 18, none⟩ = some (.pointer (some ⟨ga, 0, none⟩)) ∧ Blk W w.heap.size 103 (effArr q c pb (some ⟨ga, 0, none⟩) u v) ∧ Blk W ga 116 #[.int .i64 r0, .int .i64 r1, .int .i64 r2, .int .i64 r3, .int .i64 r4]) 10 (by kernel_rfl) (by kernel_rfl) (HS.out _ (Fr.refl [] w4).drew) (fun hHeld => ?_)
    refine wpHead_take (i := 0) (oi := ⟨some 14, _, _, _, _, _⟩) (v := ?_) rfl (by kernel_rfl) (fun _ _ _ h => h) (Or.inl ⟨by rfl, ?_⟩) hHeld ?_
    rotate_left
    · (intro w hSw; (try dsimp only at hSw); go_simp; try with_reducible rfl)
    try simp only [Act.put, List.setIfInBounds_toArray, List.set_cons_zero, List.set_cons_succ]
    refine wpHead_take (i := 1) (oi := ⟨some 15, _, _, _, _, _⟩) (v := ?_) rfl (by kernel_rfl) (fun _ _ _ h => h) (Or.inl ⟨by rfl, ?_⟩) hHeld ?_
    rotate_left
    · (intro w hSw; (try dsimp only at hSw); go_simp; try with_reducible rfl)
    try simp only [Act.put, List.setIfInBounds_toArray, List.set_cons_zero, List.set_cons_succ]
    refine wpHead_take (i := 2) (oi := ⟨some 16, _, _, _, _, _⟩) (v := ?_) rfl (by kernel_rfl) (fun _ _ _ h => h) (Or.inl ⟨by rfl, ?_⟩) hHeld ?_
    rotate_left
    · (intro w hSw; (try dsimp only at hSw); go_simp; try with_reducible rfl)
    try simp only [Act.put, List.setIfInBounds_toArray, List.set_cons_zero, List.set_cons_succ]
    refine wpHead_take (i := 3) (oi := ⟨some 17, _, _, _, _, _⟩) (v := ?_) rfl (by kernel_rfl) (fun _ _ _ h => h) (Or.inl ⟨by rfl, ?_⟩) hHeld ?_
    rotate_left
    · (intro w hSw; (try dsimp only at hSw); go_simp; try with_reducible rfl)
    try simp only [Act.put, List.setIfInBounds_toArray, List.set_cons_zero, List.set_cons_succ]
    refine wpHead_take (i := 4) (oi := ⟨some 18, _, _, _, _, _⟩) (v := ?_) rfl (by kernel_rfl) (fun _ _ _ h => h) (Or.inl ⟨by rfl, ?_⟩) hHeld ?_
    rotate_left
    · (intro w hSw; (try dsimp only at hSw); go_simp; try with_reducible rfl)
    try simp only [Act.put, List.setIfInBounds_toArray, List.set_cons_zero, List.set_cons_succ]
    refine wpHead_take (i := 5) (oi := ⟨some 19, _, _, _, _, _⟩) (v := .agg (#[.int .i64 r0, .int .i64 r1, .int .i64 r2, .int .i64 r3, .int .i64 r4])) rfl (by kernel_rfl) (fun _ _ _ h => h) (yieldsIf_load_blk (by rfl) _ _ rfl ga rfl 116 (#[.int .i64 r0, .int .i64 r1, .int .i64 r2, .int .i64 r3, .int .i64 r4]) _ (fun _ h => h.2.2.2) Tryz.underlying116 rfl (by kernel_rfl)) hHeld ?_
    try simp only [Act.put, List.setIfInBounds_toArray, List.set_cons_zero, List.set_cons_succ]
    refine wpHead_take (i := 6) (oi := ⟨some 20, _, _, _, _, _⟩) (v := .agg (effArr q c pb (some ⟨ga, 0, none⟩) u v)) rfl (by kernel_rfl) (fun _ _ _ h => h) (yieldsIf_load_blk (by rfl) _ _ rfl w.heap.size rfl 103 (effArr q c pb (some ⟨ga, 0, none⟩) u v) _ (fun _ h => h.2.2.1) Tryz.underlying103 rfl (by kernel_rfl)) hHeld ?_
    try simp only [Act.put, List.setIfInBounds_toArray, List.set_cons_zero, List.set_cons_succ]
    refine wpHead_one (i := 7) (o := ⟨some 21, _, _, _, _, _⟩) rfl (by kernel_rfl) (by decide) (fun K hK => ?_)
    go_simp
    (with_reducible refine (pbehind_any q c pb u v ga ⟨r0, r1, r2, r3, r4⟩ _ (HAF.out _ (Fr.refl [] w4).drew)).mono ?_)
    rintro e wb ⟨ge, gv, rfl, he5, hv5, f5, -, -⟩
    have HE5 := Lib.hid he5
    have HV5 := Lib.hid hv5
    have FB : Hid (Fr [] w4 wb) := Lib.hid ((Fr.refl [] w4).drew.trans f5)
    clear he5 hv5 f5
    refine hK.out _ _ ?_ (fun hHeld => ?_)
    · exact HS.out _ FB.out
    clear hK K
    try simp only [Act.put, List.setIfInBounds_toArray, List.set_cons_zero, List.set_cons_succ]
    refine wpHead_one (i := 8) (o := ⟨some 22, _, _, _, _, _⟩) rfl (by kernel_rfl) (by decide) (fun K hK => ?_)
    go_simp
    (with_reducible refine (HIN.out _ _ _ FB.out HE5.out HV5.out).mono ?_)
    rintro e wi ⟨A3, n3, c3, rfl, HOi, HFi, HGi⟩
    refine hK.out _ _ ?_ (fun hHeld => ?_)
    · exact HSX.out _ _ FB.out HFi.out
    clear hK K
    try simp only [Act.put, List.setIfInBounds_toArray, List.set_cons_zero, List.set_cons_succ]
    refine wpHead_take (i := 9) (oi := ⟨some 23, _, _, _, _, _⟩) (v := ?_) rfl (by kernel_rfl) (fun _ _ _ h => h) (Or.inl ⟨by rfl, ?_⟩) hHeld ?_
    rotate_left
    · (intro w hSw; (try dsimp only at hSw); go_simp; try with_reducible rfl)
    try simp only [Act.put, List.setIfInBounds_toArray, List.set_cons_zero, List.set_cons_succ]
    refine wpHead_done (by kernel_rfl) ?_
    simp only [List.drop_succ_cons, List.drop_zero]
    
    have hr := (HR2.out.fr FB.out (by simp)).fr HFi.out HNR.out
    have z0 := hr.frozen 0
    have d0 := hr.cell 0
    have hfs : Fr [w.heap.size + 1] wi (wi.setCell ⟨w.heap.size + 1, 0, none⟩ (.slice A3 n3 c3)) := (Fr.refl _ _).setCell (.inl (by simp)) _
    have HR4 : Hid (Blk (wi.setCell ⟨w.heap.size + 1, 0, none⟩ (.slice A3 n3 c3)) (w.heap.size + 1) 71 #[.slice A3 n3 c3, .int .i64 m, .bool f]) := Lib.hid (hr.set_ 0 _)
    have HZ4 := Lib.hid (((HZ2.out.fr FB.out (by simp)).fr HFi.out HNZ.out).fr hfs (by simp))
    have hbig : ∀ ad, A3 = some ad → w.heap.size + 3 ≤ ad.block := fun ad ha => by
      rcases HGi.out ad ha with h | h
      · obtain ⟨ad2, e1, e2⟩ := mem_sliceB.1 h
        have := HG2.out ad2 e1
        omega
      · have h1 := FB.out.size
        have h2 := HS4.out
        omega
    have HO4 := Lib.hid (HOi.out.fr hfs (fun g hg => by obtain ⟨ad, h1, h2⟩ := mem_sliceB.1 (own_sliceB hg); have := hbig ad h1; simp; omega))
    have HBG := Lib.hid hbig
    have FA4 : Hid (Fr [] w (wi.setCell ⟨w.heap.size + 1, 0, none⟩ (.slice A3 n3 c3))) := Lib.hid (((FA.out.trans FB.out).trans' HFi.out (fun i hi => by obtain ⟨ad, h1, h2⟩ := mem_sliceB.1 hi; have := HG2.out ad h1; exact .inr (by omega))).trans' hfs (by simp))
    clear hr hbig
    go_upto_region 4 with (fail)
    clear z0 d0 hfs
    generalize wi.setCell ⟨w.heap.size + 1, 0, none⟩ (.slice A3 n3 c3) = w8 at *
    have HR5 := HR4.out
    have HZ5 := HZ4.out
    go_wp2_with (first
      | (refine wpList_load_row rfl _ _ rfl (w.heap.size + 1) rfl 71 _ (0, 0) _ HR5 Tryz.underlying71 rfl (by kernel_rfl) ?_)
      | (refine wpList_store_blk rfl _ _ _ rfl (w.heap.size + 1 + 1) #[.slice A3 n3 c3, .int .i64 m, .bool f] rfl rfl 71 _ HZ5 (by kernel_rfl) rfl rfl ?_; intro w9 hb9 hf9; have HB9 := Lib.hid hb9; have HF9 := Lib.hid hf9; clear hb9 hf9))
    have q0 := HB9.out.cell 0
    have q1 := HB9.out.cell 1
    have q2 := HB9.out.cell 2
    refine bodyPost_ret (v := .tuple #[.agg #[.slice A3 n3 c3, .int .i64 m, .bool f], .bool true]) (by simp [results, Tryz.results76, go_sem, q0, q1, q2]) rfl ⟨_, _, _, rfl, HO4.out.fr HF9.out (fun g hg => by obtain ⟨ad, h1, h2⟩ := mem_sliceB.1 (own_sliceB hg); have := HBG.out ad h1; simp; omega), FA4.out.trans' HF9.out (fun i hi => .inr (by rw [List.mem_singleton] at hi; omega))⟩
end Go.Proofs.YtciaallekkdnhaaGreat
