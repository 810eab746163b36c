/-
  behind: the function that says whether a row comes behind the row after a change; patchRows.
-/
import Derived.Test.YthiaaminkfkjpaaGreatGax
import Derived.Deep.RegionHeld3
import Derived.Deep.QuietTactic
namespace Go.Proofs.YthiaaminkfkjpaaGreat
open Go.RowKit

/-- Insert, wherever. -/
theorem pairIns_any (A : Option Addr) (n cap : Nat) (L : List PairV) (i : Nat) (x : PairV) (vb : Nat) (w : World) (ho : OwnL 142 10 PairV.cells w (.slice A n cap) L) (hi : i ≤ n) (hl : n ≤ 100000) (hv : Blk w vb 142 (PairV.cells x).toArray) (hne : ∀ ad, A = some ad → vb ≠ ad.block) :
    Calls Tryz.prog 133 #[.slice A n cap, .int .i64 i, .slice (some ⟨vb, 0, none⟩) 1 1] w fun e w' => ∃ A' n' c', e = .returned (.slice A' n' c') ∧ OwnL 142 10 PairV.cells w' (.slice A' n' c') (L.take i ++ x :: L.drop i) ∧ Fr (sliceB A) w w' ∧ ∀ ad, A' = some ad → ad.block ∈ sliceB A ∨ w.heap.size ≤ ad.block := by
  have hn : n = L.length := ho.blk.1
  by_cases h1 : i = n
  · subst h1
    refine (pairInsEnd A i cap L x vb w ho hl hv).mono ?_
    rintro e w' ⟨v', rfl, ho', hf, hb⟩
    obtain ⟨A', n', c', rfl, -⟩ := own_val ho'
    refine ⟨A', n', c', rfl, ?_, hf, fun ad ha => ?_⟩
    · rw [List.take_of_length_le (by omega), List.drop_eq_nil_of_le (by omega)]
      exact ho'
    · subst ha
      rcases hb with h | h
      · exact .inl (own_sliceB h.symm)
      · injection h with h
        exact .inr (by omega)
  · by_cases h2 : cap ≤ n
    · refine (pairInsGrow A n cap L i x vb w ho (by omega) h2 hl hv).mono ?_
      rintro e w' ⟨c', rfl, ho', hf⟩
      exact ⟨_, _, _, rfl, ho', hf.mono (by simp), fun ad ha => by injection ha with ha; subst ha; exact .inr (Nat.le_refl _)⟩
    · obtain ⟨-, h0 | ⟨g, cur, rfl, -⟩⟩ := ho.blk
      · rw [h0.2.1] at hn
        simp at hn
        omega
      · refine (pairInsShift g n cap L i x vb w ho (by omega) (by omega) hl hv (hne _ rfl)).mono ?_
        rintro e w' ⟨rfl, ho', hf⟩
        exact ⟨_, _, _, rfl, ho', by simpa [sliceB] using hf, fun ad ha => by injection ha with ha; subst ha; exact .inl (by simp [sliceB])⟩
set_option maxRecDepth 100000 in
set_option maxHeartbeats 2000000 in
/-- without: those of which a function does not hold. -/
theorem pairWithout_any (fn : Nat) (cb : Array Value) (p : PairV → Bool) (A : Option Addr) (n cap : Nat) (L : List PairV) (w : World) (hx : AtL PairV.cells 10 w A L) (hn : n = L.length) (hl : n ≤ 100000)
    (eg : ∀ args w, (callFunc fn args).run Tryz.prog w = .ok (.enter fn args) w)
    (hp : ∀ (W : World) (x : PairV), Fr [] w W → Calls Tryz.prog fn (#[PairV.val x] ++ cb) W fun e w' => e = .returned (.bool (p x)) ∧ Fr [] W w') :
    Calls Tryz.prog 117 #[.slice A n cap, .func (.func fn) #[] cb] w fun e w' => ∃ A' n' c', e = .returned (.slice A' n' c') ∧ OwnL 142 10 PairV.cells w' (.slice A' n' c') (L.filter fun x => !p x) ∧ Fr [] w w' ∧ ∀ ad, A' = some ad → w.heap.size ≤ ad.block := by
  have HC := Lib.hid (pairClone_any A n cap L w hx hn hl)
  have HP := Lib.hid hp
  have HN : Hid (L.length ≤ 100000) := Lib.hid (by omega)
  clear hp hx hn hl
  go_enter Tryz.func117, Tryz.ntmps117
  go_wp2_with (first
    | (go_at_call 132; refine HC.out.mono ?_; rintro e w1 ⟨v, rfl, ho, hf, hg⟩; obtain ⟨A1, n1, c1, hv, hn1⟩ := own_val ho; subst hv; have HO1 := Lib.hid ho; have HF1 := Lib.hid hf; have HG1 : Hid (∀ ad, A1 = some ad → w.heap.size ≤ ad.block) := Lib.hid (fun ad ha => hg _ (sliceB_own ho ha)); have HN1 : Hid (n1 ≤ 100000) := Lib.hid (by rw [hn1]; exact HN.out); clear ho hf hg hn1)
    | (go_at_call 131; refine (pairDel_any fn cb p A1 n1 c1 L w1 HO1.out HN1.out eg (fun W x hw => HP.out W x (HF1.out.trans' hw (fun i hi => by obtain ⟨ad, h1, h2⟩ := mem_sliceB.1 hi; have h3 := HG1.out ad h1; exact .inr (by omega))))).mono ?_; rintro e w2 ⟨m, rfl, ho2, hf2⟩; have HO2 := Lib.hid ho2; have HF2 := Lib.hid hf2; clear ho2 hf2))
  go_ret
  exact ⟨A1, m, c1, rfl, HO2.out, HF1.out.trans' HF2.out (fun i hi => by obtain ⟨ad, h1, h2⟩ := mem_sliceB.1 hi; have h3 := HG1.out ad h1; exact .inr (by omega)), HG1.out⟩
set_option maxRecDepth 100000 in
set_option maxHeartbeats 4000000 in
/-- inserted: ahead of the first one of which a function holds. -/
theorem pairInserted_any (fn : Nat) (cb : Array Value) (p : PairV → Bool) (A : Option Addr) (n cap : Nat) (L : List PairV) (x : PairV) (w : World) (ho : OwnL 142 10 PairV.cells w (.slice A n cap) L) (hl : n ≤ 100000)
    (eg : ∀ args w, (callFunc fn args).run Tryz.prog w = .ok (.enter fn args) w)
    (hp : ∀ (W : World) (x : PairV), Fr [] w W → Calls Tryz.prog fn (#[PairV.val x] ++ cb) W fun e w' => e = .returned (.bool (p x)) ∧ Fr [] W w') :
    Calls Tryz.prog 122 #[.slice A n cap, PairV.val x, .func (.func fn) #[] cb] w fun e w' => ∃ A' n' c', e = .returned (.slice A' n' c') ∧ OwnL 142 10 PairV.cells w' (.slice A' n' c') (Pm.ins p x L) ∧ Fr (sliceB A) w w' ∧ ∀ ad, A' = some ad → ad.block ∈ sliceB A ∨ w.heap.size ≤ ad.block := by
  have hn : n = L.length := ho.blk.1
  obtain ⟨⟨r0, r1, r2, r3, r4⟩, ⟨r5, r6, r7, r8, r9⟩⟩ := x
  have F0 := (Fr.refl [] w).alloc (.cells #[.int .i64 r0, .int .i64 r1, .int .i64 r2, .int .i64 r3, .int .i64 r4, .int .i64 r5, .int .i64 r6, .int .i64 r7, .int .i64 r8, .int .i64 r9] 142)
  have HB : Hid (Blk (w.alloc (.cells #[.int .i64 r0, .int .i64 r1, .int .i64 r2, .int .i64 r3, .int .i64 r4, .int .i64 r5, .int .i64 r6, .int .i64 r7, .int .i64 r8, .int .i64 r9] 142)) w.heap.size 142 #[.int .i64 r0, .int .i64 r1, .int .i64 r2, .int .i64 r3, .int .i64 r4, .int .i64 r5, .int .i64 r6, .int .i64 r7, .int .i64 r8, .int .i64 r9]) := Lib.hid (Blk.new _ _ _)
  have ho1 : OwnL 142 10 PairV.cells (w.alloc (.cells #[.int .i64 r0, .int .i64 r1, .int .i64 r2, .int .i64 r3, .int .i64 r4, .int .i64 r5, .int .i64 r6, .int .i64 r7, .int .i64 r8, .int .i64 r9] 142)) (.slice A n cap) L := ho.fr F0 (by simp)
  have HIX := Lib.hid (pairIdx_any fn cb p A n cap L (w.alloc (.cells #[.int .i64 r0, .int .i64 r1, .int .i64 r2, .int .i64 r3, .int .i64 r4, .int .i64 r5, .int .i64 r6, .int .i64 r7, .int .i64 r8, .int .i64 r9] 142)) (ho1.at1 PairV.cells_len).1 hn hl eg (fun W x hf => hp W x (F0.trans hf)))
  have HO1 := Lib.hid ho1
  have HF0 := Lib.hid F0
  have HNE : Hid (∀ ad, A = some ad → ad.block < w.heap.size) := Lib.hid (fun ad ha => ho.lt (sliceB_own ho ha))
  have HL := Lib.hid hl
  have HN := Lib.hid hn
  have step : ∀ (j : Nat), j ≤ n → Hid (Pm.ins p (⟨⟨r0, r1, r2, r3, r4⟩, ⟨r5, r6, r7, r8, r9⟩⟩ : PairV) L = L.take j ++ (⟨⟨r0, r1, r2, r3, r4⟩, ⟨r5, r6, r7, r8, r9⟩⟩ : PairV) :: L.drop j) → ∀ w2, Fr [] (w.alloc (.cells #[.int .i64 r0, .int .i64 r1, .int .i64 r2, .int .i64 r3, .int .i64 r4, .int .i64 r5, .int .i64 r6, .int .i64 r7, .int .i64 r8, .int .i64 r9] 142)) w2 → Calls Tryz.prog 133 #[.slice A n cap, .int .i64 j, .slice (some ⟨w2.heap.size, 0, none⟩) 1 1] (w2.alloc (.cells #[.int .i64 r0, .int .i64 r1, .int .i64 r2, .int .i64 r3, .int .i64 r4, .int .i64 r5, .int .i64 r6, .int .i64 r7, .int .i64 r8, .int .i64 r9] 142)) fun e w' => ∃ A' n' c', e = .returned (.slice A' n' c') ∧ Hid (OwnL 142 10 PairV.cells w' (.slice A' n' c') (Pm.ins p (⟨⟨r0, r1, r2, r3, r4⟩, ⟨r5, r6, r7, r8, r9⟩⟩ : PairV) L)) ∧ Hid (Fr (sliceB A) w w') ∧ Hid (∀ ad, A' = some ad → ad.block ∈ sliceB A ∨ w.heap.size ≤ ad.block) := by
    intro j hj hins w2 f2
    have f3 := f2.alloc (.cells #[.int .i64 r0, .int .i64 r1, .int .i64 r2, .int .i64 r3, .int .i64 r4, .int .i64 r5, .int .i64 r6, .int .i64 r7, .int .i64 r8, .int .i64 r9] 142)
    have h3 := HO1.out.fr f3 (by simp)
    refine (pairIns_any A n cap L j ⟨⟨r0, r1, r2, r3, r4⟩, ⟨r5, r6, r7, r8, r9⟩⟩ w2.heap.size _ h3 hj HL.out (Blk.new _ _ _) (fun ad ha e => ?_)).mono ?_
    · have h4 := HNE.out ad ha
      have h5 := f2.size
      rw [World.size_alloc] at h5
      omega
    · rintro e w' ⟨A', n', c', rfl, ho', hf, hb⟩
      have hs := (HF0.out.trans f3).size
      refine ⟨A', n', c', rfl, Lib.hid (by rw [hins.out]; exact ho'), Lib.hid (((HF0.out.trans f3).mono (by simp)).trans hf), Lib.hid (fun ad ha => ?_)⟩
      rcases hb ad ha with h | h
      · exact .inl h
      · exact .inr (by omega)
  have HSTEP := Lib.hid step
  rcases first_or p L with hall | ⟨k, hk, hbefore, hit⟩
  · have HM : Hid (idxP p L 0 = -1) := Lib.hid (idxP_miss 0 hall)
    have HI : Hid (Pm.ins p (⟨⟨r0, r1, r2, r3, r4⟩, ⟨r5, r6, r7, r8, r9⟩⟩ : PairV) L = L.take n ++ (⟨⟨r0, r1, r2, r3, r4⟩, ⟨r5, r6, r7, r8, r9⟩⟩ : PairV) :: L.drop n) := Lib.hid (by rw [Pm.ins_end hall, List.take_of_length_le (by omega), List.drop_eq_nil_of_le (by omega)])
    clear hall step ho1 F0 ho hp hn hl
    go_enter Tryz.func122, Tryz.ntmps122
    go_upto_region 4 with (go_at_call 120; refine HIX.out.mono ?_; rintro e w2 ⟨rfl, f2⟩; rw [HM.out]; have F2 := Lib.hid f2; clear f2)
    have HB2 := HB.out.fr F2.out (by simp)
    have b0 := HB2.cell 0
    have b1 := HB2.cell 1
    have b2 := HB2.cell 2
    have b3 := HB2.cell 3
    have b4 := HB2.cell 4
    have b5 := HB2.cell 5
    have b6 := HB2.cell 6
    have b7 := HB2.cell 7
    have b8 := HB2.cell 8
    have b9 := HB2.cell 9
    clear HB2
    go_wp2_with (go_at_call 133; refine (HSTEP.out n (Nat.le_refl _) HI w2 F2.out).mono ?_; rintro e w3 ⟨A', n', c', rfl, H1, H2, H3⟩)
    go_ret
    exact ⟨A', n', c', rfl, H1.out, H2.out, H3.out⟩
  · have HM : Hid (idxP p L 0 = (k : Int)) := Lib.hid (by rw [idxP_hit 0 k hk hbefore hit, Nat.zero_add])
    have HI : Hid (Pm.ins p (⟨⟨r0, r1, r2, r3, r4⟩, ⟨r5, r6, r7, r8, r9⟩⟩ : PairV) L = L.take k ++ (⟨⟨r0, r1, r2, r3, r4⟩, ⟨r5, r6, r7, r8, r9⟩⟩ : PairV) :: L.drop k) := Lib.hid (Pm.ins_at hk hbefore hit)
    have HK : Hid (k ≤ n) := Lib.hid (by omega)
    have hk0 : ¬ ((k : Int) < 0) := by omega
    clear hit hbefore step ho1 F0 ho hp hn hl hk
    go_enter Tryz.func122, Tryz.ntmps122
    go_upto_region 4 with (go_at_call 120; refine HIX.out.mono ?_; rintro e w2 ⟨rfl, f2⟩; rw [HM.out]; have F2 := Lib.hid f2; clear f2)
    have HB2 := HB.out.fr F2.out (by simp)
    have b0 := HB2.cell 0
    have b1 := HB2.cell 1
    have b2 := HB2.cell 2
    have b3 := HB2.cell 3
    have b4 := HB2.cell 4
    have b5 := HB2.cell 5
    have b6 := HB2.cell 6
    have b7 := HB2.cell 7
    have b8 := HB2.cell 8
    have b9 := HB2.cell 9
    clear HB2
    go_wp2_with (go_at_call 133; refine (HSTEP.out k HK.out HI w2 F2.out).mono ?_; rintro e w3 ⟨A', n', c', rfl, H1, H2, H3⟩)
    go_ret
    exact ⟨A', n', c', rfl, H1.out, H2.out, H3.out⟩
end Go.Proofs.YthiaaminkfkjpaaGreat
namespace Go.Proofs.YthiaaminkfkjpaaGreat
open Go.RowKit

set_option maxRecDepth 100000 in
set_option maxHeartbeats 4000000 in
theorem pbehind_any (q : Qry) (c : Chg) (pb : Option Addr) (u v : Int) (ga : Nat) (a : RowV) (w : World) (ha : Blk w ga 67 a.cells.toArray) :
    Calls Tryz.prog 100 #[.agg (effArr q c pb (some ⟨ga, 0, none⟩) u v)] w fun e w' => ∃ ge gv, e = .returned (.func (.func 116) #[] #[.pointer (some ⟨ge, 0, none⟩), .pointer (some ⟨gv, 0, none⟩)]) ∧ EffAt w' ge q c pb (some ⟨ga, 0, none⟩) u v ∧ Blk w' gv 3 #[.int .i64 (a.value q.column)] ∧ Fr [] w w' ∧ w.heap.size ≤ ge ∧ w.heap.size ≤ gv := by
  have F0 : Hid (Fr [] w (w.alloc (.cells (effArr q c pb (some ⟨ga, 0, none⟩) u v) 120))) := Lib.hid ((Fr.refl _ _).alloc _)
  have HB := Lib.hid (EffAt.new w q c pb (some ⟨ga, 0, none⟩) u v)
  have HA := Lib.hid (ha.alloc (.cells (effArr q c pb (some ⟨ga, 0, none⟩) u v) 120))
  have HV := Lib.hid pval5
  clear ha
  obtain ⟨m, HM⟩ : ∃ m, Hid (a.value q.column = m) := ⟨_, Lib.hid rfl⟩
  rw [HM.out]
  go_enter Tryz.func100, Tryz.ntmps100
  go_upto_region 1 with (fail)
  generalize w.alloc (.cells (effArr q c pb (some ⟨ga, 0, none⟩) u v) 120) = w1 at *
  obtain ⟨r0, r1, r2, r3, r4⟩ := a
  have HS : Hid (∀ W, Fr [] w1 W → W.cell? ⟨w.heap.size, 18, none⟩ = some (.pointer (some ⟨ga, 0, none⟩)) ∧ W.cell? ⟨w.heap.size, 2, none⟩ = some (.int .i64 q.column) ∧ W.cell? ⟨ga, 0, none⟩ = some (.int .i64 r0) ∧ W.cell? ⟨ga, 1, none⟩ = some (.int .i64 r1) ∧ W.cell? ⟨ga, 2, none⟩ = some (.int .i64 r2) ∧ W.cell? ⟨ga, 3, none⟩ = some (.int .i64 r3) ∧ W.cell? ⟨ga, 4, none⟩ = some (.int .i64 r4)) := Lib.hid (fun W hf => ⟨(HB.out.fr0 hf).c18, (HB.out.fr0 hf).c2, (HA.out.fr hf (by simp)).cell 0, (HA.out.fr hf (by simp)).cell 1, (HA.out.fr hf (by simp)).cell 2, (HA.out.fr hf (by simp)).cell 3, (HA.out.fr hf (by simp)).cell 4⟩)
  obtain ⟨e18, e2, b0, b1, b2, b3, b4⟩ := HS.out w1 (Fr.refl _ _)
  go_cut [3] (fun p wn => ∃ gv, p = .pointer (some ⟨gv, 0, none⟩) ∧ Hid (Blk wn gv 3 #[.int .i64 m]) ∧ Hid (Fr [] w1 wn) ∧ Hid (w1.heap.size ≤ gv))
  case first =>
    go_region_held3 (fun W => W.cell? ⟨w.heap.size, 18, none⟩ = some (.pointer (some ⟨ga, 0, none⟩)) ∧ W.cell? ⟨w.heap.size, 2, none⟩ = some (.int .i64 q.column) ∧ W.cell? ⟨ga, 0, none⟩ = some (.int .i64 r0) ∧ W.cell? ⟨ga, 1, none⟩ = some (.int .i64 r1) ∧ W.cell? ⟨ga, 2, none⟩ = some (.int .i64 r2) ∧ W.cell? ⟨ga, 3, none⟩ = some (.int .i64 r3) ∧ W.cell? ⟨ga, 4, none⟩ = some (.int .i64 r4))
      (first | exact ⟨e18, e2, b0, b1, b2, b3, b4⟩ | go_keep | exact HS.out _ (by repeat (first | exact Fr.refl _ _ | refine Fr.drew ?_ | refine Fr.alloc ?_ _ | refine Fr.setCell ?_ (.inr (by simp [World.size_alloc])) _)))
      ((first
        | (go_at_call 57; (with_reducible refine (HV.out _ _ _ _ _ _ _).mono ?_); rintro e w' ⟨rfl, rfl⟩; rw [HM.out])))
    all_goals
      go_wp2_with fail
      go_meet
      refine ⟨_, rfl, Lib.hid ?_, Lib.hid ?_, Lib.hid (by omega)⟩
      · repeat (first | exact Blk.newP (by simp [World.size_alloc]) | refine Blk.drew ?_ | refine Blk.alloc ?_ _)
      · repeat (first | exact Fr.refl _ _ | refine Fr.drew ?_ | refine Fr.alloc ?_ _)
  case rest =>
    obtain ⟨gv, rfl, BV, FV, GV⟩ := hcut
    have HB2 := Lib.hid (HB.out.fr0 FV.out)
    have F2 := Lib.hid (F0.out.trans FV.out)
    have G2 := Lib.hid (Nat.le_trans F0.out.size GV.out)
    go_wp2
    go_ret
    exact ⟨_, _, rfl, HB2.out, BV.out, F2.out, Nat.le_refl _, G2.out⟩
set_option maxRecDepth 100000 in
set_option maxHeartbeats 4000000 in
theorem pbehind1_any (q : Qry) (c : Chg) (pb : Option Addr) (u v : Int) (ga ge gv : Nat) (a x : RowV) (w : World) (he : EffAt w ge q c pb (some ⟨ga, 0, none⟩) u v) (hv : Blk w gv 3 #[.int .i64 (a.value q.column)]) (ha : Blk w ga 67 a.cells.toArray) :
    Calls Tryz.prog 116 #[x.val, .pointer (some ⟨ge, 0, none⟩), .pointer (some ⟨gv, 0, none⟩)] w fun e w' => e = .returned (.bool (Pm.behind q a x)) ∧ Fr [] w w' := by
  obtain ⟨r0, r1, r2, r3, r4⟩ := x
  obtain ⟨a0, a1, a2, a3, a4⟩ := a
  have F0 := (Fr.refl [] w).alloc (.cells #[.int .i64 r0, .int .i64 r1, .int .i64 r2, .int .i64 r3, .int .i64 r4] 67)
  have F1 := F0.alloc (.cells #[.int .i64 r0, .int .i64 r1, .int .i64 r2, .int .i64 r3, .int .i64 r4] 67)
  have hb := Blk.new w 67 #[.int .i64 r0, .int .i64 r1, .int .i64 r2, .int .i64 r3, .int .i64 r4]
  have hb2 := hb.alloc (.cells #[.int .i64 r0, .int .i64 r1, .int .i64 r2, .int .i64 r3, .int .i64 r4] 67)
  have HE := Lib.hid (he.fr0 F0)
  have HE2 := Lib.hid (he.fr0 F1)
  have HA2 := Lib.hid (ha.fr F1 (by simp))
  have HV := Lib.hid pval5
  have HB2 := Lib.hid hb2
  have HF := Lib.hid F1
  obtain ⟨m, HM⟩ : ∃ m, Hid (RowV.value ⟨a0, a1, a2, a3, a4⟩ q.column = m) := ⟨_, Lib.hid rfl⟩
  rw [HM.out] at hv
  obtain ⟨W, HW⟩ : ∃ m, Hid (RowV.value ⟨r0, r1, r2, r3, r4⟩ q.column = m) := ⟨_, Lib.hid rfl⟩
  obtain ⟨R, hR⟩ : ∃ R, Pm.behind q ⟨a0, a1, a2, a3, a4⟩ ⟨r0, r1, r2, r3, r4⟩ = R := ⟨_, rfl⟩
  rw [hR]
  have HP : Hid (R = (decide (m < W) || (decide (W = m) && decide (a1 < r1)))) := Lib.hid (by rw [← hR, ← HM.out, ← HW.out]; rfl)
  clear hR
  have HVV := Lib.hid (hv.fr F1 (by simp))
  clear F0 F1 hb hb2 he hv ha
  have e2 := HE.out.c2
  go_enter Tryz.func116, Tryz.ntmps116
  go_upto_region 2 with (go_at_call 57; refine (HV.out _ _ _ _ _ _ _).mono ?_; rintro e w' ⟨rfl, rfl⟩; rw [HW.out])
  clear e2
  generalize (w.alloc (.cells #[.int .i64 r0, .int .i64 r1, .int .i64 r2, .int .i64 r3, .int .i64 r4] 67)).alloc (.cells #[.int .i64 r0, .int .i64 r1, .int .i64 r2, .int .i64 r3, .int .i64 r4] 67) = w2 at *
  have v0 := HVV.out.cell 0
  have x1 : w2.cell? ⟨w.heap.size, 1, none⟩ = some (.int .i64 r1) := HB2.out.cell 1
  have a1' : w2.cell? ⟨ga, 1, none⟩ = some (.int .i64 a1) := HA2.out.cell 1
  have e18 := HE2.out.c18
  by_cases h1 : m < W
  · have E : Hid ((decide (m < W) || (decide (W = m) && decide (a1 < r1))) = true) := Lib.hid (by simp [h1])
    go_quiet (fail)
    go_wp2
    go_ret
    exact ⟨by rw [HP.out, E.out]; rfl, HF.out.drewN _⟩
  · have g1 : decide (m < W) = false := by simp [h1]
    by_cases h2 : W = m
    · have E : Hid ((decide (m < W) || (decide (W = m) && decide (a1 < r1))) = decide (a1 < r1)) := Lib.hid (by simp [h2])
      have g2 : (W == m) = true := by simp [h2]
      have HH1 := Lib.hid h1
      have HH2 := Lib.hid h2
      clear h1 h2
      go_quiet (fail)
      go_wp2
      go_ret
      exact ⟨by rw [HP.out, E.out]; rfl, HF.out.drewN _⟩
    · have E : Hid ((decide (m < W) || (decide (W = m) && decide (a1 < r1))) = false) := Lib.hid (by simp [h1, h2])
      have g2 : (W == m) = false := by simp [h2]
      have HH1 := Lib.hid h1
      have HH2 := Lib.hid h2
      clear h1 h2
      go_quiet (fail)
      go_wp2
      go_ret
      exact ⟨by rw [HP.out, E.out]; rfl, HF.out.drewN _⟩
end Go.Proofs.YthiaaminkfkjpaaGreat
