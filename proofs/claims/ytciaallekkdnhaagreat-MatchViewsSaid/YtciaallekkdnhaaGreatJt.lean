/-
  join: the pairs after a change.
-/
import Derived.Test.YtciaallekkdnhaaGreatJr
import Derived.Laws.EntriesVeiled
namespace Go.Proofs.YtciaallekkdnhaaGreat
open Go.RowKit

theorem find_at {X : Type} {p : X → Bool} : ∀ {l : List X} {k : Nat} (hk : k < l.length), (∀ y ∈ l.take k, p y = false) → p l[k] = true → l.find? p = some l[k]
  | y :: l, 0, _, _, h => by
    rw [List.find?_cons_of_pos (by simpa using h)]
    rfl
  | y :: l, k + 1, hk, ha, h => by
    rw [List.find?_cons_of_neg (by rw [ha y (by simp)]; simp), find_at (k := k) (by simpa using hk) (fun z hz => ha z (by simp [hz])) (by simpa using h)]
    rfl
/-- The first k of M, the others of L. -/
def mix {X : Type} (L M : List X) (k : Nat) : List X := M.take k ++ L.drop k
theorem mix_zero {X : Type} {L M : List X} : mix L M 0 = L := by simp [mix]
theorem mix_all {X : Type} {L M : List X} (h : M.length = L.length) : mix L M L.length = M := by
  unfold mix
  rw [List.take_of_length_le (by omega), List.drop_eq_nil_of_le (by omega), List.append_nil]
theorem mix_len {X : Type} {L M : List X} (h : M.length = L.length) {k : Nat} (hk : k ≤ L.length) : (mix L M k).length = L.length := by
  simp [mix]
  omega
theorem mix_get {X : Type} {L M : List X} (h : M.length = L.length) {k : Nat} (hk : k < L.length) : (mix L M k)[k]'(by rw [mix_len h (by omega)]; exact hk) = L[k] := by
  have hl : (M.take k).length = k := by rw [List.length_take]; omega
  simp only [mix]
  rw [List.getElem_append_right (by omega)]
  simp [hl]
theorem mix_succ {X : Type} {L M : List X} (h : M.length = L.length) {k : Nat} (hk : k < L.length) : mix L M (k + 1) = (mix L M k).set k (M[k]'(by omega)) := by
  have hl : (M.take k).length = k := by rw [List.length_take]; omega
  simp only [mix]
  rw [List.take_succ_eq_append_getElem (by omega : k < M.length), List.append_assoc, List.set_append_right _ _ (by omega), hl, Nat.sub_self]
  congr 1
  rw [List.drop_eq_getElem_cons hk]
  rfl
theorem mix_same {X : Type} {L M : List X} (h : M.length = L.length) {k : Nat} (hk : k < L.length) (e : M[k]'(by omega) = L[k]) : mix L M (k + 1) = mix L M k := by
  rw [mix_succ h hk, e]
  conv => lhs; rw [← mix_get h hk]
  exact List.set_getElem_self _

set_option maxRecDepth 100000 in
set_option maxHeartbeats 4000000 in
/-- A row of the other table is removed. -/
theorem pjoinO_any (q : Qry) (c : Chg) (pb pa : Option Addr) (u v : Int) (Y : Option Addr) (n cap : Nat) (L : List PairV) (w : World) (ho : OwnL 187 10 PairV.cells w (.slice Y n cap) L) (hl : n ≤ 100000) (ht : c.t = q.other) (hno : c.has = false) :
    Calls Tryz.prog 126 #[.agg (effArr q c pb pa u v), .slice Y n cap] w fun e w' => ∃ A' n' c', e = .returned (.tuple #[.slice A' n' c', .bool c.had]) ∧ OwnL 187 10 PairV.cells w' (.slice A' n' c') (L.filter fun p => !decide (p.2.k = c.k)) ∧ Fr [] w w' := by
  have F0 : Hid (Fr [] w (w.alloc (.cells (effArr q c pb pa u v) 103))) := Lib.hid ((Fr.refl _ _).alloc _)
  have HB := Lib.hid (EffAt.new w q c pb pa u v)
  have HO := Lib.hid (ho.fr F0.out (by simp))
  have HN : Hid (n = L.length) := Lib.hid ho.blk.1
  have HAF := Lib.hid (pafter_any c)
  clear ho
  have ht' : (c.t == q.other) = true := by simp [ht]
  have HT := Lib.hid ht
  have HNO := Lib.hid hno
  clear ht hno
  go_enter Tryz.func126, Tryz.ntmps126
  go_upto_region 1 with (fail)
  generalize w.alloc (.cells (effArr q c pb pa u v) 103) = w1 at *
  have e6 := HB.out.c6
  have e7 := HB.out.c7
  have e8 := HB.out.c8
  have e9 := HB.out.c9
  have e10 := HB.out.c10
  have e11 := HB.out.c11
  have e12 := HB.out.c12
  have e13 := HB.out.c13
  have e14 := HB.out.c14
  have e15 := HB.out.c15
  have e16 := HB.out.c16
  have HWO : Hid (∀ W, Fr [] w1 W → Calls Tryz.prog 151 #[.slice Y n cap, .func (.func 152) #[] #[.pointer (some ⟨w.heap.size, 0, none⟩)]] W fun e w' => ∃ A' n' c', e = .returned (.slice A' n' c') ∧ Hid (OwnL 187 10 PairV.cells w' (.slice A' n' c') (L.filter fun p => !decide (p.2.k = c.k))) ∧ Hid (Fr [] W w') ∧ Hid (∀ ad, A' = some ad → W.heap.size ≤ ad.block)) := Lib.hid (fun W hf =>
    (pairWithout_any 152 #[.pointer (some ⟨w.heap.size, 0, none⟩)] (fun p => decide (p.2.k = c.k)) Y n cap L W ((HO.out.fr hf (by simp)).at1 PairV.cells_len).1 HN.out hl (enters_of Tryz.func152 (by kernel_rfl) rfl) (fun W' x hf' => pj1_any q c pb pa u v w.heap.size x W' (HB.out.fr0 (hf.trans hf')))).mono (by
      rintro e w' ⟨A', n', c', rfl, h1, h2, h3⟩
      exact ⟨A', n', c', rfl, Lib.hid h1, Lib.hid h2, Lib.hid h3⟩))
  go_upto_region 3 with (go_at_call 50; refine (HAF.out _).mono ?_; rintro e w2 ⟨⟨r0, r1, r2, r3, r4⟩, rfl, -, f2⟩; rw [HNO.out]; have F2 := Lib.hid f2; clear f2)
  have F3 : Hid (Fr [] w1 (w2.alloc (.cells #[.int .i64 r0, .int .i64 r1, .int .i64 r2, .int .i64 r3, .int .i64 r4] 116))) := Lib.hid (F2.out.alloc _)
  clear e6 e7 e8 e9 e10 e11 e12 e13 e14 e15 e16
  generalize w2.alloc (.cells #[.int .i64 r0, .int .i64 r1, .int .i64 r2, .int .i64 r3, .int .i64 r4] 116) = w3 at *
  have e9 := (HB.out.fr0 F3.out).c9
  go_upto_region 4 with (fail)
  go_region_held3 (fun W => W.cell? ⟨w.heap.size, 9, none⟩ = some (.bool c.had)) (first | exact e9 | exact HH9.out | go_keep)
    ((first
      | (go_at_call 151; (with_reducible refine (HWO.out _ F3.out.drew).mono ?_); rintro e w5 ⟨A5, n5, c5, rfl, HO5, HF5, -⟩; have HH9 := Lib.hid ((HB.out.fr0 F3.out.drew).fr0 HF5.out).c9)))
  all_goals
    go_wp2
    go_ret2
    exact ⟨_, _, _, rfl, HO5.out, (F0.out.trans F3.out.drew).trans HF5.out⟩
set_option maxRecDepth 100000 in
set_option maxHeartbeats 8000000 in
/-- A row of the other table is written. -/
theorem pjoinS_any (q : Qry) (c : Chg) (pb pa : Option Addr) (u v : Int) (Y : Option Addr) (n cap : Nat) (L : List PairV) (w : World) (ho : OwnL 187 10 PairV.cells w (.slice Y n cap) L) (hl : n ≤ 100000) (ht : c.t = q.other) (hyes : c.has = true) :
    Calls Tryz.prog 126 #[.agg (effArr q c pb pa u v), .slice Y n cap] w fun e w' => e = .returned (.tuple #[.slice Y n cap, .bool c.had]) ∧ OwnL 187 10 PairV.cells w' (.slice Y n cap) (Pm.other L c) ∧ Fr (sliceB Y) w w' := by
  have F0 : Hid (Fr [] w (w.alloc (.cells (effArr q c pb pa u v) 103))) := Lib.hid ((Fr.refl _ _).alloc _)
  have HB := Lib.hid (EffAt.new w q c pb pa u v)
  have HO := Lib.hid (ho.fr F0.out (by simp))
  have HN : Hid (n = L.length) := Lib.hid ho.blk.1
  have HAF := Lib.hid (pafter_any c)
  have HYB : Hid (∀ ad, Y = some ad → ad.block < w.heap.size) := Lib.hid (fun ad ha => ho.lt (sliceB_own ho ha))
  clear ho
  obtain ⟨M, HM⟩ : ∃ M, Hid (Pm.other L c = M) := ⟨_, Lib.hid rfl⟩
  rw [HM.out]
  have ht' : (c.t == q.other) = true := by simp [ht]
  have HT := Lib.hid ht
  have HYES := Lib.hid hyes
  clear ht hyes
  go_enter Tryz.func126, Tryz.ntmps126
  go_upto_region 1 with (fail)
  generalize w.alloc (.cells (effArr q c pb pa u v) 103) = w1 at *
  have e6 := HB.out.c6
  have e7 := HB.out.c7
  have e8 := HB.out.c8
  have e9 := HB.out.c9
  have e10 := HB.out.c10
  have e11 := HB.out.c11
  have e12 := HB.out.c12
  have e13 := HB.out.c13
  have e14 := HB.out.c14
  have e15 := HB.out.c15
  have e16 := HB.out.c16

  go_upto_region 3 with (go_at_call 50; refine (HAF.out _).mono ?_; rintro e w2 ⟨⟨r0, r1, r2, r3, r4⟩, rfl, haft, f2⟩; rw [HYES.out]; rw [HYES.out] at haft; have F2 := Lib.hid f2; have HA : Hid (Pm.aft c = some ⟨r0, r1, r2, r3, r4⟩) := Lib.hid (haft.trans (if_pos rfl)); clear f2 haft)
  have F3 : Hid (Fr [] w1 (w2.alloc (.cells #[.int .i64 r0, .int .i64 r1, .int .i64 r2, .int .i64 r3, .int .i64 r4] 116))) := Lib.hid (F2.out.alloc _)
  have HYR : Hid (Blk (w2.alloc (.cells #[.int .i64 r0, .int .i64 r1, .int .i64 r2, .int .i64 r3, .int .i64 r4] 116)) w2.heap.size 116 #[.int .i64 r0, .int .i64 r1, .int .i64 r2, .int .i64 r3, .int .i64 r4]) := Lib.hid (Blk.new _ _ _)
  have HS1 : Hid (w.heap.size < w1.heap.size ∧ w1.heap.size ≤ w2.heap.size) := Lib.hid ⟨HB.out.lt, F2.out.size⟩
  clear e6 e7 e8 e9 e10 e11 e12 e13 e14 e15 e16
  generalize w2.alloc (.cells #[.int .i64 r0, .int .i64 r1, .int .i64 r2, .int .i64 r3, .int .i64 r4] 116) = w3 at *
  obtain ⟨gy, hgy⟩ : ∃ g, w2.heap.size = g := ⟨_, rfl⟩
  rw [hgy] at HYR HS1 ⊢
  clear hgy
  have HO3 := Lib.hid (HO.out.fr F3.out (by simp))
  have HB3 := Lib.hid (HB.out.fr0 F3.out)
  have HY0 : Hid (w.heap.size ∉ sliceB Y ∧ gy ∉ sliceB Y) := Lib.hid ⟨fun hm => by obtain ⟨ad, h1, h2⟩ := mem_sliceB.1 hm; have := HYB.out ad h1; omega, fun hm => by obtain ⟨ad, h1, h2⟩ := mem_sliceB.1 hm; have := HYB.out ad h1; have := HS1.out; omega⟩
  have HMD : Hid (M = L.map fun p => if p.2.k = c.k then (p.1, ⟨r0, r1, r2, r3, r4⟩) else p) := Lib.hid (by
    rw [← HM.out]
    unfold Pm.other
    rw [HA.out])
  have HML : Hid (M.length = L.length) := Lib.hid (by rw [HMD.out, List.length_map])
  go_wp2_with fail
  go_loopw [8, 35] (fun i8 i35 wr => ∃ k : Nat, k ≤ n ∧ i35 = .int .i64 k ∧ Hid (OwnL 187 10 PairV.cells wr (.slice Y n cap) (mix L M k)) ∧ Hid (Fr (sliceB Y) w3 wr)) (fun i8 i35 _ => n - (intOf i35).toNat)
  case atStart => exact ⟨0, Nat.zero_le _, rfl, Lib.hid (by rw [mix_zero]; exact HO3.out), Lib.hid (Fr.refl _ _)⟩
  case round =>
    obtain ⟨k, hk, rfl, HOR, HFR⟩ := hrel
    have HB4 := Lib.hid (HB3.out.fr HFR.out HY0.out.1)
    by_cases hlt : k < n
    · have hkL : k < L.length := by rw [← HN.out]; exact hlt
      have hkX : k < (mix L M k).length := by rw [mix_len HML.out (by omega)]; exact hkL
      obtain ⟨-, h0 | ⟨g, cur, rfl, -⟩⟩ := HOR.out.blk
      · rw [h0.2.1] at hkX
        simp at hkX
      obtain ⟨g', cap', hv', -, -, hg', hcell, -⟩ := HOR.out.form PairV.cells_len (by omega)
      injection hv' with e1 e2 e3
      injection e1 with e1
      injection e1 with e1
      subst e1
      have hcc := hcell k hkX 6 (by decide)
      rw [mix_get HML.out hkL] at hcc
      obtain ⟨x, hxe⟩ : ∃ x, L[k].2.k = x := ⟨_, rfl⟩
      have d6 : wr.cell? ⟨g, k * 10 + 5 + 1, none⟩ = some (.int .i64 x) := hcc.trans (by rw [← hxe]; rfl)
      have HXE := Lib.hid hxe
      have e8 := HB4.out.c8
      have HKL := Lib.hid hkL
      have HKX := Lib.hid hkX
      clear hcc hcell hg' e2 e3 hkX hxe
      by_cases hx : x = c.k
      · have g8 : (x == c.k) = true := by simp [hx]
        have HMX : Hid (mix L M (k + 1) = (mix L M k).set k ((mix L M k)[k]'HKX.out |>.1, ⟨r0, r1, r2, r3, r4⟩)) := Lib.hid (by
          rw [mix_succ HML.out HKL.out, mix_get HML.out HKL.out]
          congr 1
          have e : M[k]'(by rw [HML.out]; exact HKL.out) = (L.map fun p => if p.2.k = c.k then (p.1, ⟨r0, r1, r2, r3, r4⟩) else p)[k]'(by rw [List.length_map]; exact HKL.out) := by simp only [HMD.out]
          rw [e, List.getElem_map]
          exact if_pos (HXE.out.trans hx))
        have HYR2 := Lib.hid (HYR.out.fr HFR.out HY0.out.2)
        have b0 : wr.cell? ⟨gy, 0, none⟩ = some (.int .i64 r0) := HYR2.out.cell 0
        have b1 : wr.cell? ⟨gy, 1, none⟩ = some (.int .i64 r1) := HYR2.out.cell 1
        have b2 : wr.cell? ⟨gy, 2, none⟩ = some (.int .i64 r2) := HYR2.out.cell 2
        have b3 : wr.cell? ⟨gy, 3, none⟩ = some (.int .i64 r3) := HYR2.out.cell 3
        have b4 : wr.cell? ⟨gy, 4, none⟩ = some (.int .i64 r4) := HYR2.out.cell 4
        have HHX := Lib.hid hx
        clear hx
        clear b0 b1 b2 b3 b4
        go_upto_region 8 with (fail)
        go_quiet (fail)
        have HD : Hid (Fr [] wr (wr.drewN nq)) := Lib.hid ((Fr.refl [] wr).drewN _)
        generalize wr.drewN nq = wd at *
        have HYR3 := Lib.hid (HYR2.out.fr HD.out (by simp))
        have b0 : wd.cell? ⟨gy, 0, none⟩ = some (.int .i64 r0) := HYR3.out.cell 0
        have b1 : wd.cell? ⟨gy, 1, none⟩ = some (.int .i64 r1) := HYR3.out.cell 1
        have b2 : wd.cell? ⟨gy, 2, none⟩ = some (.int .i64 r2) := HYR3.out.cell 2
        have b3 : wd.cell? ⟨gy, 3, none⟩ = some (.int .i64 r3) := HYR3.out.cell 3
        have b4 : wd.cell? ⟨gy, 4, none⟩ = some (.int .i64 r4) := HYR3.out.cell 4
        have HOD := Lib.hid (HOR.out.fr HD.out (by simp))
        go_wp2_with (refine wpList_store_right rfl _ _ _ rfl g _ ⟨r0, r1, r2, r3, r4⟩ rfl rfl k n cap HOD.out HKX.out rfl (by kernel_rfl) ?_; intro w9 ho9 hf9; have HO9 := Lib.hid ho9; have HF9 := Lib.hid hf9; clear ho9 hf9)
        go_roundw
        case rel => exact ⟨k + 1, by omega, by go_num, Lib.hid (by rw [HMX.out]; exact HO9.out), Lib.hid ((HFR.out.trans (HD.out.mono (by simp))).trans HF9.out)⟩
        case measure => simp [intOf]; omega
      · have g8 : (x == c.k) = false := by simp [hx]
        have HMX : Hid (mix L M (k + 1) = mix L M k) := Lib.hid (by
          refine mix_same HML.out HKL.out ?_
          have e : M[k]'(by rw [HML.out]; exact HKL.out) = (L.map fun p => if p.2.k = c.k then (p.1, ⟨r0, r1, r2, r3, r4⟩) else p)[k]'(by rw [List.length_map]; exact HKL.out) := by simp only [HMD.out]
          rw [e, List.getElem_map]
          exact if_neg (fun h => hx (HXE.out.symm.trans h)))
        have HHX := Lib.hid hx
        clear hx
        go_upto_region 8 with (fail)
        go_quiet (fail)
        go_wp2
        go_roundw
        case rel => exact ⟨k + 1, by omega, by go_num, Lib.hid (by rw [HMX.out]; exact HOR.out.fr ((Fr.refl [] wr).drewN _) (by simp)), Lib.hid (HFR.out.drewN _)⟩
        case measure => simp [intOf]; omega
    · obtain rfl : k = n := by omega
      have HOE : Hid (OwnL 187 10 PairV.cells wr (.slice Y k cap) M) := Lib.hid (by have h := HOR.out; rw [HN.out, mix_all HML.out] at h; rw [HN.out]; exact h)
      have e9 := HB4.out.c9
      clear hlt
      go_wp2_with fail
      go_quiet (fail)
      go_wp2
      go_ret2
      exact ⟨rfl, HOE.out.fr ((Fr.refl [] wr).drewN _) (by simp), (((F0.out.trans F3.out).mono (by simp)).trans HFR.out).drewN _⟩

set_option maxRecDepth 100000 in
set_option maxHeartbeats 8000000 in
/-- A row of the scanned table changes. -/
theorem pjoinL_any (q : Qry) (c : Chg) (pb pa : Option Addr) (u v : Int) (hu : u = Pm.old q c) (hv : v = Pm.now q c) (Y : Option Addr) (n cap : Nat) (L : List PairV) (w : World) (ho : OwnL 187 10 PairV.cells w (.slice Y n cap) L) (hl : n ≤ 100000) (ht : ¬ c.t = q.other) (hpb : PtrR w pb (Pm.B q c)) (hpa : PtrR w pa (Pm.A q c)) :
    Calls Tryz.prog 126 #[.agg (effArr q c pb pa u v), .slice Y n cap] w fun e w' => ∃ A' n' c' L' k, e = .returned (.tuple #[.slice A' n' c', .bool k]) ∧ OwnL 187 10 PairV.cells w' (.slice A' n' c') L' ∧ Pm.left q L c = (if k = true then some L' else none) ∧ L'.length ≤ L.length + 1 ∧ Fr [] w w' := by
  have F0 : Hid (Fr [] w (w.alloc (.cells (effArr q c pb pa u v) 103))) := Lib.hid ((Fr.refl _ _).alloc _)
  have HB := Lib.hid (EffAt.new w q c pb pa u v)
  have HO := Lib.hid (ho.fr F0.out (by simp))
  have HN : Hid (n = L.length) := Lib.hid ho.blk.1
  have HPA := Lib.hid (hpa.fr0 F0.out)
  have IB := Lib.hid hpb.isSome
  have HU := Lib.hid hu
  have HV := Lib.hid hv
  have HX0 := Lib.hid hl
  clear ho hpa hpb hu hv
  have ht' : (c.t == q.other) = false := by simp [ht]
  have HT := Lib.hid ht
  clear ht
  obtain ⟨LF, HLF⟩ : ∃ l, Hid (Pm.left q L c = l) := ⟨_, Lib.hid rfl⟩
  rw [HLF.out]
  go_enter Tryz.func126, Tryz.ntmps126
  go_upto_region 1 with (fail)
  generalize w.alloc (.cells (effArr q c pb pa u v) 103) = w1 at *
  have HWO : Hid (∀ W, Fr [] w1 W → Calls Tryz.prog 151 #[.slice Y n cap, .func (.func 153) #[] #[.pointer (some ⟨w.heap.size, 0, none⟩)]] W fun e w' => ∃ A' n' c', e = .returned (.slice A' n' c') ∧ Hid (OwnL 187 10 PairV.cells w' (.slice A' n' c') (L.filter fun p => !decide (p.1.k = c.k))) ∧ Hid (Fr [] W w') ∧ Hid (∀ ad, A' = some ad → W.heap.size ≤ ad.block)) := Lib.hid (fun W hf =>
    (pairWithout_any 153 #[.pointer (some ⟨w.heap.size, 0, none⟩)] (fun p => decide (p.1.k = c.k)) Y n cap L W ((HO.out.fr hf (by simp)).at1 PairV.cells_len).1 HN.out hl (enters_of Tryz.func153 (by kernel_rfl) rfl) (fun W' x hf' => pj2_any q c pb pa u v w.heap.size x W' (HB.out.fr0 (hf.trans hf')))).mono (by
      rintro e w' ⟨A', n', c', rfl, h1, h2, h3⟩
      exact ⟨A', n', c', rfl, Lib.hid h1, Lib.hid h2, Lib.hid h3⟩))
  clear hl
  have HRL : Hid ((Pm.rest L c).length ≤ L.length) := Lib.hid (List.length_filter_le _ _)
  have e6 := HB.out.c6
  have e7 := HB.out.c7
  go_upto_region 13 with (go_at_call 151; refine (HWO.out _ (Fr.refl _ _)).mono ?_; rintro e w2 ⟨A1, n1, c1, rfl, HO1, HF1, HG1⟩)
  clear e6 e7
  have HG2 : Hid (∀ ad, A1 = some ad → w.heap.size ≤ ad.block) := Lib.hid (fun ad ha => Nat.le_trans F0.out.size (HG1.out ad ha))
  clear HG1
  have HO1' : Hid (OwnL 187 10 PairV.cells w2 (.slice A1 n1 c1) (Pm.rest L c)) := Lib.hid HO1.out
  clear HO1
  have HB2 := Lib.hid (HB.out.fr0 HF1.out)
  have HO2 := Lib.hid (HO.out.fr HF1.out (by simp))
  have FA := Lib.hid (F0.out.trans HF1.out)
  have HPA2 := Lib.hid (HPA.out.fr0 HF1.out)
  have e18 := HB2.out.c18
  clear HWO HO HB HPA HF1 F0
  cases hA : Pm.A q c with
  | none =>
    have hpn : pa = none := by have h := HPA2.out; rw [hA] at h; exact h
    subst hpn
    have HE : Hid (LF = some (Pm.rest L c)) := Lib.hid (by
      rw [← HLF.out]
      unfold Pm.left
      rw [hA])
    clear hA
    go_wp2
    go_ret2
    exact ⟨_, _, _, Pm.rest L c, true, rfl, HO1'.out, by rw [HE.out]; rfl, Nat.le_succ_of_le HRL.out, FA.out⟩
  | some a =>
    have hpn : ∃ ga, pa = some ⟨ga, 0, none⟩ ∧ Blk w2 ga 116 a.cells.toArray := by have h := HPA2.out; rw [hA] at h; exact h
    obtain ⟨ga, rfl, hga⟩ := hpn
    have HGA := Lib.hid hga
    have HAA := Lib.hid hA
    clear hga hA
    have HIX : Hid (Calls Tryz.prog 154 #[.slice Y n cap, .func (.func 155) #[] #[.pointer (some ⟨w.heap.size, 0, none⟩)]] w2 fun e w' => e = .returned (.int .i64 (idxP (fun p : PairV => decide (p.2.k = v)) L 0)) ∧ Fr [] w2 w') :=
      Lib.hid (pairIdx_any 155 #[.pointer (some ⟨w.heap.size, 0, none⟩)] (fun p => decide (p.2.k = v)) Y n cap L w2 (HO2.out.at1 PairV.cells_len).1 HN.out HX0.out (enters_of Tryz.func155 (by kernel_rfl) rfl) (fun W x hf => pj3_any q c pb (some ⟨ga, 0, none⟩) u v w.heap.size x W (HB2.out.fr0 hf)))
    rcases first_or (fun p : PairV => decide (p.2.k = v)) L with hall | ⟨k, hk, hbefore, hit⟩
    · have HM : Hid (idxP (fun p : PairV => decide (p.2.k = v)) L 0 = -1) := Lib.hid (idxP_miss 0 hall)
      have HE : Hid (LF = if (pb.isSome && decide (u = v)) = true then some (Pm.rest L c) else none) := Lib.hid (by
        rw [← HLF.out]
        unfold Pm.left
        rw [HAA.out]
        simp only
        rw [← HV.out, ← HU.out, ← IB.out, List.find?_eq_none.2 (fun p hp => by have h : decide (p.2.k = v) = false := hall p hp; rw [h]; simp)])
      clear hall
      go_upto_region 17 with (go_at_call 154; refine HIX.out.mono ?_; rintro e w3 ⟨rfl, f3⟩; rw [HM.out]; have F3 := Lib.hid f3; clear f3)
      clear e18
      have HB3 := Lib.hid (HB2.out.fr0 F3.out)
      have HO3 := Lib.hid (HO1'.out.fr F3.out (by simp))
      have e17 := HB3.out.c17
      have e19 := HB3.out.c19
      have e20 := HB3.out.c20
      cases pb with
      | none =>
        go_quiet (fail)
        go_wp2
        go_ret2
        exact ⟨_, _, _, Pm.rest L c, false, rfl, HO3.out.fr ((Fr.refl [] w3).drewN _) (by simp), by rw [HE.out]; rfl, Nat.le_succ_of_le HRL.out, (FA.out.trans F3.out).drewN _⟩
      | some ab =>
        by_cases huv : u = v
        · have g9 : (u == v) = true := by simp [huv]
          have HE2 : Hid (LF = some (Pm.rest L c)) := Lib.hid (by rw [HE.out]; simp [huv])
          have HUV := Lib.hid huv
          clear huv
          go_quiet (fail)
          go_wp2
          go_ret2
          exact ⟨_, _, _, Pm.rest L c, true, rfl, HO3.out.fr ((Fr.refl [] w3).drewN _) (by simp), by rw [HE2.out]; rfl, Nat.le_succ_of_le HRL.out, (FA.out.trans F3.out).drewN _⟩
        · have g9 : (u == v) = false := by simp [huv]
          have HE2 : Hid (LF = none) := Lib.hid (by rw [HE.out]; simp [huv])
          have HUV := Lib.hid huv
          clear huv
          go_quiet (fail)
          go_wp2
          go_ret2
          exact ⟨_, _, _, Pm.rest L c, false, rfl, HO3.out.fr ((Fr.refl [] w3).drewN _) (by simp), by rw [HE2.out]; rfl, Nat.le_succ_of_le HRL.out, (FA.out.trans F3.out).drewN _⟩
    · have HM : Hid (idxP (fun p : PairV => decide (p.2.k = v)) L 0 = (k : Int)) := Lib.hid (by rw [idxP_hit 0 k hk hbefore hit, Nat.zero_add])
      have HE : Hid (LF = some (Pm.ins (fun x : PairV => Pm.behind q a x.1) (a, L[k].2) (Pm.rest L c))) := Lib.hid (by
        rw [← HLF.out]
        unfold Pm.left
        rw [HAA.out]
        simp only
        rw [← HV.out, find_at hk hbefore hit])
      obtain ⟨-, h0 | ⟨g, cur, rfl, -⟩⟩ := HO2.out.blk
      · rw [h0.2.1] at hk
        simp at hk
      obtain ⟨y, hy⟩ : ∃ y, L[k].2 = y := ⟨_, rfl⟩
      rw [hy] at HE
      have HRC : Hid (∀ W, Fr [] w2 W → ∀ j, j < 5 → W.cell? ⟨g, k * 10 + 5 + j, none⟩ = y.cells[j]?) := Lib.hid (fun W hf j hj => by
        obtain ⟨g', cap', hv', -, -, -, hcell, -⟩ := (HO2.out.fr hf (by simp)).form PairV.cells_len (by omega)
        injection hv' with e1 e2 e3
        injection e1 with e1
        injection e1 with e1
        subst e1
        have h := hcell k hk (5 + j) (by omega)
        rw [← hy, Nat.add_assoc, h]
        have hj3 : j = 0 ∨ j = 1 ∨ j = 2 ∨ j = 3 ∨ j = 4 := by omega
        rcases hj3 with e | e | e | e | e <;> rw [e] <;> rfl)
      have hk0 : ¬ ((k : Int) < 0) := by omega
      have hkn : (k : Int) < (n : Int) := by rw [HN.out]; omega
      have HPL : Hid ((Pm.ins (fun x : PairV => Pm.behind q a x.1) (a, y) (Pm.rest L c)).length ≤ L.length + 1) := Lib.hid (by
        have h : ∀ (p : PairV → Bool) (x : PairV) (l : List PairV), (Pm.ins p x l).length = l.length + 1 := fun p x l => by
          induction l with
          | nil => rfl
          | cons z l ih =>
            rw [Pm.ins]
            split <;> simp [ih]
        rw [h]
        have := HRL.out
        omega)
      clear hbefore hit hy hk
      go_upto_region 18 with (go_at_call 154; refine HIX.out.mono ?_; rintro e w3 ⟨rfl, f3⟩; rw [HM.out]; have F3 := Lib.hid f3; clear f3)
      clear e18
      have HB3 := Lib.hid (HB2.out.fr0 F3.out)
      have HGA3 := Lib.hid (HGA.out.fr F3.out (by simp))
      have HE3 := HB3.out
      have HBH := Lib.hid (pbehind_any q c pb u v ga a)
      go_upto_region 19 with (first
        | (refine wpList_load_row rfl _ _ rfl w.heap.size rfl 103 _ (0, 0) _ HE3 Tryz.underlying103 rfl (by kernel_rfl) ?_)
        | (go_at_call 124; refine (HBH.out w3 HGA3.out).mono ?_; rintro e w4 ⟨ge, gv, rfl, he4, hv4, f4, -, -⟩; have HE4 := Lib.hid he4; have HV4 := Lib.hid hv4; have F4 := Lib.hid f4; clear he4 hv4 f4))
      have FW : Hid (Fr [] w4 (w4.alloc (.cells #[.func (.func 150) #[] #[.pointer (some ⟨ge, 0, none⟩), .pointer (some ⟨gv, 0, none⟩)]] 160))) := Lib.hid ((Fr.refl _ _).alloc _)
      have HFB : Hid (Blk (w4.alloc (.cells #[.func (.func 150) #[] #[.pointer (some ⟨ge, 0, none⟩), .pointer (some ⟨gv, 0, none⟩)]] 160)) w4.heap.size 160 #[.func (.func 150) #[] #[.pointer (some ⟨ge, 0, none⟩), .pointer (some ⟨gv, 0, none⟩)]]) := Lib.hid (Blk.new _ _ _)
      generalize w4.alloc (.cells #[.func (.func 150) #[] #[.pointer (some ⟨ge, 0, none⟩), .pointer (some ⟨gv, 0, none⟩)]] 160) = w5 at *
      obtain ⟨gf, hgf⟩ : ∃ g, w4.heap.size = g := ⟨_, rfl⟩
      rw [hgf] at HFB ⊢
      clear hgf HE3
      have F25 := Lib.hid ((F3.out.trans F4.out).trans FW.out)
      have HB5 := Lib.hid (HB2.out.fr0 F25.out)
      have HGA5 := Lib.hid (HGA.out.fr F25.out (by simp))
      have HE5 := Lib.hid (HE4.out.fr0 FW.out)
      have HV5 := Lib.hid (HV4.out.fr FW.out (by simp))
      have HR5 := Lib.hid (HO1'.out.fr F25.out (by simp))
      obtain ⟨y0, y1, y2, y3, y4⟩ := y
      have HIN : Hid (∀ W, Fr [] w5 W → Calls Tryz.prog 156 #[.slice A1 n1 c1, PairV.val (a, ⟨y0, y1, y2, y3, y4⟩), .func (.func 157) #[] #[.pointer (some ⟨gf, 0, none⟩)]] W fun e w' => ∃ A' n' c', e = .returned (.slice A' n' c') ∧ Hid (OwnL 187 10 PairV.cells w' (.slice A' n' c') (Pm.ins (fun x : PairV => Pm.behind q a x.1) (a, ⟨y0, y1, y2, y3, y4⟩) (Pm.rest L c))) ∧ Hid (Fr (sliceB A1) W w')) := Lib.hid (fun W hf => by
        have ho := HR5.out.fr hf (by simp)
        refine (pairInserted_any 157 #[.pointer (some ⟨gf, 0, none⟩)] (fun x : PairV => Pm.behind q a x.1) A1 n1 c1 _ (a, ⟨y0, y1, y2, y3, y4⟩) W ho (by rw [ho.blk.1]; exact Nat.le_trans HRL.out (by rw [← HN.out]; exact HX0.out)) (enters_of Tryz.func157 (by kernel_rfl) rfl) (fun W' x hf' => ?_)).mono ?_
        · have h2 := hf.trans hf'
          exact pj4_any q c pb u v ga ge gv gf a x W' ((HFB.out.fr h2 (by simp)).cell 0) (HFB.out.fr h2 (by simp)).lt (HE5.out.fr0 h2) (HV5.out.fr h2 (by simp)) (HGA5.out.fr h2 (by simp))
        · rintro e w' ⟨A', n', c', rfl, h1, h2, -⟩
          exact ⟨A', n', c', rfl, Lib.hid h1, Lib.hid h2⟩)
      obtain ⟨a0, a1, a2, a3, a4⟩ := a
      have e18 := HB5.out.c18
      have d0 : w5.cell? ⟨g, k * 10 + 5, none⟩ = some (.int .i64 y0) := HRC.out w5 F25.out 0 (by decide)
      have d1 : w5.cell? ⟨g, k * 10 + 5 + 1, none⟩ = some (.int .i64 y1) := HRC.out w5 F25.out 1 (by decide)
      have d2 : w5.cell? ⟨g, k * 10 + 5 + 2, none⟩ = some (.int .i64 y2) := HRC.out w5 F25.out 2 (by decide)
      have d3 : w5.cell? ⟨g, k * 10 + 5 + 3, none⟩ = some (.int .i64 y3) := HRC.out w5 F25.out 3 (by decide)
      have d4 : w5.cell? ⟨g, k * 10 + 5 + 4, none⟩ = some (.int .i64 y4) := HRC.out w5 F25.out 4 (by decide)
      have b0 : w5.cell? ⟨ga, 0, none⟩ = some (.int .i64 a0) := HGA5.out.cell 0
      have b1 : w5.cell? ⟨ga, 1, none⟩ = some (.int .i64 a1) := HGA5.out.cell 1
      have b2 : w5.cell? ⟨ga, 2, none⟩ = some (.int .i64 a2) := HGA5.out.cell 2
      have b3 : w5.cell? ⟨ga, 3, none⟩ = some (.int .i64 a3) := HGA5.out.cell 3
      have b4 : w5.cell? ⟨ga, 4, none⟩ = some (.int .i64 a4) := HGA5.out.cell 4
      go_still_tail 12, (by kernel_rfl)
      change wpList _ _ _ _ _ w5.drew
      clear e18 d0 d1 d2 d3 d4 b0 b1 b2 b3 b4
      go_wp2_with (go_at_call 156; refine (HIN.out _ (Fr.refl [] w5).drew).mono ?_; rintro e w6 ⟨A6, n6, c6, rfl, HO6, HF6⟩)
      go_ret2
      exact ⟨_, _, _, _, true, rfl, HO6.out, by rw [HE.out]; rfl, HPL.out, (FA.out.trans F25.out).drew.trans' HF6.out (fun i hi => by obtain ⟨ad, h1, h2⟩ := mem_sliceB.1 hi; have := HG2.out ad h1; exact .inr (by omega))⟩
/-- The pairs after a change. -/
theorem pjoin_any (q : Qry) (c : Chg) (pb pa : Option Addr) (u v : Int) (hu : u = Pm.old q c) (hv : v = Pm.now q c) (Y : Option Addr) (n cap : Nat) (L : List PairV) (w : World) (ho : OwnL 187 10 PairV.cells w (.slice Y n cap) L) (hl : n ≤ 100000) (hpb : PtrR w pb (Pm.B q c)) (hpa : PtrR w pa (Pm.A q c)) :
    Calls Tryz.prog 126 #[.agg (effArr q c pb pa u v), .slice Y n cap] w fun e w' => ∃ A' n' c' L' k, e = .returned (.tuple #[.slice A' n' c', .bool k]) ∧ OwnL 187 10 PairV.cells w' (.slice A' n' c') L' ∧ Pm.join q L c = (if k = true then some L' else none) ∧ L'.length ≤ L.length + 1 ∧ Fr (sliceB Y) w w' := by
  by_cases ht : c.t = q.other
  · cases hh : c.has with
    | false =>
      refine (pjoinO_any q c pb pa u v Y n cap L w ho hl ht hh).mono ?_
      rintro e w' ⟨A', n', c', rfl, h1, h2⟩
      refine ⟨A', n', c', _, _, rfl, h1, ?_, Nat.le_succ_of_le (List.length_filter_le _ _), h2.mono (by simp)⟩
      unfold Pm.join Pm.other Pm.aft
      rw [if_pos ht, hh]
      rfl
    | true =>
      refine (pjoinS_any q c pb pa u v Y n cap L w ho hl ht hh).mono ?_
      rintro e w' ⟨rfl, h1, h2⟩
      refine ⟨Y, n, cap, _, _, rfl, h1, ?_, ?_, h2⟩
      · unfold Pm.join
        rw [if_pos ht]
      · unfold Pm.other Pm.aft
        rw [hh]
        simp
  · refine (pjoinL_any q c pb pa u v hu hv Y n cap L w ho hl ht hpb hpa).mono ?_
    rintro e w' ⟨A', n', c', L', k, rfl, h1, h2, h3, h4⟩
    refine ⟨A', n', c', L', k, rfl, h1, ?_, h3, h4.mono (by simp)⟩
    unfold Pm.join
    rw [if_neg ht]
    exact h2
end Go.Proofs.YtciaallekkdnhaaGreat
