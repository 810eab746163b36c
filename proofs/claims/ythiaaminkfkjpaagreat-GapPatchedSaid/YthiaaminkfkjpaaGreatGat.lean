/-
  The library's functions on slices of pairs: IndexFunc, Clone, DeleteFunc, Insert; without, inserted.
-/
import Derived.Test.YthiaaminkfkjpaaGreatGaq
import Derived.Test.YthiaaminkfkjpaaGreatGah
import Derived.Test.YthiaaminkfkjpaaGreatGai
import Derived.Shelf.Abstract
import Derived.Deep.DeepCutAuto
import Derived.WalkSpells
import Derived.OwnWalk
import Derived.Lib.SliceRun
namespace Go.Proofs.YthiaaminkfkjpaaGreat
open Go.RowKit

abbrev PairV := RowV × RowV
@[reducible] def PairV.cells (p : PairV) : List Value := [.int .i64 p.1.t, .int .i64 p.1.k, .int .i64 p.1.x, .int .i64 p.1.y, .int .i64 p.1.z, .int .i64 p.2.t, .int .i64 p.2.k, .int .i64 p.2.x, .int .i64 p.2.y, .int .i64 p.2.z]
@[reducible] def PairV.val (p : PairV) : Value := .agg #[.int .i64 p.1.t, .int .i64 p.1.k, .int .i64 p.1.x, .int .i64 p.1.y, .int .i64 p.1.z, .int .i64 p.2.t, .int .i64 p.2.k, .int .i64 p.2.x, .int .i64 p.2.y, .int .i64 p.2.z]
theorem PairV.cells_len (p : PairV) : p.cells.length = 10 := rfl
theorem PairV.cells_one (p : PairV) : ∀ v ∈ p.cells, v.oneCell' = true := by
  intro v hv
  simp only [PairV.cells, List.mem_cons, List.not_mem_nil, or_false] at hv
  rcases hv with rfl | rfl | rfl | rfl | rfl | rfl | rfl | rfl | rfl | rfl <;> rfl
set_option maxRecDepth 100000 in
set_option maxHeartbeats 2000000 in
theorem pairIdx_any (fn : Nat) (cb : Array Value) (p : PairV → Bool) (A : Option Addr) (n cap : Nat) (L : List PairV) (w : World) (hx : AtL PairV.cells 10 w A L) (hn : n = L.length) (hl : n ≤ 100000)
    (eg : ∀ args w, (callFunc fn args).run Tryz.prog w = .ok (.enter fn args) w)
    (hp : ∀ (W : World) (x : PairV), Fr [] w W → Calls Tryz.prog fn (#[PairV.val x] ++ cb) W fun e w' => e = .returned (.bool (p x)) ∧ Fr [] W w') :
    Calls Tryz.prog 120 #[.slice A n cap, .func (.func fn) #[] cb] w fun e w' => e = .returned (.int .i64 (idxP p L 0)) ∧ Fr [] w w' := by
  have HP := Lib.hid hp
  have HX := Lib.hid hx
  have HN := Lib.hid hn
  have F0 : Hid (Fr [] w w) := Lib.hid (Fr.refl _ _)
  clear hp hx hn
  obtain ⟨I, HI⟩ : ∃ I, Hid (idxP p L 0 = I) := ⟨_, Lib.hid rfl⟩
  rw [HI.out]
  go_enter Tryz.func120, Tryz.ntmps120
  go_wp2_with fail
  go_loopw [5, 8] (fun i5 i8 wr => ∃ k : Nat, k ≤ n ∧ i8 = .int .i64 k ∧ Hid (Fr [] w wr) ∧ Hid (∀ y ∈ L.take k, p y = false)) (fun i5 i8 _ => n - (intOf i8).toNat)
  case atStart => exact ⟨0, Nat.zero_le _, rfl, F0, Lib.hid (by simp)⟩
  case round =>
    clear F0
    obtain ⟨k, hk, rfl, FR, HA⟩ := hrel
    by_cases hlt : k < n
    · obtain ⟨b, off, rfl, hb, hc⟩ := (HX.out.fr0 FR.out) (by rw [← HN.out]; omega)
      have hkx : k < L.length := by rw [← HN.out]; exact hlt
      have c0 := hc k hkx 0 (by decide)
      have c1 := hc k hkx 1 (by decide)
      have c2 := hc k hkx 2 (by decide)
      have c3 := hc k hkx 3 (by decide)
      have c4 := hc k hkx 4 (by decide)
      have c5 := hc k hkx 5 (by decide)
      have c6 := hc k hkx 6 (by decide)
      have c7 := hc k hkx 7 (by decide)
      have c8 := hc k hkx 8 (by decide)
      have c9 := hc k hkx 9 (by decide)
      have HK := Lib.hid hkx
      cases hq : p L[k] with
      | true =>
        have HIK : Hid (I = (k : Int)) := Lib.hid (by rw [← HI.out, idxP_hit 0 k hkx HA.out hq, Nat.zero_add])
        have HQ : Hid (p L[k] = true) := Lib.hid hq
        have HC := Lib.hid (HP.out wr L[k] FR.out)
        generalize L[k] = x at c0 c1 c2 c3 c4 c5 c6 c7 c8 c9 HC HQ hq
        clear hq
        obtain ⟨⟨r0, r1, r2, r3, r4⟩, ⟨r5, r6, r7, r8, r9⟩⟩ := x
        have d0 : wr.cell? ⟨b, off + k * 10, none⟩ = some (.int .i64 r0) := c0
        have d1 : wr.cell? ⟨b, off + k * 10 + 1, none⟩ = some (.int .i64 r1) := c1
        have d2 : wr.cell? ⟨b, off + k * 10 + 2, none⟩ = some (.int .i64 r2) := c2
        have d3 : wr.cell? ⟨b, off + k * 10 + 3, none⟩ = some (.int .i64 r3) := c3
        have d4 : wr.cell? ⟨b, off + k * 10 + 4, none⟩ = some (.int .i64 r4) := c4
        have d5 : wr.cell? ⟨b, off + k * 10 + 5, none⟩ = some (.int .i64 r5) := c5
        have d6 : wr.cell? ⟨b, off + k * 10 + 6, none⟩ = some (.int .i64 r6) := c6
        have d7 : wr.cell? ⟨b, off + k * 10 + 7, none⟩ = some (.int .i64 r7) := c7
        have d8 : wr.cell? ⟨b, off + k * 10 + 8, none⟩ = some (.int .i64 r8) := c8
        have d9 : wr.cell? ⟨b, off + k * 10 + 9, none⟩ = some (.int .i64 r9) := c9
        clear c0 c1 c2 c3 c4 c5 c6 c7 c8 c9 hb hc hkx
        go_wp2_with (go_at_fn fn; refine HC.out.mono ?_; rintro e w2 ⟨rfl, f2⟩; rw [HQ.out]; have F2 := Lib.hid (FR.out.trans f2); clear f2)
        go_ret
        exact ⟨by rw [HIK.out]; rfl, F2.out⟩
      | false =>
        have HA2 : Hid (∀ y ∈ L.take (k + 1), p y = false) := Lib.hid (by
          intro y hy
          rw [List.take_succ_eq_append_getElem hkx] at hy
          rcases List.mem_append.1 hy with h1 | h1
          · exact HA.out y h1
          · rw [List.mem_singleton] at h1
            rw [h1]
            exact hq)
        have HQ : Hid (p L[k] = false) := Lib.hid hq
        have HC := Lib.hid (HP.out wr L[k] FR.out)
        generalize L[k] = x at c0 c1 c2 c3 c4 c5 c6 c7 c8 c9 HC HQ hq
        clear hq
        obtain ⟨⟨r0, r1, r2, r3, r4⟩, ⟨r5, r6, r7, r8, r9⟩⟩ := x
        have d0 : wr.cell? ⟨b, off + k * 10, none⟩ = some (.int .i64 r0) := c0
        have d1 : wr.cell? ⟨b, off + k * 10 + 1, none⟩ = some (.int .i64 r1) := c1
        have d2 : wr.cell? ⟨b, off + k * 10 + 2, none⟩ = some (.int .i64 r2) := c2
        have d3 : wr.cell? ⟨b, off + k * 10 + 3, none⟩ = some (.int .i64 r3) := c3
        have d4 : wr.cell? ⟨b, off + k * 10 + 4, none⟩ = some (.int .i64 r4) := c4
        have d5 : wr.cell? ⟨b, off + k * 10 + 5, none⟩ = some (.int .i64 r5) := c5
        have d6 : wr.cell? ⟨b, off + k * 10 + 6, none⟩ = some (.int .i64 r6) := c6
        have d7 : wr.cell? ⟨b, off + k * 10 + 7, none⟩ = some (.int .i64 r7) := c7
        have d8 : wr.cell? ⟨b, off + k * 10 + 8, none⟩ = some (.int .i64 r8) := c8
        have d9 : wr.cell? ⟨b, off + k * 10 + 9, none⟩ = some (.int .i64 r9) := c9
        clear c0 c1 c2 c3 c4 c5 c6 c7 c8 c9 hb hc hkx
        go_wp2_with (go_at_fn fn; refine HC.out.mono ?_; rintro e w2 ⟨rfl, f2⟩; rw [HQ.out]; have F2 := Lib.hid (FR.out.trans f2); clear f2)
        go_roundw
        case rel => exact ⟨k + 1, by omega, by go_num, F2, HA2⟩
        case measure => simp [intOf]; omega
    · have HIK : Hid (I = -1) := Lib.hid (by rw [← HI.out]; exact idxP_miss 0 (fun y hy => HA.out y (by rw [List.take_of_length_le (by rw [← HN.out]; omega)]; exact hy)))
      go_wp2_with fail
      go_ret
      exact ⟨by rw [HIK.out]; rfl, FR.out⟩
theorem infoPair : (Tryz.prog.info? 142).map (fun i => (i.zero, i.size, i.bytes)) = some (some (.agg #[.int .i64 0, .int .i64 0, .int .i64 0, .int .i64 0, .int .i64 0, .int .i64 0, .int .i64 0, .int .i64 0, .int .i64 0, .int .i64 0]), 10, 80) := by kernel_rfl
theorem etPairP : ∃ i0, ET Tryz.prog 140 142 10 80 i0 (.agg #[.int .i64 0, .int .i64 0, .int .i64 0, .int .i64 0, .int .i64 0, .int .i64 0, .int .i64 0, .int .i64 0, .int .i64 0, .int .i64 0]) := by
  obtain ⟨i0, hi, hz0, hz1, hz2⟩ := info_parts infoPair
  exact ⟨i0, Tryz.underlying140, hi, hz0, hz1, hz2, rfl, by decide⟩
theorem pairZeros_len (m : Nat) : (Builtin.zeroCells (Value.cells (.agg #[.int .i64 0, .int .i64 0, .int .i64 0, .int .i64 0, .int .i64 0, .int .i64 0, .int .i64 0, .int .i64 0, .int .i64 0, .int .i64 0])) m).toList.length = m * 10 := by simp [Builtin.zeroCells, Value.cells]
theorem pairZeros_one (m : Nat) : ∀ v ∈ (Builtin.zeroCells (Value.cells (.agg #[.int .i64 0, .int .i64 0, .int .i64 0, .int .i64 0, .int .i64 0, .int .i64 0, .int .i64 0, .int .i64 0, .int .i64 0, .int .i64 0])) m).toList, v.oneCell' = true := by
  intro v hv
  simp only [Builtin.zeroCells, Value.cells, Array.toList_map, List.mem_map, Array.toList_range, List.mem_range] at hv
  obtain ⟨i, hi, rfl⟩ := hv
  have h2 : i % 10 < 10 := Nat.mod_lt _ (by decide)
  have h3 : i % 10 = 0 ∨ i % 10 = 1 ∨ i % 10 = 2 ∨ i % 10 = 3 ∨ i % 10 = 4 ∨ i % 10 = 5 ∨ i % 10 = 6 ∨ i % 10 = 7 ∨ i % 10 = 8 ∨ i % 10 = 9 := by omega
  rcases h3 with h | h | h | h | h | h | h | h | h | h <;> simp [h, Value.oneCell']
set_option maxRecDepth 100000 in
theorem pairClone_any (A : Option Addr) (n cap : Nat) (L : List PairV) (w : World) (hx : AtL PairV.cells 10 w A L) (hn : n = L.length) (hl : n ≤ 100000) :
    Calls Tryz.prog 132 #[.slice A n cap] w fun e w' => ∃ v, e = .returned v ∧ OwnL 142 10 PairV.cells w' v L ∧ Fr [] w w' ∧ ∀ g, v.ownBlock = some g → w.heap.size ≤ g := by
  obtain ⟨i0, TR⟩ := etPairP
  have hu := TR.ht
  have hnil := Lib.run_eql_slice_nil (P := Tryz.prog)
  cases A with
  | none =>
    have h0 : L = [] := by
      rcases Nat.eq_zero_or_pos L.length with h | h
      · exact List.eq_nil_of_length_eq_zero h
      · obtain ⟨b, off, e, _⟩ := hx h
        cases e
    subst h0
    go_enter Tryz.func132, Tryz.ntmps132
    go_wp2
    go_ret
    exact ⟨_, rfl, OwnL.nil, Fr.refl _ _, by simp [Value.ownBlock]⟩
  | some ad =>
    have hE : OwnL 142 10 PairV.cells (w.alloc (.cells #[] 142)) (.slice (some ⟨w.heap.size, 0, none⟩) 0 0) ([] : List PairV) := ⟨rfl, .inr ⟨w.heap.size, 0, #[], rfl, Nat.zero_le _, Blk.new w 142 #[], Nat.le_refl _, by simp [maxLen], rfl, rfl⟩⟩
    have HE := Lib.hid hE
    have hR := reads_of_at PairV.cells_len (by decide) (hx.fr ((Fr.refl [] w).alloc (.cells #[] 142)) (by simp))
    rw [← hn] at hR
    have HR := Lib.hid hR
    have HL : Hid (L.length ≤ 100000) := Lib.hid (by omega)
    have HN := Lib.hid hn
    clear hE hR hx hn
    go_enter Tryz.func132, Tryz.ntmps132
    go_wp2_with (at_builtin; refine wpList_appendL rfl _ _ rfl TR PairV.cells_len PairV.cells_one rfl HE.out _ _ _ _ L rfl HN.out HR.out (by have := HL.out; simp only [maxLen, List.length_nil]; omega) (by have := HL.out; simp only [List.length_nil]; omega) ?_; intro v5 w1 hown5 hg5 hat5; have HG5 := Lib.hid hg5; have HO5 := Lib.hid hown5; have HA5 := Lib.hid hat5; clear hg5 hown5 hat5)
    go_ret
    have hg : (w.alloc (.cells #[] 142)).grownBy w1 (some w.heap.size) := HG5.out
    have ha : v5.ownBlock = some w.heap.size ∨ v5.ownBlock = some (w.alloc (.cells #[] 142)).heap.size := HA5.out
    refine ⟨v5, rfl, by simpa using HO5.out, ((Fr.refl [] w).alloc _).grown hg (fun g h => .inr (by injection h with h; omega)), fun g h => ?_⟩
    rcases ha with e | e
    · rw [h] at e
      injection e with e
      omega
    · rw [h] at e
      injection e with e
      rw [World.size_alloc] at e
      omega
set_option maxRecDepth 100000 in
set_option maxHeartbeats 8000000 in
theorem pairDel_any (fn : Nat) (cb : Array Value) (p : PairV → Bool) (A : Option Addr) (n cap : Nat) (L : List PairV) (w : World) (ho : OwnL 142 10 PairV.cells w (.slice A n cap) L) (hl : n ≤ 100000)
    (eg : ∀ args w, (callFunc fn args).run Tryz.prog w = .ok (.enter fn args) w)
    (hp : ∀ (W : World) (x : PairV), Fr (sliceB A) w W → Calls Tryz.prog fn (#[PairV.val x] ++ cb) W fun e w' => e = .returned (.bool (p x)) ∧ Fr [] W w') :
    Calls Tryz.prog 131 #[.slice A n cap, .func (.func fn) #[] cb] w fun e w' => ∃ m, e = .returned (.slice A m cap) ∧ OwnL 142 10 PairV.cells w' (.slice A m cap) (L.filter fun x => !p x) ∧ Fr (sliceB A) w w' := by
  have hn : n = L.length := ho.blk.1
  have hat := ho.at1 PairV.cells_len
  have HIX := Lib.hid (pairIdx_any fn cb p A n cap L w hat.1 hn hl eg (fun W x hf => hp W x (hf.mono (by simp))))
  rcases first_or p L with hall | ⟨k, hk, hbefore, hit⟩
  · have HM : Hid (idxP p L 0 = -1) := Lib.hid (idxP_miss 0 hall)
    have HF : Hid (L.filter (fun x => !p x) = L) := Lib.hid (List.filter_eq_self.2 (fun x hx => by rw [hall x hx]; rfl))
    have HO := Lib.hid ho
    clear ho hall hp hat hn
    go_enter Tryz.func131, Tryz.ntmps131
    go_wp2_with (go_at_call 120; refine HIX.out.mono ?_; rintro e w1 ⟨rfl, f1⟩; rw [HM.out]; have F1 := Lib.hid f1; clear f1)
    go_ret
    exact ⟨n, rfl, by rw [HF.out]; exact HO.out.fr F1.out (by simp), F1.out.mono (by simp)⟩
  · obtain ⟨-, h0 | ⟨g, cur0, rfl, hb0, hnc, hcm, -, -⟩⟩ := ho.blk
    · rw [h0.2.1] at hk
      simp at hk
    have HM : Hid (idxP p L 0 = (k : Int)) := Lib.hid (by rw [idxP_hit 0 k hk hbefore hit, Nat.zero_add])
    have hcm63 : cap ≤ 9223372036854775807 := by unfold maxLen at hcm; omega
    have HFk : Hid ((L.take (k + 1)).filter (fun x => !p x) = L.take k) := Lib.hid (by
      rw [List.take_succ_eq_append_getElem hk, List.filter_append, List.filter_eq_self.2 (fun x hx => by rw [hbefore x hx]; rfl)]
      simp [hit])
    have HO := Lib.hid ho
    have HP := Lib.hid hp
    have HN := Lib.hid hn
    have HKN : Hid (k < L.length) := Lib.hid hk
    have HL := Lib.hid hl
    have hkn : k < n := by omega
    have hke : ((k : Int) == -1) = false := beq_eq_false_iff_ne.2 (by omega)
    clear ho hp hn hbefore hit hk hat hb0
    go_enter Tryz.func131, Tryz.ntmps131
    go_wp2_with (go_at_call 120; refine HIX.out.mono ?_; rintro e w1 ⟨rfl, f1⟩; rw [HM.out]; have F1 := Lib.hid f1; have HO1 := Lib.hid (HO.out.fr f1 (by simp)); clear f1)
    go_loopw [5, 6, 7] (fun s5 s6 s7 wr => ∃ (i j : Nat) (R : List PairV), i < j ∧ j ≤ n ∧ s5 = .int .i64 i ∧ s6 = .int .i64 j ∧ Hid (R.length = n ∧ R.take i = (L.take j).filter (fun x => !p x) ∧ R.drop j = L.drop j) ∧ Hid (OwnL 142 10 PairV.cells wr (.slice (some ⟨g, 0, none⟩) n cap) R) ∧ Hid (Fr [g] w wr)) (fun s5 s6 s7 _ => n - (intOf s6).toNat)
    case atStart => exact ⟨k, k + 1, L, by omega, by omega, rfl, by go_num, Lib.hid ⟨HN.out.symm, HFk.out.symm, rfl⟩, HO1, Lib.hid (F1.out.mono (by simp))⟩
    case round =>
      clear HO1 F1 HIX HM
      obtain ⟨i, j, R, hij, hj, rfl, rfl, HR, HO2, F2⟩ := hrel
      by_cases hlt : j < n
      · have hjR : j < R.length := by rw [HR.out.1]; exact hlt
        have hjL : j < L.length := by rw [← HN.out]; exact hlt
        have hRL : R[j] = L[j] := by
          have h1 := congrArg (fun l => l[0]?) HR.out.2.2
          simp only [List.getElem?_drop, Nat.add_zero] at h1
          rw [List.getElem?_eq_getElem hjR, List.getElem?_eq_getElem hjL] at h1
          injection h1
        have hDR : R.drop (j + 1) = L.drop (j + 1) := by rw [← List.drop_drop, ← List.drop_drop, HR.out.2.2]
        obtain ⟨g', cap', hv, -, -, hgl, hc, -⟩ := HO2.out.form PairV.cells_len (by omega)
        injection hv with hv1 hv2 hv3
        injection hv1 with hv1
        injection hv1 with hv1
        subst hv1
        clear hv2 hv3
        have c0 := hc j hjR 0 (by decide)
        have c1 := hc j hjR 1 (by decide)
        have c2 := hc j hjR 2 (by decide)
        have c3 := hc j hjR 3 (by decide)
        have c4 := hc j hjR 4 (by decide)
        have c5 := hc j hjR 5 (by decide)
        have c6 := hc j hjR 6 (by decide)
        have c7 := hc j hjR 7 (by decide)
        have c8 := hc j hjR 8 (by decide)
        have c9 := hc j hjR 9 (by decide)
        have HC := Lib.hid (HP.out)
        have HTK : Hid (L.take (j + 1) = L.take j ++ [R[j]]) := Lib.hid (by rw [hRL, List.take_succ_eq_append_getElem hjL])
        have HDR := Lib.hid hDR
        have HIJ := Lib.hid hij
        have HGL := Lib.hid hgl
        clear hRL hDR hc hgl
        generalize R[j] = x at c0 c1 c2 c3 c4 c5 c6 c7 c8 c9 HTK
        obtain ⟨pv, hpv⟩ : ∃ b, p x = b := ⟨_, rfl⟩
        have HQ := Lib.hid hpv
        clear hpv
        obtain ⟨⟨r0, r1, r2, r3, r4⟩, ⟨r5, r6, r7, r8, r9⟩⟩ := x
        have d0 : wr.cell? ⟨g, j * 10, none⟩ = some (.int .i64 r0) := c0
        have d1 : wr.cell? ⟨g, j * 10 + 1, none⟩ = some (.int .i64 r1) := c1
        have d2 : wr.cell? ⟨g, j * 10 + 2, none⟩ = some (.int .i64 r2) := c2
        have d3 : wr.cell? ⟨g, j * 10 + 3, none⟩ = some (.int .i64 r3) := c3
        have d4 : wr.cell? ⟨g, j * 10 + 4, none⟩ = some (.int .i64 r4) := c4
        have d5 : wr.cell? ⟨g, j * 10 + 5, none⟩ = some (.int .i64 r5) := c5
        have d6 : wr.cell? ⟨g, j * 10 + 6, none⟩ = some (.int .i64 r6) := c6
        have d7 : wr.cell? ⟨g, j * 10 + 7, none⟩ = some (.int .i64 r7) := c7
        have d8 : wr.cell? ⟨g, j * 10 + 8, none⟩ = some (.int .i64 r8) := c8
        have d9 : wr.cell? ⟨g, j * 10 + 9, none⟩ = some (.int .i64 r9) := c9
        clear c0 c1 c2 c3 c4 c5 c6 c7 c8 c9 hjR hjL
        have HB : Hid (OwnL 142 10 PairV.cells (wr.alloc (.cells #[.int .i64 r0, .int .i64 r1, .int .i64 r2, .int .i64 r3, .int .i64 r4, .int .i64 r5, .int .i64 r6, .int .i64 r7, .int .i64 r8, .int .i64 r9] 142)) (.slice (some ⟨g, 0, none⟩) n cap) R) := Lib.hid (HO2.out.fr ((Fr.refl [] _).alloc _) (by simp))
        have FB : Hid (Fr [g] w (wr.alloc (.cells #[.int .i64 r0, .int .i64 r1, .int .i64 r2, .int .i64 r3, .int .i64 r4, .int .i64 r5, .int .i64 r6, .int .i64 r7, .int .i64 r8, .int .i64 r9] 142))) := Lib.hid (F2.out.alloc _)
        have hbn := Blk.new wr 142 #[.int .i64 r0, .int .i64 r1, .int .i64 r2, .int .i64 r3, .int .i64 r4, .int .i64 r5, .int .i64 r6, .int .i64 r7, .int .i64 r8, .int .i64 r9]
        have HBN := Lib.hid hbn
        have hil : (i : Int) < (n : Int) := by omega
        have hin : i < n := by omega
        have h0i : (0 : Int) ≤ (i : Int) := by omega
        cases pv with
        | true =>
          go_wp2_with (go_at_fn fn; refine (HC.out _ ((⟨r0, r1, r2, r3, r4⟩, ⟨r5, r6, r7, r8, r9⟩) : PairV) (FB.out.mono (by simp [sliceB]))).mono ?_; rintro e w2 ⟨rfl, f2⟩; rw [HQ.out]; have FB2 := Lib.hid (FB.out.trans f2.mono0); have HB2 := Lib.hid (HB.out.fr f2 (by simp)); clear f2)
          go_roundw
          case rel => exact ⟨i, j + 1, R, by omega, by omega, rfl, by go_num, Lib.hid ⟨HR.out.1, by rw [HTK.out, List.filter_append, HR.out.2.1]; simp [HQ.out], HDR.out⟩, HB2, FB2⟩
          case measure => simp [intOf]; omega
        | false =>
          go_wp2_with (first
            | (go_at_fn fn; refine (HC.out _ ((⟨r0, r1, r2, r3, r4⟩, ⟨r5, r6, r7, r8, r9⟩) : PairV) (FB.out.mono (by simp [sliceB]))).mono ?_; rintro e w2 ⟨rfl, f2⟩; rw [HQ.out]; have FB2 := Lib.hid (FB.out.trans f2.mono0); have HB2 := Lib.hid (HB.out.fr f2 (by simp)); have hbn2 := HBN.out.fr f2 (by simp); have HBN2 := Lib.hid hbn2; have e0 : w2.cell? ⟨wr.heap.size, 0, none⟩ = some (.int .i64 r0) := hbn2.cell 0; have e1 : w2.cell? ⟨wr.heap.size, 1, none⟩ = some (.int .i64 r1) := hbn2.cell 1; have e2 : w2.cell? ⟨wr.heap.size, 2, none⟩ = some (.int .i64 r2) := hbn2.cell 2; have e3 : w2.cell? ⟨wr.heap.size, 3, none⟩ = some (.int .i64 r3) := hbn2.cell 3; have e4 : w2.cell? ⟨wr.heap.size, 4, none⟩ = some (.int .i64 r4) := hbn2.cell 4; have e5 : w2.cell? ⟨wr.heap.size, 5, none⟩ = some (.int .i64 r5) := hbn2.cell 5; have e6 : w2.cell? ⟨wr.heap.size, 6, none⟩ = some (.int .i64 r6) := hbn2.cell 6; have e7 : w2.cell? ⟨wr.heap.size, 7, none⟩ = some (.int .i64 r7) := hbn2.cell 7; have e8 : w2.cell? ⟨wr.heap.size, 8, none⟩ = some (.int .i64 r8) := hbn2.cell 8; have e9 : w2.cell? ⟨wr.heap.size, 9, none⟩ = some (.int .i64 r9) := hbn2.cell 9; clear f2 hbn2)
            | (refine wpList_store_own rfl _ _ _ rfl g (i * 10) #[.int .i64 r0, .int .i64 r1, .int .i64 r2, .int .i64 r3, .int .i64 r4, .int .i64 r5, .int .i64 r6, .int .i64 r7, .int .i64 r8, .int .i64 r9] rfl rfl i n cap ((⟨r0, r1, r2, r3, r4⟩, ⟨r5, r6, r7, r8, r9⟩) : PairV) HB2.out PairV.cells_len PairV.cells_one hin rfl rfl (by kernel_rfl) ?_
               intro w3 hb3 hf3
               have HB3 := Lib.hid hb3
               have FB3 := Lib.hid (FB2.out.trans hf3)
               clear hb3 hf3))
          go_roundw
          case rel =>
            refine ⟨i + 1, j + 1, R.set i ((⟨r0, r1, r2, r3, r4⟩, ⟨r5, r6, r7, r8, r9⟩) : PairV), by omega, by omega, by go_num, by go_num, Lib.hid ⟨by rw [List.length_set]; exact HR.out.1, ?_, ?_⟩, HB3, FB3⟩
            · rw [HTK.out, List.filter_append, ← HR.out.2.1, List.take_succ_eq_append_getElem (by rw [List.length_set, HR.out.1]; omega)]
              rw [List.take_set, List.set_eq_of_length_le (by rw [List.length_take]; exact Nat.min_le_left _ _)]
              simp [HQ.out]
            · rw [List.drop_set_of_lt (by omega)]
              exact HDR.out
          case measure => simp [intOf]; omega
      · have hjn : j = n := by omega
        subst hjn
        have HFF : Hid (R.take i = L.filter (fun x => !p x)) := Lib.hid (by rw [HR.out.2.1, List.take_of_length_le (by rw [← HN.out]; exact Nat.le_refl _)])
        have hci : ¬ cap = i := by omega
        have hin : (i : Int) ≤ (j : Int) := by omega
        obtain ⟨-, h9 | ⟨g9, cur9, h91, hb9, hnc9, hcm9, hs9, ht9⟩⟩ := HO2.out.blk
        · cases h9.1
        · injection h91 with h91
          injection h91 with h91
          subst h91
          have hz := pairZeros_len (j - i)
          have hcl : ∀ ty, (Builtin.clear_ #[140] ty #[.slice (some ⟨g, i * 10, none⟩) (j - i) (cap - i)]).run Tryz.prog wr = .ok (.tuple #[]) (wr.setCells g (i * 10) (Builtin.zeroCells (Value.cells (.agg #[.int .i64 0, .int .i64 0, .int .i64 0, .int .i64 0, .int .i64 0, .int .i64 0, .int .i64 0, .int .i64 0, .int .i64 0, .int .i64 0])) (j - i)).toList) := fun ty =>
            run_clear_put wr 140 142 ty (.agg #[.int .i64 0, .int .i64 0, .int .i64 0, .int .i64 0, .int .i64 0, .int .i64 0, .int .i64 0, .int .i64 0, .int .i64 0, .int .i64 0]) Tryz.underlying140 (fun w => by kernel_rfl) g (i * 10) (j - i) (cap - i) 142 cur9 (by omega) hb9 10 hz (pairZeros_one _) (by rw [hs9]; omega)
          have HT3 : Hid (OwnL 142 10 PairV.cells (wr.setCells g (i * 10) (Builtin.zeroCells (Value.cells (.agg #[.int .i64 0, .int .i64 0, .int .i64 0, .int .i64 0, .int .i64 0, .int .i64 0, .int .i64 0, .int .i64 0, .int .i64 0, .int .i64 0])) (j - i)).toList) (.slice (some ⟨g, 0, none⟩) i cap) (R.take i)) := Lib.hid (HO2.out.tail PairV.cells_len (by omega) _ (Nat.le_refl _) (by rw [hz]; omega))
          have F3 : Hid (Fr [g] w (wr.setCells g (i * 10) (Builtin.zeroCells (Value.cells (.agg #[.int .i64 0, .int .i64 0, .int .i64 0, .int .i64 0, .int .i64 0, .int .i64 0, .int .i64 0, .int .i64 0, .int .i64 0, .int .i64 0])) (j - i)).toList)) := Lib.hid (Fr.puts _ _ F2.out (.inl (by simp)))
          generalize wr.setCells g (i * 10) (Builtin.zeroCells (Value.cells (.agg #[.int .i64 0, .int .i64 0, .int .i64 0, .int .i64 0, .int .i64 0, .int .i64 0, .int .i64 0, .int .i64 0, .int .i64 0, .int .i64 0])) (j - i)).toList = w3 at *
          clear hb9 hs9 ht9 hz
          go_wp2_with fail
          go_ret
          exact ⟨i, rfl, by rw [← HFF.out]; exact HT3.out, F3.out.mono (by simp [sliceB])⟩
end Go.Proofs.YthiaaminkfkjpaaGreat
