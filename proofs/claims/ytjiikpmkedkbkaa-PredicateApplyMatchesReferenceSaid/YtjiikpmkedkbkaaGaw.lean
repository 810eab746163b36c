/-
  A drawn region's head where two operations may come up: both orders.
-/
import Derived.Test.YtjiikpmkedkbkaaGat
import Derived.Test.YtjiikpmkedkbkaaGah
import Derived.Test.YtjiikpmkedkbkaaGal
import Derived.Shelf.Abstract
import Derived.Deep.DeepCutAuto
import Derived.WalkSpells
import Derived.OwnWalk
import Derived.Lib.SliceRun
import Derived.Laws.NewBlocks
import Derived.Lib.JoinLaws
import Derived.Deep.RegionLaw
import Derived.StillTailTactics
import Derived.Test.YtjiikpmkedkbkaaGaa
namespace Go.Proofs.Ytjiikpmkedkbkaa
open Go.RowKit

abbrev PairV := RowV × RowV
@[reducible] def PairV.cells (p : PairV) : List Value := [.int .i64 p.1.t, .int .i64 p.1.k, .int .i64 p.1.x, .int .i64 p.1.y, .int .i64 p.1.z, .int .i64 p.2.t, .int .i64 p.2.k, .int .i64 p.2.x, .int .i64 p.2.y, .int .i64 p.2.z]
@[reducible] def PairV.val (p : PairV) : Value := .agg #[.int .i64 p.1.t, .int .i64 p.1.k, .int .i64 p.1.x, .int .i64 p.1.y, .int .i64 p.1.z, .int .i64 p.2.t, .int .i64 p.2.k, .int .i64 p.2.x, .int .i64 p.2.y, .int .i64 p.2.z]
theorem PairV.cells_len (p : PairV) : p.cells.length = 10 := rfl
theorem PairV.cells_one (p : PairV) : ∀ v ∈ p.cells, v.oneCell' = true := by
  intro v hv
  simp only [PairV.cells, List.mem_cons, List.not_mem_nil, or_false] at hv
  rcases hv with rfl | rfl | rfl | rfl | rfl | rfl | rfl | rfl | rfl | rfl <;> rfl
set_option maxRecDepth 100000 in
set_option maxHeartbeats 2000000 in
theorem pairIdx_any (fn : Nat) (cb : Array Value) (p : PairV → Bool) (A : Option Addr) (n cap : Nat) (L : List PairV) (w : World) (hx : AtL PairV.cells 10 w A L) (hn : n = L.length) (hl : n ≤ 100000)
    (eg : ∀ args w, (callFunc fn args).run Try.prog w = .ok (.enter fn args) w)
    (hp : ∀ (W : World) (x : PairV), Fr [] w W → Calls Try.prog fn (#[PairV.val x] ++ cb) W fun e w' => e = .returned (.bool (p x)) ∧ Fr [] W w') :
    Calls Try.prog 85 #[.slice A n cap, .func (.func fn) #[] cb] w fun e w' => e = .returned (.int .i64 (idxP p L 0)) ∧ Fr [] w w' := by
  have HP := Lib.hid hp
  have HX := Lib.hid hx
  have HN := Lib.hid hn
  have F0 : Hid (Fr [] w w) := Lib.hid (Fr.refl _ _)
  clear hp hx hn
  obtain ⟨I, HI⟩ : ∃ I, Hid (idxP p L 0 = I) := ⟨_, Lib.hid rfl⟩
  rw [HI.out]
  go_enter Try.func85, Try.ntmps85
  go_wp2_with fail
  go_loopw [5, 8] (fun i5 i8 wr => ∃ k : Nat, k ≤ n ∧ i8 = .int .i64 k ∧ Hid (Fr [] w wr) ∧ Hid (∀ y ∈ L.take k, p y = false)) (fun i5 i8 _ => n - (intOf i8).toNat)
  case atStart => exact ⟨0, Nat.zero_le _, rfl, F0, Lib.hid (by simp)⟩
  case round =>
    clear F0
    obtain ⟨k, hk, rfl, FR, HA⟩ := hrel
    by_cases hlt : k < n
    · obtain ⟨b, off, rfl, hb, hc⟩ := (HX.out.fr0 FR.out) (by rw [← HN.out]; omega)
      have hkx : k < L.length := by rw [← HN.out]; exact hlt
      have c0 := hc k hkx 0 (by decide)
      have c1 := hc k hkx 1 (by decide)
      have c2 := hc k hkx 2 (by decide)
      have c3 := hc k hkx 3 (by decide)
      have c4 := hc k hkx 4 (by decide)
      have c5 := hc k hkx 5 (by decide)
      have c6 := hc k hkx 6 (by decide)
      have c7 := hc k hkx 7 (by decide)
      have c8 := hc k hkx 8 (by decide)
      have c9 := hc k hkx 9 (by decide)
      have HK := Lib.hid hkx
      cases hq : p L[k] with
      | true =>
        have HIK : Hid (I = (k : Int)) := Lib.hid (by rw [← HI.out, idxP_hit 0 k hkx HA.out hq, Nat.zero_add])
        have HQ : Hid (p L[k] = true) := Lib.hid hq
        have HC := Lib.hid (HP.out wr L[k] FR.out)
        generalize L[k] = x at c0 c1 c2 c3 c4 c5 c6 c7 c8 c9 HC HQ hq
        clear hq
        obtain ⟨⟨r0, r1, r2, r3, r4⟩, ⟨r5, r6, r7, r8, r9⟩⟩ := x
        have d0 : wr.cell? ⟨b, off + k * 10, none⟩ = some (.int .i64 r0) := c0
        have d1 : wr.cell? ⟨b, off + k * 10 + 1, none⟩ = some (.int .i64 r1) := c1
        have d2 : wr.cell? ⟨b, off + k * 10 + 2, none⟩ = some (.int .i64 r2) := c2
        have d3 : wr.cell? ⟨b, off + k * 10 + 3, none⟩ = some (.int .i64 r3) := c3
        have d4 : wr.cell? ⟨b, off + k * 10 + 4, none⟩ = some (.int .i64 r4) := c4
        have d5 : wr.cell? ⟨b, off + k * 10 + 5, none⟩ = some (.int .i64 r5) := c5
        have d6 : wr.cell? ⟨b, off + k * 10 + 6, none⟩ = some (.int .i64 r6) := c6
        have d7 : wr.cell? ⟨b, off + k * 10 + 7, none⟩ = some (.int .i64 r7) := c7
        have d8 : wr.cell? ⟨b, off + k * 10 + 8, none⟩ = some (.int .i64 r8) := c8
        have d9 : wr.cell? ⟨b, off + k * 10 + 9, none⟩ = some (.int .i64 r9) := c9
        clear c0 c1 c2 c3 c4 c5 c6 c7 c8 c9 hb hc hkx
        go_wp2_with (go_at_fn fn; refine HC.out.mono ?_; rintro e w2 ⟨rfl, f2⟩; rw [HQ.out]; have F2 := Lib.hid (FR.out.trans f2); clear f2)
        go_ret
        exact ⟨by rw [HIK.out]; rfl, F2.out⟩
      | false =>
        have HA2 : Hid (∀ y ∈ L.take (k + 1), p y = false) := Lib.hid (by
          intro y hy
          rw [List.take_succ_eq_append_getElem hkx] at hy
          rcases List.mem_append.1 hy with h1 | h1
          · exact HA.out y h1
          · rw [List.mem_singleton] at h1
            rw [h1]
            exact hq)
        have HQ : Hid (p L[k] = false) := Lib.hid hq
        have HC := Lib.hid (HP.out wr L[k] FR.out)
        generalize L[k] = x at c0 c1 c2 c3 c4 c5 c6 c7 c8 c9 HC HQ hq
        clear hq
        obtain ⟨⟨r0, r1, r2, r3, r4⟩, ⟨r5, r6, r7, r8, r9⟩⟩ := x
        have d0 : wr.cell? ⟨b, off + k * 10, none⟩ = some (.int .i64 r0) := c0
        have d1 : wr.cell? ⟨b, off + k * 10 + 1, none⟩ = some (.int .i64 r1) := c1
        have d2 : wr.cell? ⟨b, off + k * 10 + 2, none⟩ = some (.int .i64 r2) := c2
        have d3 : wr.cell? ⟨b, off + k * 10 + 3, none⟩ = some (.int .i64 r3) := c3
        have d4 : wr.cell? ⟨b, off + k * 10 + 4, none⟩ = some (.int .i64 r4) := c4
        have d5 : wr.cell? ⟨b, off + k * 10 + 5, none⟩ = some (.int .i64 r5) := c5
        have d6 : wr.cell? ⟨b, off + k * 10 + 6, none⟩ = some (.int .i64 r6) := c6
        have d7 : wr.cell? ⟨b, off + k * 10 + 7, none⟩ = some (.int .i64 r7) := c7
        have d8 : wr.cell? ⟨b, off + k * 10 + 8, none⟩ = some (.int .i64 r8) := c8
        have d9 : wr.cell? ⟨b, off + k * 10 + 9, none⟩ = some (.int .i64 r9) := c9
        clear c0 c1 c2 c3 c4 c5 c6 c7 c8 c9 hb hc hkx
        go_wp2_with (go_at_fn fn; refine HC.out.mono ?_; rintro e w2 ⟨rfl, f2⟩; rw [HQ.out]; have F2 := Lib.hid (FR.out.trans f2); clear f2)
        go_roundw
        case rel => exact ⟨k + 1, by omega, by go_num, F2, HA2⟩
        case measure => simp [intOf]; omega
    · have HIK : Hid (I = -1) := Lib.hid (by rw [← HI.out]; exact idxP_miss 0 (fun y hy => HA.out y (by rw [List.take_of_length_le (by rw [← HN.out]; omega)]; exact hy)))
      go_wp2_with fail
      go_ret
      exact ⟨by rw [HIK.out]; rfl, FR.out⟩
theorem infoPair : (Try.prog.info? 106).map (fun i => (i.zero, i.size, i.bytes)) = some (some (.agg #[.int .i64 0, .int .i64 0, .int .i64 0, .int .i64 0, .int .i64 0, .int .i64 0, .int .i64 0, .int .i64 0, .int .i64 0, .int .i64 0]), 10, 80) := by kernel_rfl
theorem etPairP : ∃ i0, ET Try.prog 104 106 10 80 i0 (.agg #[.int .i64 0, .int .i64 0, .int .i64 0, .int .i64 0, .int .i64 0, .int .i64 0, .int .i64 0, .int .i64 0, .int .i64 0, .int .i64 0]) := by
  obtain ⟨i0, hi, hz0, hz1, hz2⟩ := info_parts infoPair
  exact ⟨i0, Try.underlying104, hi, hz0, hz1, hz2, rfl, by decide⟩
theorem pairZeros_len (m : Nat) : (Builtin.zeroCells (Value.cells (.agg #[.int .i64 0, .int .i64 0, .int .i64 0, .int .i64 0, .int .i64 0, .int .i64 0, .int .i64 0, .int .i64 0, .int .i64 0, .int .i64 0])) m).toList.length = m * 10 := by simp [Builtin.zeroCells, Value.cells]
theorem pairZeros_one (m : Nat) : ∀ v ∈ (Builtin.zeroCells (Value.cells (.agg #[.int .i64 0, .int .i64 0, .int .i64 0, .int .i64 0, .int .i64 0, .int .i64 0, .int .i64 0, .int .i64 0, .int .i64 0, .int .i64 0])) m).toList, v.oneCell' = true := by
  intro v hv
  simp only [Builtin.zeroCells, Value.cells, Array.toList_map, List.mem_map, Array.toList_range, List.mem_range] at hv
  obtain ⟨i, hi, rfl⟩ := hv
  have h2 : i % 10 < 10 := Nat.mod_lt _ (by decide)
  have h3 : i % 10 = 0 ∨ i % 10 = 1 ∨ i % 10 = 2 ∨ i % 10 = 3 ∨ i % 10 = 4 ∨ i % 10 = 5 ∨ i % 10 = 6 ∨ i % 10 = 7 ∨ i % 10 = 8 ∨ i % 10 = 9 := by omega
  rcases h3 with h | h | h | h | h | h | h | h | h | h <;> simp [h, Value.oneCell']
set_option maxRecDepth 100000 in
theorem pairClone_any (A : Option Addr) (n cap : Nat) (L : List PairV) (w : World) (hx : AtL PairV.cells 10 w A L) (hn : n = L.length) (hl : n ≤ 100000) :
    Calls Try.prog 93 #[.slice A n cap] w fun e w' => ∃ v, e = .returned v ∧ OwnL 106 10 PairV.cells w' v L ∧ Fr [] w w' ∧ ∀ g, v.ownBlock = some g → w.heap.size ≤ g := by
  obtain ⟨i0, TR⟩ := etPairP
  have hu := TR.ht
  have hnil := Lib.run_eql_slice_nil (P := Try.prog)
  cases A with
  | none =>
    have h0 : L = [] := by
      rcases Nat.eq_zero_or_pos L.length with h | h
      · exact List.eq_nil_of_length_eq_zero h
      · obtain ⟨b, off, e, _⟩ := hx h
        cases e
    subst h0
    go_enter Try.func93, Try.ntmps93
    go_wp2
    go_ret
    exact ⟨_, rfl, OwnL.nil, Fr.refl _ _, by simp [Value.ownBlock]⟩
  | some ad =>
    have hE : OwnL 106 10 PairV.cells (w.alloc (.cells #[] 106)) (.slice (some ⟨w.heap.size, 0, none⟩) 0 0) ([] : List PairV) := ⟨rfl, .inr ⟨w.heap.size, 0, #[], rfl, Nat.zero_le _, Blk.new w 106 #[], Nat.le_refl _, by simp [maxLen], rfl, rfl⟩⟩
    have HE := Lib.hid hE
    have hR := reads_of_at PairV.cells_len (by decide) (hx.fr ((Fr.refl [] w).alloc (.cells #[] 106)) (by simp))
    rw [← hn] at hR
    have HR := Lib.hid hR
    have HL : Hid (L.length ≤ 100000) := Lib.hid (by omega)
    have HN := Lib.hid hn
    clear hE hR hx hn
    go_enter Try.func93, Try.ntmps93
    go_wp2_with (at_builtin; refine wpList_appendL rfl _ _ rfl TR PairV.cells_len PairV.cells_one rfl HE.out _ _ _ _ L rfl HN.out HR.out (by have := HL.out; simp only [maxLen, List.length_nil]; omega) (by have := HL.out; simp only [List.length_nil]; omega) ?_; intro v5 w1 hown5 hg5 hat5; have HG5 := Lib.hid hg5; have HO5 := Lib.hid hown5; have HA5 := Lib.hid hat5; clear hg5 hown5 hat5)
    go_ret
    have hg : (w.alloc (.cells #[] 106)).grownBy w1 (some w.heap.size) := HG5.out
    have ha : v5.ownBlock = some w.heap.size ∨ v5.ownBlock = some (w.alloc (.cells #[] 106)).heap.size := HA5.out
    refine ⟨v5, rfl, by simpa using HO5.out, ((Fr.refl [] w).alloc _).grown hg (fun g h => .inr (by injection h with h; omega)), fun g h => ?_⟩
    rcases ha with e | e
    · rw [h] at e
      injection e with e
      omega
    · rw [h] at e
      injection e with e
      rw [World.size_alloc] at e
      omega
set_option maxRecDepth 100000 in
set_option maxHeartbeats 8000000 in
theorem pairDel_any (fn : Nat) (cb : Array Value) (p : PairV → Bool) (A : Option Addr) (n cap : Nat) (L : List PairV) (w : World) (ho : OwnL 106 10 PairV.cells w (.slice A n cap) L) (hl : n ≤ 100000)
    (eg : ∀ args w, (callFunc fn args).run Try.prog w = .ok (.enter fn args) w)
    (hp : ∀ (W : World) (x : PairV), Fr (sliceB A) w W → Calls Try.prog fn (#[PairV.val x] ++ cb) W fun e w' => e = .returned (.bool (p x)) ∧ Fr [] W w') :
    Calls Try.prog 92 #[.slice A n cap, .func (.func fn) #[] cb] w fun e w' => ∃ m, e = .returned (.slice A m cap) ∧ OwnL 106 10 PairV.cells w' (.slice A m cap) (L.filter fun x => !p x) ∧ Fr (sliceB A) w w' := by
  have hn : n = L.length := ho.blk.1
  have hat := ho.at1 PairV.cells_len
  have HIX := Lib.hid (pairIdx_any fn cb p A n cap L w hat.1 hn hl eg (fun W x hf => hp W x (hf.mono (by simp))))
  rcases first_or p L with hall | ⟨k, hk, hbefore, hit⟩
  · have HM : Hid (idxP p L 0 = -1) := Lib.hid (idxP_miss 0 hall)
    have HF : Hid (L.filter (fun x => !p x) = L) := Lib.hid (List.filter_eq_self.2 (fun x hx => by rw [hall x hx]; rfl))
    have HO := Lib.hid ho
    clear ho hall hp hat hn
    go_enter Try.func92, Try.ntmps92
    go_wp2_with (go_at_call 85; refine HIX.out.mono ?_; rintro e w1 ⟨rfl, f1⟩; rw [HM.out]; have F1 := Lib.hid f1; clear f1)
    go_ret
    exact ⟨n, rfl, by rw [HF.out]; exact HO.out.fr F1.out (by simp), F1.out.mono (by simp)⟩
  · obtain ⟨-, h0 | ⟨g, cur0, rfl, hb0, hnc, hcm, -, -⟩⟩ := ho.blk
    · rw [h0.2.1] at hk
      simp at hk
    have HM : Hid (idxP p L 0 = (k : Int)) := Lib.hid (by rw [idxP_hit 0 k hk hbefore hit, Nat.zero_add])
    have hcm63 : cap ≤ 9223372036854775807 := by unfold maxLen at hcm; omega
    have HFk : Hid ((L.take (k + 1)).filter (fun x => !p x) = L.take k) := Lib.hid (by
      rw [List.take_succ_eq_append_getElem hk, List.filter_append, List.filter_eq_self.2 (fun x hx => by rw [hbefore x hx]; rfl)]
      simp [hit])
    have HO := Lib.hid ho
    have HP := Lib.hid hp
    have HN := Lib.hid hn
    have HKN : Hid (k < L.length) := Lib.hid hk
    have HL := Lib.hid hl
    have hkn : k < n := by omega
    have hke : ((k : Int) == -1) = false := beq_eq_false_iff_ne.2 (by omega)
    clear ho hp hn hbefore hit hk hat hb0
    go_enter Try.func92, Try.ntmps92
    go_wp2_with (go_at_call 85; refine HIX.out.mono ?_; rintro e w1 ⟨rfl, f1⟩; rw [HM.out]; have F1 := Lib.hid f1; have HO1 := Lib.hid (HO.out.fr f1 (by simp)); clear f1)
    go_loopw [5, 6, 7] (fun s5 s6 s7 wr => ∃ (i j : Nat) (R : List PairV), i < j ∧ j ≤ n ∧ s5 = .int .i64 i ∧ s6 = .int .i64 j ∧ Hid (R.length = n ∧ R.take i = (L.take j).filter (fun x => !p x) ∧ R.drop j = L.drop j) ∧ Hid (OwnL 106 10 PairV.cells wr (.slice (some ⟨g, 0, none⟩) n cap) R) ∧ Hid (Fr [g] w wr)) (fun s5 s6 s7 _ => n - (intOf s6).toNat)
    case atStart => exact ⟨k, k + 1, L, by omega, by omega, rfl, by go_num, Lib.hid ⟨HN.out.symm, HFk.out.symm, rfl⟩, HO1, Lib.hid (F1.out.mono (by simp))⟩
    case round =>
      clear HO1 F1 HIX HM
      obtain ⟨i, j, R, hij, hj, rfl, rfl, HR, HO2, F2⟩ := hrel
      by_cases hlt : j < n
      · have hjR : j < R.length := by rw [HR.out.1]; exact hlt
        have hjL : j < L.length := by rw [← HN.out]; exact hlt
        have hRL : R[j] = L[j] := by
          have h1 := congrArg (fun l => l[0]?) HR.out.2.2
          simp only [List.getElem?_drop, Nat.add_zero] at h1
          rw [List.getElem?_eq_getElem hjR, List.getElem?_eq_getElem hjL] at h1
          injection h1
        have hDR : R.drop (j + 1) = L.drop (j + 1) := by rw [← List.drop_drop, ← List.drop_drop, HR.out.2.2]
        obtain ⟨g', cap', hv, -, -, hgl, hc, -⟩ := HO2.out.form PairV.cells_len (by omega)
        injection hv with hv1 hv2 hv3
        injection hv1 with hv1
        injection hv1 with hv1
        subst hv1
        clear hv2 hv3
        have c0 := hc j hjR 0 (by decide)
        have c1 := hc j hjR 1 (by decide)
        have c2 := hc j hjR 2 (by decide)
        have c3 := hc j hjR 3 (by decide)
        have c4 := hc j hjR 4 (by decide)
        have c5 := hc j hjR 5 (by decide)
        have c6 := hc j hjR 6 (by decide)
        have c7 := hc j hjR 7 (by decide)
        have c8 := hc j hjR 8 (by decide)
        have c9 := hc j hjR 9 (by decide)
        have HC := Lib.hid (HP.out)
        have HTK : Hid (L.take (j + 1) = L.take j ++ [R[j]]) := Lib.hid (by rw [hRL, List.take_succ_eq_append_getElem hjL])
        have HDR := Lib.hid hDR
        have HIJ := Lib.hid hij
        have HGL := Lib.hid hgl
        clear hRL hDR hc hgl
        generalize R[j] = x at c0 c1 c2 c3 c4 c5 c6 c7 c8 c9 HTK
        obtain ⟨pv, hpv⟩ : ∃ b, p x = b := ⟨_, rfl⟩
        have HQ := Lib.hid hpv
        clear hpv
        obtain ⟨⟨r0, r1, r2, r3, r4⟩, ⟨r5, r6, r7, r8, r9⟩⟩ := x
        have d0 : wr.cell? ⟨g, j * 10, none⟩ = some (.int .i64 r0) := c0
        have d1 : wr.cell? ⟨g, j * 10 + 1, none⟩ = some (.int .i64 r1) := c1
        have d2 : wr.cell? ⟨g, j * 10 + 2, none⟩ = some (.int .i64 r2) := c2
        have d3 : wr.cell? ⟨g, j * 10 + 3, none⟩ = some (.int .i64 r3) := c3
        have d4 : wr.cell? ⟨g, j * 10 + 4, none⟩ = some (.int .i64 r4) := c4
        have d5 : wr.cell? ⟨g, j * 10 + 5, none⟩ = some (.int .i64 r5) := c5
        have d6 : wr.cell? ⟨g, j * 10 + 6, none⟩ = some (.int .i64 r6) := c6
        have d7 : wr.cell? ⟨g, j * 10 + 7, none⟩ = some (.int .i64 r7) := c7
        have d8 : wr.cell? ⟨g, j * 10 + 8, none⟩ = some (.int .i64 r8) := c8
        have d9 : wr.cell? ⟨g, j * 10 + 9, none⟩ = some (.int .i64 r9) := c9
        clear c0 c1 c2 c3 c4 c5 c6 c7 c8 c9 hjR hjL
        have HB : Hid (OwnL 106 10 PairV.cells (wr.alloc (.cells #[.int .i64 r0, .int .i64 r1, .int .i64 r2, .int .i64 r3, .int .i64 r4, .int .i64 r5, .int .i64 r6, .int .i64 r7, .int .i64 r8, .int .i64 r9] 106)) (.slice (some ⟨g, 0, none⟩) n cap) R) := Lib.hid (HO2.out.fr ((Fr.refl [] _).alloc _) (by simp))
        have FB : Hid (Fr [g] w (wr.alloc (.cells #[.int .i64 r0, .int .i64 r1, .int .i64 r2, .int .i64 r3, .int .i64 r4, .int .i64 r5, .int .i64 r6, .int .i64 r7, .int .i64 r8, .int .i64 r9] 106))) := Lib.hid (F2.out.alloc _)
        have hbn := Blk.new wr 106 #[.int .i64 r0, .int .i64 r1, .int .i64 r2, .int .i64 r3, .int .i64 r4, .int .i64 r5, .int .i64 r6, .int .i64 r7, .int .i64 r8, .int .i64 r9]
        have HBN := Lib.hid hbn
        have hil : (i : Int) < (n : Int) := by omega
        have hin : i < n := by omega
        have h0i : (0 : Int) ≤ (i : Int) := by omega
        cases pv with
        | true =>
          go_wp2_with (go_at_fn fn; refine (HC.out _ ((⟨r0, r1, r2, r3, r4⟩, ⟨r5, r6, r7, r8, r9⟩) : PairV) (FB.out.mono (by simp [sliceB]))).mono ?_; rintro e w2 ⟨rfl, f2⟩; rw [HQ.out]; have FB2 := Lib.hid (FB.out.trans f2.mono0); have HB2 := Lib.hid (HB.out.fr f2 (by simp)); clear f2)
          go_roundw
          case rel => exact ⟨i, j + 1, R, by omega, by omega, rfl, by go_num, Lib.hid ⟨HR.out.1, by rw [HTK.out, List.filter_append, HR.out.2.1]; simp [HQ.out], HDR.out⟩, HB2, FB2⟩
          case measure => simp [intOf]; omega
        | false =>
          go_wp2_with (first
            | (go_at_fn fn; refine (HC.out _ ((⟨r0, r1, r2, r3, r4⟩, ⟨r5, r6, r7, r8, r9⟩) : PairV) (FB.out.mono (by simp [sliceB]))).mono ?_; rintro e w2 ⟨rfl, f2⟩; rw [HQ.out]; have FB2 := Lib.hid (FB.out.trans f2.mono0); have HB2 := Lib.hid (HB.out.fr f2 (by simp)); have hbn2 := HBN.out.fr f2 (by simp); have HBN2 := Lib.hid hbn2; have e0 : w2.cell? ⟨wr.heap.size, 0, none⟩ = some (.int .i64 r0) := hbn2.cell 0; have e1 : w2.cell? ⟨wr.heap.size, 1, none⟩ = some (.int .i64 r1) := hbn2.cell 1; have e2 : w2.cell? ⟨wr.heap.size, 2, none⟩ = some (.int .i64 r2) := hbn2.cell 2; have e3 : w2.cell? ⟨wr.heap.size, 3, none⟩ = some (.int .i64 r3) := hbn2.cell 3; have e4 : w2.cell? ⟨wr.heap.size, 4, none⟩ = some (.int .i64 r4) := hbn2.cell 4; have e5 : w2.cell? ⟨wr.heap.size, 5, none⟩ = some (.int .i64 r5) := hbn2.cell 5; have e6 : w2.cell? ⟨wr.heap.size, 6, none⟩ = some (.int .i64 r6) := hbn2.cell 6; have e7 : w2.cell? ⟨wr.heap.size, 7, none⟩ = some (.int .i64 r7) := hbn2.cell 7; have e8 : w2.cell? ⟨wr.heap.size, 8, none⟩ = some (.int .i64 r8) := hbn2.cell 8; have e9 : w2.cell? ⟨wr.heap.size, 9, none⟩ = some (.int .i64 r9) := hbn2.cell 9; clear f2 hbn2)
            | (refine wpList_store_own rfl _ _ _ rfl g (i * 10) #[.int .i64 r0, .int .i64 r1, .int .i64 r2, .int .i64 r3, .int .i64 r4, .int .i64 r5, .int .i64 r6, .int .i64 r7, .int .i64 r8, .int .i64 r9] rfl rfl i n cap ((⟨r0, r1, r2, r3, r4⟩, ⟨r5, r6, r7, r8, r9⟩) : PairV) HB2.out PairV.cells_len PairV.cells_one hin rfl rfl (by kernel_rfl) ?_
               intro w3 hb3 hf3
               have HB3 := Lib.hid hb3
               have FB3 := Lib.hid (FB2.out.trans hf3)
               clear hb3 hf3))
          go_roundw
          case rel =>
            refine ⟨i + 1, j + 1, R.set i ((⟨r0, r1, r2, r3, r4⟩, ⟨r5, r6, r7, r8, r9⟩) : PairV), by omega, by omega, by go_num, by go_num, Lib.hid ⟨by rw [List.length_set]; exact HR.out.1, ?_, ?_⟩, HB3, FB3⟩
            · rw [HTK.out, List.filter_append, ← HR.out.2.1, List.take_succ_eq_append_getElem (by rw [List.length_set, HR.out.1]; omega)]
              rw [List.take_set, List.set_eq_of_length_le (by rw [List.length_take]; exact Nat.min_le_left _ _)]
              simp [HQ.out]
            · rw [List.drop_set_of_lt (by omega)]
              exact HDR.out
          case measure => simp [intOf]; omega
      · have hjn : j = n := by omega
        subst hjn
        have HFF : Hid (R.take i = L.filter (fun x => !p x)) := Lib.hid (by rw [HR.out.2.1, List.take_of_length_le (by rw [← HN.out]; exact Nat.le_refl _)])
        have hci : ¬ cap = i := by omega
        have hin : (i : Int) ≤ (j : Int) := by omega
        obtain ⟨-, h9 | ⟨g9, cur9, h91, hb9, hnc9, hcm9, hs9, ht9⟩⟩ := HO2.out.blk
        · cases h9.1
        · injection h91 with h91
          injection h91 with h91
          subst h91
          have hz := pairZeros_len (j - i)
          have hcl : ∀ ty, (Builtin.clear_ #[104] ty #[.slice (some ⟨g, i * 10, none⟩) (j - i) (cap - i)]).run Try.prog wr = .ok (.tuple #[]) (wr.setCells g (i * 10) (Builtin.zeroCells (Value.cells (.agg #[.int .i64 0, .int .i64 0, .int .i64 0, .int .i64 0, .int .i64 0, .int .i64 0, .int .i64 0, .int .i64 0, .int .i64 0, .int .i64 0])) (j - i)).toList) := fun ty =>
            run_clear_put wr 104 106 ty (.agg #[.int .i64 0, .int .i64 0, .int .i64 0, .int .i64 0, .int .i64 0, .int .i64 0, .int .i64 0, .int .i64 0, .int .i64 0, .int .i64 0]) Try.underlying104 (fun w => by kernel_rfl) g (i * 10) (j - i) (cap - i) 106 cur9 (by omega) hb9 10 hz (pairZeros_one _) (by rw [hs9]; omega)
          have HT3 : Hid (OwnL 106 10 PairV.cells (wr.setCells g (i * 10) (Builtin.zeroCells (Value.cells (.agg #[.int .i64 0, .int .i64 0, .int .i64 0, .int .i64 0, .int .i64 0, .int .i64 0, .int .i64 0, .int .i64 0, .int .i64 0, .int .i64 0])) (j - i)).toList) (.slice (some ⟨g, 0, none⟩) i cap) (R.take i)) := Lib.hid (HO2.out.tail PairV.cells_len (by omega) _ (Nat.le_refl _) (by rw [hz]; omega))
          have F3 : Hid (Fr [g] w (wr.setCells g (i * 10) (Builtin.zeroCells (Value.cells (.agg #[.int .i64 0, .int .i64 0, .int .i64 0, .int .i64 0, .int .i64 0, .int .i64 0, .int .i64 0, .int .i64 0, .int .i64 0, .int .i64 0])) (j - i)).toList)) := Lib.hid (Fr.puts _ _ F2.out (.inl (by simp)))
          generalize wr.setCells g (i * 10) (Builtin.zeroCells (Value.cells (.agg #[.int .i64 0, .int .i64 0, .int .i64 0, .int .i64 0, .int .i64 0, .int .i64 0, .int .i64 0, .int .i64 0, .int .i64 0, .int .i64 0])) (j - i)).toList = w3 at *
          clear hb9 hs9 ht9 hz
          go_wp2_with fail
          go_ret
          exact ⟨i, rfl, by rw [← HFF.out]; exact HT3.out, F3.out.mono (by simp [sliceB])⟩
end Go.Proofs.Ytjiikpmkedkbkaa
namespace Go.Proofs.Ytjiikpmkedkbkaa
open Go.RowKit

section
variable {P : Program}
/-- append, its run known. -/
theorem wp_appendP (w : World) {o : Oper} {a : Act} {K : Act → World → Prop} {Q : Exit → Act → World → Prop} (d s : Operand) (t t' : TypeId)
    (ho : o.op = .call { callee := .builtin .append, args := #[d, s], argTypes := #[t, t'] }) (v u : Value) (hd : a.eval d = v) (hs : a.eval s = u) {v' : Value} {w' : World}
    (hr : (Builtin.append_ #[t, t'] o.type #[v, u]).run P w = .ok v' w') (h : K (a.put o.dst v') w') : o.wp P a w K Q := by
  unfold Oper.wp execOp
  simp only [ho, resolve, invoke, builtin, Sem.run_bind, Sem.run_pure, Result.andThen_ok, List.map_toArray, List.map_cons, List.map_nil, hd, hs, hr]
  exact h
theorem wpList_appendP (w : World) {ops : Array Oper} {rest : List Oper} {o : Oper} {a : Act} {Q : Exit → Act → World → Prop} (hgd : o.guard = none) (d s : Operand) (t t' : TypeId)
    (ho : o.op = .call { callee := .builtin .append, args := #[d, s], argTypes := #[t, t'] }) (v u : Value) (hd : a.eval d = v) (hs : a.eval s = u) {v' : Value} {w' : World}
    (hr : (Builtin.append_ #[t, t'] o.type #[v, u]).run P w = .ok v' w') (h : wpList P ops Q rest (a.put o.dst v') w') : wpList P ops Q (o :: rest) a w :=
  wpList_plain hgd fun _ hK => wp_appendP w d s t t' ho v u hd hs hr (hK _ _ h)
end
theorem own_insB {X : Type} {e size : Nat} {enc : X → List Value} {w' : World} {L : List X} (henc : ∀ x, (enc x).length = size) {g i cap m : Nat} {cur : Array Value} {x : X} (hb : Blk w' g e (wr (wr cur (i * size) (enc x)) (i * size + size) ((L.drop i).flatMap enc))) (hs : cur.size = cap * size) (hi : i ≤ L.length) (hm : m = L.length + 1) (hc : m ≤ cap) (hmx : cap ≤ maxLen) (hcur : ∀ k, k < i * size → cur[k]? = ((L.take i).flatMap enc)[k]?) (_x : X) :
    OwnL e size enc w' (.slice (some ⟨g, 0, none⟩) m cap) (L.take i ++ x :: L.drop i) := by
  have hdl : ((L.drop i).flatMap enc).length = (L.length - i) * size := by rw [flat_len henc, List.length_drop]
  have h1 : (L.length - i) * size + (i * size + size) = m * size := by rw [hm, Nat.add_mul, ← Nat.add_assoc, ← Nat.add_mul, Nat.sub_add_cancel hi, Nat.one_mul]
  have h2 : m * size ≤ cap * size := Nat.mul_le_mul_right _ hc
  refine OwnL.of_blk henc hb (by simp [hm]; omega) hc hmx (by rw [wr_size, wr_size, hs]) (fun k hk => ?_)
  rw [wr_get _ _ _ _ (by rw [wr_size, hdl, hs]; omega), hdl, wr_get _ _ _ _ (by rw [henc, hs]; omega), henc, flat_ins henc L x hi]
  by_cases c1 : k < i * size
  · rw [if_neg (by omega), if_neg (by omega), if_pos c1, hcur k c1]
  · by_cases c2 : k < i * size + size
    · rw [if_neg (by omega), if_pos (by omega), if_neg c1, if_pos c2]
    · rw [if_pos (by omega), if_neg c1, if_neg c2]
theorem rowFlat_one (L : List RowV) : ∀ v ∈ L.flatMap RowV.cells, v.oneCell' = true := by
  intro v hv
  obtain ⟨x, -, hx⟩ := List.mem_flatMap.1 hv
  exact RowV.cells_one x v hx
set_option maxRecDepth 100000 in
set_option maxHeartbeats 4000000 in
/-- Insert at the end. -/
theorem rowInsEnd (A : Option Addr) (n cap : Nat) (L : List RowV) (x : RowV) (vb : Nat) (w : World) (ho : OwnL 57 5 RowV.cells w (.slice A n cap) L) (hl : n ≤ 100000) (hv : Blk w vb 57 (RowV.cells x).toArray) :
    Calls Try.prog 80 #[.slice A n cap, .int .i64 n, .slice (some ⟨vb, 0, none⟩) 1 1] w fun e w' => ∃ v', e = .returned v' ∧ OwnL 57 5 RowV.cells w' v' (L ++ [x]) ∧ Fr (sliceB A) w w' ∧ (v'.ownBlock = (Value.slice A n cap).ownBlock ∨ v'.ownBlock = some w.heap.size) := by
  obtain ⟨i0, TR⟩ := etRowP
  have hn := ho.blk.1
  have hcap : n ≤ cap := by
    rcases ho.blk.2 with h | ⟨g, cur, -, -, h, -⟩
    · rw [h.2.1] at hn
      simp at hn
      omega
    · exact h
  have HO := Lib.hid ho
  have HR := Lib.hid (reads_of_at RowV.cells_len (by decide) (AtL.of_blk (L := [x]) RowV.cells_len hv (by simp)))
  have HN := Lib.hid hn
  have HL := Lib.hid hl
  have hnn : (0 : Int) ≤ (n : Int) := by omega
  clear ho hv hn
  by_cases hcn : cap = n
  · subst hcn
    go_enter Try.func80, Try.ntmps80
    go_wp2_with (at_builtin; refine wpList_appendL rfl _ _ rfl TR RowV.cells_len RowV.cells_one rfl HO.out _ _ _ _ [x] rfl rfl HR.out (by have := HL.out; have := HN.out; simp only [maxLen, List.length_singleton]; omega) (by have := HL.out; have := HN.out; simp only [List.length_singleton]; omega) ?_; intro v5 w1 hown5 hg5 hat5; have HG5 := Lib.hid hg5; have HO5 := Lib.hid hown5; have HA5 := Lib.hid hat5; clear hg5 hown5 hat5)
    go_ret
    exact ⟨v5, rfl, HO5.out, (Fr.refl _ _).grown HG5.out (fun g h => .inl (by cases A with
      | none => cases h
        | some a => injection h with h; simp [sliceB, h])), HA5.out⟩
  · skip
    go_enter Try.func80, Try.ntmps80
    go_wp2_with (at_builtin; refine wpList_appendL rfl _ _ rfl TR RowV.cells_len RowV.cells_one rfl HO.out _ _ _ _ [x] rfl rfl HR.out (by have := HL.out; have := HN.out; simp only [maxLen, List.length_singleton]; omega) (by have := HL.out; have := HN.out; simp only [List.length_singleton]; omega) ?_; intro v5 w1 hown5 hg5 hat5; have HG5 := Lib.hid hg5; have HO5 := Lib.hid hown5; have HA5 := Lib.hid hat5; clear hg5 hown5 hat5)
    go_ret
    exact ⟨v5, rfl, HO5.out, (Fr.refl _ _).grown HG5.out (fun g h => .inl (by cases A with
      | none => cases h
        | some a => injection h with h; simp [sliceB, h])), HA5.out⟩
set_option maxRecDepth 100000 in
set_option maxHeartbeats 4000000 in
/-- Insert within a slice that has room. -/
theorem rowInsShift (g n cap : Nat) (L : List RowV) (i : Nat) (x : RowV) (vb : Nat) (w : World) (ho : OwnL 57 5 RowV.cells w (.slice (some ⟨g, 0, none⟩) n cap) L) (hi : i < n) (hroom : n + 1 ≤ cap) (hl : n ≤ 100000) (hv : Blk w vb 57 (RowV.cells x).toArray) (hne : vb ≠ g) :
    Calls Try.prog 80 #[.slice (some ⟨g, 0, none⟩) n cap, .int .i64 i, .slice (some ⟨vb, 0, none⟩) 1 1] w fun e w' => e = .returned (.slice (some ⟨g, 0, none⟩) (n + 1) cap) ∧ OwnL 57 5 RowV.cells w' (.slice (some ⟨g, 0, none⟩) (n + 1) cap) (L.take i ++ x :: L.drop i) ∧ Fr [g] w w' := by
  obtain ⟨hn, h0 | ⟨g', cur, hA, hb, hnc, hcm, hcs, hct⟩⟩ := ho.blk
  · cases h0.1
  · injection hA with hA
    injection hA with hA
    subst hA
    obtain ⟨i0, TR⟩ := etRowP
    have hcm63 : cap ≤ 9223372036854775807 := by unfold maxLen at hcm; omega
    have hov : ∀ off lb cb, (callFunc 90 #[.slice (some ⟨vb, 0, none⟩) 1 1, .slice (some ⟨g, off, none⟩) lb cb]).run Try.prog w = .ok (.value (.bool false)) w := fun off lb cb => by
      rw [run_callFunc_extern Try.func90 (by kernel_rfl) (by kernel_rfl) (by kernel_rfl) (e := Extern.SlicesOverlaps.overlaps #[25, 25] #[4]) (by kernel_rfl),
        Lib.run_overlaps_apart w 25 4 57 Try.underlying25 5 (fun w => by kernel_rfl) ⟨vb, 0, none⟩ ⟨g, off, none⟩ 1 1 lb cb hne 57 57 (RowV.cells x).toArray.size cur.size (by unfold Blk at hv; simp [World.shape?, hv]) (by unfold Blk at hb; simp [World.shape?, hb]) (by rw [hcs]; omega) (hv.frozen _) (hv.frozen _)]
      rfl
    have hdl : ((L.drop i).flatMap RowV.cells).length = (n - i) * 5 := by rw [flat_len RowV.cells_len, List.length_drop, hn]
    have hat := (ho.at1 RowV.cells_len).1
    have hsz : (Try.prog.info? 57).map (·.size) = some 5 := by kernel_rfl
    have hcp1 : ∀ ty o1 o2 l1 l2 c1 c2, o1 = i * 5 + 5 → o2 = i * 5 → l1 = n - i → l2 = n + 1 - i → (Builtin.copy_ #[25, 25] ty #[.slice (some ⟨g, o1, none⟩) l1 c1, .slice (some ⟨g, o2, none⟩) l2 c2]).run Try.prog w.drew = .ok (goInt ((n - i : Nat) : Int)) (w.drew.setCells g (i * 5 + 5) ((L.drop i).flatMap RowV.cells)) := by
      intro ty o1 o2 l1 l2 c1 c2 e1 e2 e3 e4
      subst e1 e2 e3 e4
      refine run_copy_put w.drew 25 25 ty 57 5 g (i * 5 + 5) (n - i) c1 57 cur ⟨g, i * 5, none⟩ (n + 1 - i) c2 ((L.drop i).flatMap RowV.cells) Try.underlying25 hsz (n - i) (by simp only [Nat.min_def]; split <;> omega) hdl (fun j v hj => ?_) hb.drew (by rw [hcs]; omega) (rowFlat_one _)
      obtain ⟨b', off', hA', -, hc⟩ := hat (by omega)
      injection hA' with hA'
      injection hA' with e5 e6
      subst e5 e6
      have hj2 : j < (n - i) * 5 := by rw [← hdl]; exact (List.getElem?_eq_some_iff.1 hj).1
      have hq : i + j / 5 < L.length := by rw [← hn]; omega
      have h1 := hc (i + j / 5) hq (j % 5) (Nat.mod_lt _ (by decide))
      have h2 := flat_get RowV.cells_len (L.drop i) (j / 5) (by rw [List.length_drop]; omega) (j % 5) (Nat.mod_lt _ (by decide))
      rw [show j / 5 * 5 + j % 5 = j by omega, hj] at h2
      rw [Addr.add_lit, show i * 5 + j = 0 + (i + j / 5) * 5 + j % 5 by omega]
      show w.cell? _ = _
      rw [h1, h2]
      simp
    have hB1 : Blk (w.drew.setCells g (i * 5 + 5) ((L.drop i).flatMap RowV.cells)) g 57 _ := Blk.puts _ _ hb.drew
    have hV1 : Blk (w.drew.setCells g (i * 5 + 5) ((L.drop i).flatMap RowV.cells)) vb 57 (RowV.cells x).toArray := Blk.fr hv.drew (Fr.puts (S := [g]) _ _ (Fr.refl _ _) (.inl (by simp))) (by simpa using hne)
    have hcp2 : ∀ W, (Blk W g 57 (wr cur (i * 5 + 5) ((L.drop i).flatMap RowV.cells)) ∧ Blk W vb 57 (RowV.cells x).toArray) → ∀ ty o1 l1 c1, o1 = i * 5 → 1 ≤ l1 → (Builtin.copy_ #[25, 25] ty #[.slice (some ⟨g, o1, none⟩) l1 c1, .slice (some ⟨vb, 0, none⟩) 1 1]).run Try.prog W = .ok (goInt 1) (W.setCells g (i * 5) (RowV.cells x)) := by
      intro W hW ty o1 l1 c1 e1 e2
      subst e1
      refine run_copy_put W 25 25 ty 57 5 g (i * 5) l1 c1 57 _ ⟨vb, 0, none⟩ 1 1 (RowV.cells x) Try.underlying25 hsz 1 (by simp only [Nat.min_def]; split <;> omega) rfl (fun j v hj => ?_) hW.1 (by rw [wr_size, hcs]; omega) (RowV.cells_one x)
      rw [Addr.add_lit, Nat.zero_add, hW.2.cell]
      simpa using hj
    have hres := OwnL.insA (w := w.drew) (m := n + 1) RowV.cells_len hb.drew hcs (by omega : i ≤ L.length) (by omega) hroom hcm (fun k hk => by rw [OwnL.cur_get hct (by omega), flat_take RowV.cells_len, List.getElem?_take_of_lt hk]) x
    have HRES := Lib.hid hres
    have HF : Hid (Fr [g] w ((w.drew.setCells g (i * 5 + 5) ((L.drop i).flatMap RowV.cells)).setCells g (i * 5) (RowV.cells x))) := Lib.hid (Fr.puts _ _ (Fr.puts _ _ (Fr.refl _ _).drew (.inl (by simp))) (.inl (by simp)))
    have HCP1 := Lib.hid hcp1
    have HB1 := Lib.hid (And.intro hB1 hV1)
    have HCP2 := Lib.hid (hcp2 _ HB1.out)
    clear hres hcp1 hcp2 hB1 hV1 hat hdl hct hcs hb hv ho hn
    obtain ⟨w1, hw1⟩ : ∃ w1, w1 = w.drew.setCells g (i * 5 + 5) ((L.drop i).flatMap RowV.cells) := ⟨_, rfl⟩
    rw [← hw1] at HCP1 HCP2 HRES HF HB1
    have HW1 := Lib.hid hw1
    clear hw1
    have hn1 : IntKind.i64.wrap ((n : Int) + 1) = (n : Int) + 1 := by rw [IntKind.wrap_i64]; omega
    have hi1 : IntKind.i64.wrap ((i : Int) + 1) = (i : Int) + 1 := by rw [IntKind.wrap_i64]; omega
    have hb0 : ¬ ((i : Int) = (n : Int)) := by omega
    have hb1 : (0 : Int) ≤ (i : Int) := by omega
    have hb2 : (i : Int) ≤ (n : Int) := by omega
    have hb3 : ¬ ((cap : Int) < (n : Int) + 1) := by omega
    have hb4 : (0 : Int) ≤ (i : Int) + 1 := by omega
    have hb5 : (i : Int) + 1 ≤ (n : Int) + 1 := by omega
    have hb6 : (i : Int) ≤ (n : Int) + 1 := by omega
    have hb7 : ¬ cap = i := by omega
    have hb8 : ¬ cap = i + 1 := by omega
    have hb9 : (n : Int) + 1 ≤ (cap : Int) := by omega
    have ht1 : ((n : Int) + 1).toNat = n + 1 := by omega
    have ht2 : ((i : Int) + 1).toNat = i + 1 := by omega
    go_enter Try.func80, Try.ntmps80
    go_wp2_with fail
    go_still_tail 8, (by kernel_rfl)
    change wpList _ _ _ _ _ w.drew
    have k1 := fun ty c1 c2 => HCP1.out ty ((i + 1) * 5) (i * 5) (n - i) (n + 1 - i) c1 c2 (by omega) rfl rfl rfl
    have k2 := fun ty c1 => HCP2.out ty (i * 5) (n + 1 - i) c1 rfl (by omega)
    go_wp2_with fail
    go_ret
    exact ⟨rfl, HRES.out, HF.out⟩
set_option maxRecDepth 100000 in
set_option maxHeartbeats 4000000 in
/-- Insert into a slice that has no room: a new one. -/
theorem rowInsGrow (A : Option Addr) (n cap : Nat) (L : List RowV) (i : Nat) (x : RowV) (vb : Nat) (w : World) (ho : OwnL 57 5 RowV.cells w (.slice A n cap) L) (hi : i < n) (hroom : cap ≤ n) (hl : n ≤ 100000) (hv : Blk w vb 57 (RowV.cells x).toArray) :
    Calls Try.prog 80 #[.slice A n cap, .int .i64 i, .slice (some ⟨vb, 0, none⟩) 1 1] w fun e w' => ∃ c', e = .returned (.slice (some ⟨w.heap.size, 0, none⟩) (n + 1) c') ∧ OwnL 57 5 RowV.cells w' (.slice (some ⟨w.heap.size, 0, none⟩) (n + 1) c') (L.take i ++ x :: L.drop i) ∧ Fr [] w w' := by
  obtain ⟨hn, h0 | ⟨g, cur, hA, hb, hnc, hcm, hcs, hct⟩⟩ := ho.blk
  · rw [h0.2.1] at hn
    simp at hn
    omega
  · subst hA
    obtain ⟨i0, TR⟩ := etRowP
    obtain rfl : cap = n := by omega
    have hcm63 : cap ≤ 9223372036854775807 := by unfold maxLen at hcm; omega
    have hat := (ho.at1 RowV.cells_len).1
    have hsz : (Try.prog.info? 57).map (·.size) = some 5 := by kernel_rfl
    have hol : (Builtin.firstCells i0.size i (.slice (some ⟨g, 0, none⟩) i cap)).run Try.prog w.drew = .ok ((L.take i).flatMap RowV.cells).toArray w.drew := by
      rw [TR.hs]
      refine run_firstCells_some w.drew 5 i ⟨g, 0, none⟩ i cap _ (by rw [flat_len RowV.cells_len, List.length_take, ← hn]; congr 1; omega) (fun j u hu => ?_)
      obtain ⟨b', off', hA', -, hc⟩ := hat (by omega)
      injection hA' with hA'
      injection hA' with e5 e6
      subst e5 e6
      have hj2 : j < i * 5 := by
        have := (List.getElem?_eq_some_iff.1 hu).1
        rw [flat_len RowV.cells_len, List.length_take] at this
        omega
      have h1 := hc (j / 5) (by omega) (j % 5) (Nat.mod_lt _ (by decide))
      have h2 := flat_get RowV.cells_len L (j / 5) (by omega) (j % 5) (Nat.mod_lt _ (by decide))
      rw [show j / 5 * 5 + j % 5 = j by omega] at h2
      rw [flat_take RowV.cells_len, List.getElem?_take_of_lt hj2] at hu
      rw [Addr.add_lit]
      show w.cell? _ = _
      rw [show 0 + j = 0 + j / 5 * 5 + j % 5 by omega, h1, ← h2, hu]
    have hfit := growslice_fits (need := cap + 1) (old := cap) (bytes := i0.bytes) (by omega) (by rw [TR.hb]; omega)
    have hap : ∀ ty k q, k = cap + 1 - i → (Builtin.append_ #[25, 3] ty #[.slice (some ⟨g, 0, none⟩) i cap, .int q (k : Nat)]).run Try.prog w = .ok (.slice (some ⟨w.heap.size, 0, none⟩) (cap + 1) (grownCap w (cap + 1) cap 57)) (w.drew.alloc (.cells (((L.take i).flatMap RowV.cells).toArray ++ Builtin.zeroCells (Value.cells (.agg #[.int .i64 0, .int .i64 0, .int .i64 0, .int .i64 0, .int .i64 0])) (cap + 1 - i) ++ Builtin.zeroCells (Value.cells (.agg #[.int .i64 0, .int .i64 0, .int .i64 0, .int .i64 0, .int .i64 0])) (grownCap w (cap + 1) cap 57 - (cap + 1))) 57)) := by
      intro ty k q hk
      have h9 := Lib.run_append_grow_zeros (P := Try.prog) w 25 3 ty 57 i0 (.agg #[.int .i64 0, .int .i64 0, .int .i64 0, .int .i64 0, .int .i64 0]) q .i64 TR.ht Try.underlying3 TR.hi TR.hz (some ⟨g, 0, none⟩) i cap _ hol k (by omega) (by rw [TR.hs]; decide) (by omega) (by omega) (by rw [TR.hb]; omega) (by rw [show i + k = cap + 1 by omega]; exact hfit)
      rw [show i + k = cap + 1 by omega] at h9
      rw [h9, hk]
    have hge := grownCap_ge w (cap + 1) cap 57
    have hle := grownCap_le_maxLen w (cap + 1) cap 57 (by unfold maxLen; omega)
    generalize grownCap w (cap + 1) cap 57 = C at hap hge hle
    have hfl : ((L.take i).flatMap RowV.cells).length = i * 5 := by rw [flat_len RowV.cells_len, List.length_take, ← hn]; congr 1; omega
    have hdl : ((L.drop i).flatMap RowV.cells).length = (cap - i) * 5 := by rw [flat_len RowV.cells_len, List.length_drop, hn]
    obtain ⟨cur1, hcur1⟩ : ∃ c1, c1 = ((L.take i).flatMap RowV.cells).toArray ++ Builtin.zeroCells (Value.cells (.agg #[.int .i64 0, .int .i64 0, .int .i64 0, .int .i64 0, .int .i64 0])) (cap + 1 - i) ++ Builtin.zeroCells (Value.cells (.agg #[.int .i64 0, .int .i64 0, .int .i64 0, .int .i64 0, .int .i64 0])) (C - (cap + 1)) := ⟨_, rfl⟩
    have hc1s : cur1.size = C * 5 := by
      rw [hcur1, Array.size_append, Array.size_append, List.size_toArray, hfl, size_zeroCells, size_zeroCells]
      simp only [Value.cells]
      simp only [List.size_toArray, List.length_cons, List.length_nil]
      omega
    have hc1t : ∀ k, k < i * 5 → cur1[k]? = ((L.take i).flatMap RowV.cells)[k]? := fun k hk => by
      rw [hcur1, Array.append_assoc, Array.getElem?_append_left (by rw [List.size_toArray, hfl]; exact hk)]
      simp
    rw [← hcur1] at hap
    clear hcur1
    obtain ⟨W1, hW1⟩ : ∃ W1, W1 = w.drew.alloc (.cells cur1 57) := ⟨_, rfl⟩
    have hB0 : Blk W1 w.heap.size 57 cur1 := by rw [hW1]; exact Blk.new w.drew _ _
    have hF0 : Fr [] w W1 := by rw [hW1]; exact (Fr.refl _ _).drew.alloc _
    have hV1 : Blk W1 vb 57 (RowV.cells x).toArray := hv.fr hF0 (by simp)
    rw [← hW1] at hap
    have hcp1 : ∀ ty o1 l1 c1, o1 = i * 5 → 1 ≤ l1 → (Builtin.copy_ #[25, 25] ty #[.slice (some ⟨w.heap.size, o1, none⟩) l1 c1, .slice (some ⟨vb, 0, none⟩) 1 1]).run Try.prog W1 = .ok (goInt 1) (W1.setCells w.heap.size (i * 5) (RowV.cells x)) := by
      intro ty o1 l1 c1 e1 e2
      subst e1
      refine run_copy_put W1 25 25 ty 57 5 w.heap.size (i * 5) l1 c1 57 _ ⟨vb, 0, none⟩ 1 1 (RowV.cells x) Try.underlying25 hsz 1 (by simp only [Nat.min_def]; split <;> omega) rfl (fun j v hj => ?_) hB0 (by rw [hc1s]; omega) (RowV.cells_one x)
      rw [Addr.add_lit, Nat.zero_add, hV1.cell]
      simpa using hj
    have hB1 : Blk (W1.setCells w.heap.size (i * 5) (RowV.cells x)) w.heap.size 57 _ := Blk.puts _ _ hB0
    have hF1 : Fr [] w (W1.setCells w.heap.size (i * 5) (RowV.cells x)) := Fr.puts _ _ hF0 (.inr (Nat.le_refl _))
    obtain ⟨W2, hW2⟩ : ∃ W2, W2 = W1.setCells w.heap.size (i * 5) (RowV.cells x) := ⟨_, rfl⟩
    rw [← hW2] at hcp1 hB1 hF1
    clear hW1 hW2 hB0 hF0 hV1
    have hcp2 : ∀ ty o1 o2 l1 l2 c1 c2, o1 = i * 5 + 5 → o2 = i * 5 → l1 = cap - i → l2 = cap - i → (Builtin.copy_ #[25, 25] ty #[.slice (some ⟨w.heap.size, o1, none⟩) l1 c1, .slice (some ⟨g, o2, none⟩) l2 c2]).run Try.prog W2.drew = .ok (goInt ((cap - i : Nat) : Int)) (W2.drew.setCells w.heap.size (i * 5 + 5) ((L.drop i).flatMap RowV.cells)) := by
      intro ty o1 o2 l1 l2 c1 c2 e1 e2 e3 e4
      subst e1 e2 e3 e4
      refine run_copy_put W2.drew 25 25 ty 57 5 w.heap.size (i * 5 + 5) (cap - i) c1 57 _ ⟨g, i * 5, none⟩ (cap - i) c2 ((L.drop i).flatMap RowV.cells) Try.underlying25 hsz (cap - i) (by simp only [Nat.min_def]; split <;> omega) hdl (fun j v hj => ?_) hB1.drew (by rw [wr_size, hc1s]; omega) (rowFlat_one _)
      obtain ⟨b', off', hA', -, hc⟩ := (hat.fr0 hF1) (by omega)
      injection hA' with hA'
      injection hA' with e5 e6
      subst e5 e6
      have hj2 : j < (cap - i) * 5 := by rw [← hdl]; exact (List.getElem?_eq_some_iff.1 hj).1
      have hq : i + j / 5 < L.length := by rw [← hn]; omega
      have h1 := hc (i + j / 5) hq (j % 5) (Nat.mod_lt _ (by decide))
      have h2 := flat_get RowV.cells_len (L.drop i) (j / 5) (by rw [List.length_drop]; omega) (j % 5) (Nat.mod_lt _ (by decide))
      rw [show j / 5 * 5 + j % 5 = j by omega, hj] at h2
      rw [Addr.add_lit, show i * 5 + j = 0 + (i + j / 5) * 5 + j % 5 by omega]
      show W2.cell? _ = _
      rw [h1, h2]
      simp
    have hres : OwnL 57 5 RowV.cells (W2.drew.setCells w.heap.size (i * 5 + 5) ((L.drop i).flatMap RowV.cells)) (.slice (some ⟨w.heap.size, 0, none⟩) (cap + 1) C) (L.take i ++ x :: L.drop i) := own_insB RowV.cells_len (Blk.puts _ _ hB1.drew) hc1s (by omega) (by omega) hge hle hc1t x
    have HRES := Lib.hid hres
    have HF : Hid (Fr [] w (W2.drew.setCells w.heap.size (i * 5 + 5) ((L.drop i).flatMap RowV.cells))) := Lib.hid (Fr.puts _ _ hF1.drew (.inr (Nat.le_refl _)))
    have HCP1 := Lib.hid hcp1
    have HCP2 := Lib.hid hcp2
    have HAP := Lib.hid hap
    clear hres hcp1 hcp2 hB1 hat hdl hct hcs hb hv ho hn hap hc1s hc1t hF1 hfit hol hfl
    obtain ⟨gn, hgn⟩ : ∃ gn, gn = w.heap.size := ⟨_, rfl⟩
    rw [← hgn] at HRES HF HCP1 HCP2 HAP ⊢
    clear hgn
    have hn1 : IntKind.i64.wrap ((cap : Int) + 1) = (cap : Int) + 1 := by rw [IntKind.wrap_i64]; omega
    have hi1 : IntKind.i64.wrap ((i : Int) + 1) = (i : Int) + 1 := by rw [IntKind.wrap_i64]; omega
    have hn2 : IntKind.i64.wrap ((cap : Int) + 1 - (i : Int)) = ((cap + 1 - i : Nat) : Int) := by rw [IntKind.wrap_i64]; omega
    have hb0 : ¬ ((i : Int) = (cap : Int)) := by omega
    have hb1 : (0 : Int) ≤ (i : Int) := by omega
    have hb2 : (i : Int) ≤ (cap : Int) := by omega
    have hb3 : (cap : Int) < (cap : Int) + 1 := by omega
    have hb4 : (0 : Int) ≤ (i : Int) + 1 := by omega
    have hb5 : (i : Int) + 1 ≤ (cap : Int) + 1 := by omega
    have hb6 : (i : Int) ≤ (cap : Int) + 1 := by omega
    have hb7 : ¬ C = i := by omega
    have hb8 : ¬ C = i + 1 := by omega
    have hb9 : ¬ cap = i := by omega
    have ht1 : ((cap : Int) + 1).toNat = cap + 1 := by omega
    have ht2 : ((i : Int) + 1).toNat = i + 1 := by omega
    go_enter Try.func80, Try.ntmps80
    have k1 := fun ty c1 => HCP1.out ty (i * 5) (cap + 1 - i) c1 rfl (by omega)
    go_upto_region 11 with (at_builtin; refine wpList_appendP _ rfl _ _ 25 3 rfl _ _ rfl rfl (HAP.out _ _ _ rfl) ?_)
    clear k1
    go_still_tail 8, (by kernel_rfl)
    change wpList _ _ _ _ _ W2.drew
    have k2 := fun ty c1 c2 => HCP2.out ty ((i + 1) * 5) (i * 5) (cap - i) (cap - i) c1 c2 (by omega) rfl rfl rfl
    go_wp2_with fail
    go_ret
    exact ⟨C, rfl, HRES.out, HF.out⟩
end Go.Proofs.Ytjiikpmkedkbkaa
namespace Go.Proofs.Ytjiikpmkedkbkaa
open Go

section
variable {P : Program} {md : Region.Mode} {ops : Array Oper} {Q : Exit → Act → World → Prop} {S : World → Prop}
/-- Two operations may come up: each is carried out, S shown anew. -/
theorem wpHead_two {n i j : Nat} {oi oj : Oper} {f : Nat} {done : Array Bool} {a : Act} {w : World} (hoi : ops[i]? = some oi) (hoj : ops[j]? = some oj) (hr : Region.ready md ops done = [i, j]) (hin : i < n) (hjn : j < n)
    (h1 : ∀ K' : Act → World → Prop, Shut (∀ a w, S w → (S w → wpHead P md ops Q S n f (done.setIfInBounds i true) a w) → K' a w) → if Region.wanted oi (yielded ops a.tmps) = true then Oper.wp P oi a w K' Q else K' (a.put oi.dst undef) w)
    (h2 : ∀ K' : Act → World → Prop, Shut (∀ a w, S w → (S w → wpHead P md ops Q S n f (done.setIfInBounds j true) a w) → K' a w) → if Region.wanted oj (yielded ops a.tmps) = true then Oper.wp P oj a w K' Q else K' (a.put oj.dst undef) w) :
    wpHead P md ops Q S n (f + 1) done a w := fun inv => by
  refine ⟨by rw [hr]; simp, fun k hk => ?_⟩
  have hk' : k = i ∨ k = j := by rw [hr] at hk; simpa using hk
  rcases hk' with hk' | hk'
  · subst hk'
    exact ⟨hin, wpOp_step hoi (fun K' hK => h1 K' (fun a w hS hW => hK a w ⟨hS, hW hS (inv.set hk hin)⟩))⟩
  · subst hk'
    exact ⟨hjn, wpOp_step hoj (fun K' hK => h2 K' (fun a w hS hW => hK a w ⟨hS, hW hS (inv.set hk hjn)⟩))⟩
end
end Go.Proofs.Ytjiikpmkedkbkaa
