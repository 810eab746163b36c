/-
  The library's functions on slices of rows: IndexFunc, Clone, DeleteFunc, Insert; without, inserted.
-/
import Derived.Test.YtjiikpmkedkbkaaGaq
import Derived.Test.YtjiikpmkedkbkaaGah
import Derived.Test.YtjiikpmkedkbkaaGal
import Derived.Shelf.Abstract
import Derived.Deep.DeepCutAuto
import Derived.WalkSpells
import Derived.OwnWalk
import Derived.Lib.SliceRun
namespace Go.Proofs.Ytjiikpmkedkbkaa
open Go.RowKit

/-- The blocks that a slice lies in. -/
def sliceB (A : Option Addr) : List Nat := (A.map (·.block)).toList
set_option maxRecDepth 100000 in
set_option maxHeartbeats 2000000 in
theorem rowIdx_any (fn : Nat) (cb : Array Value) (p : RowV → Bool) (A : Option Addr) (n cap : Nat) (L : List RowV) (w : World) (hx : AtL RowV.cells 5 w A L) (hn : n = L.length) (hl : n ≤ 100000)
    (eg : ∀ args w, (callFunc fn args).run Try.prog w = .ok (.enter fn args) w)
    (hp : ∀ (W : World) (x : RowV), Fr [] w W → Calls Try.prog fn (#[RowV.val x] ++ cb) W fun e w' => e = .returned (.bool (p x)) ∧ Fr [] W w') :
    Calls Try.prog 79 #[.slice A n cap, .func (.func fn) #[] cb] w fun e w' => e = .returned (.int .i64 (idxP p L 0)) ∧ Fr [] w w' := by
  have HP := Lib.hid hp
  have HX := Lib.hid hx
  have HN := Lib.hid hn
  have F0 : Hid (Fr [] w w) := Lib.hid (Fr.refl _ _)
  clear hp hx hn
  obtain ⟨I, HI⟩ : ∃ I, Hid (idxP p L 0 = I) := ⟨_, Lib.hid rfl⟩
  rw [HI.out]
  go_enter Try.func79, Try.ntmps79
  go_wp2_with fail
  go_loopw [5, 8] (fun i5 i8 wr => ∃ k : Nat, k ≤ n ∧ i8 = .int .i64 k ∧ Hid (Fr [] w wr) ∧ Hid (∀ y ∈ L.take k, p y = false)) (fun i5 i8 _ => n - (intOf i8).toNat)
  case atStart => exact ⟨0, Nat.zero_le _, rfl, F0, Lib.hid (by simp)⟩
  case round =>
    clear F0
    obtain ⟨k, hk, rfl, FR, HA⟩ := hrel
    by_cases hlt : k < n
    · obtain ⟨b, off, rfl, hb, hc⟩ := (HX.out.fr0 FR.out) (by rw [← HN.out]; omega)
      have hkx : k < L.length := by rw [← HN.out]; exact hlt
      have c0 := hc k hkx 0 (by decide)
      have c1 := hc k hkx 1 (by decide)
      have c2 := hc k hkx 2 (by decide)
      have c3 := hc k hkx 3 (by decide)
      have c4 := hc k hkx 4 (by decide)
      have HK := Lib.hid hkx
      cases hq : p L[k] with
      | true =>
        have HIK : Hid (I = (k : Int)) := Lib.hid (by rw [← HI.out, idxP_hit 0 k hkx HA.out hq, Nat.zero_add])
        have HQ : Hid (p L[k] = true) := Lib.hid hq
        have HC := Lib.hid (HP.out wr L[k] FR.out)
        generalize L[k] = x at c0 c1 c2 c3 c4 HC HQ hq
        clear hq
        obtain ⟨r0, r1, r2, r3, r4⟩ := x
        have d0 : wr.cell? ⟨b, off + k * 5, none⟩ = some (.int .i64 r0) := c0
        have d1 : wr.cell? ⟨b, off + k * 5 + 1, none⟩ = some (.int .i64 r1) := c1
        have d2 : wr.cell? ⟨b, off + k * 5 + 2, none⟩ = some (.int .i64 r2) := c2
        have d3 : wr.cell? ⟨b, off + k * 5 + 3, none⟩ = some (.int .i64 r3) := c3
        have d4 : wr.cell? ⟨b, off + k * 5 + 4, none⟩ = some (.int .i64 r4) := c4
        clear c0 c1 c2 c3 c4 hb hc hkx
        go_wp2_with (go_at_fn fn; refine HC.out.mono ?_; rintro e w2 ⟨rfl, f2⟩; rw [HQ.out]; have F2 := Lib.hid (FR.out.trans f2); clear f2)
        go_ret
        exact ⟨by rw [HIK.out]; rfl, F2.out⟩
      | false =>
        have HA2 : Hid (∀ y ∈ L.take (k + 1), p y = false) := Lib.hid (by
          intro y hy
          rw [List.take_succ_eq_append_getElem hkx] at hy
          rcases List.mem_append.1 hy with h1 | h1
          · exact HA.out y h1
          · rw [List.mem_singleton] at h1
            rw [h1]
            exact hq)
        have HQ : Hid (p L[k] = false) := Lib.hid hq
        have HC := Lib.hid (HP.out wr L[k] FR.out)
        generalize L[k] = x at c0 c1 c2 c3 c4 HC HQ hq
        clear hq
        obtain ⟨r0, r1, r2, r3, r4⟩ := x
        have d0 : wr.cell? ⟨b, off + k * 5, none⟩ = some (.int .i64 r0) := c0
        have d1 : wr.cell? ⟨b, off + k * 5 + 1, none⟩ = some (.int .i64 r1) := c1
        have d2 : wr.cell? ⟨b, off + k * 5 + 2, none⟩ = some (.int .i64 r2) := c2
        have d3 : wr.cell? ⟨b, off + k * 5 + 3, none⟩ = some (.int .i64 r3) := c3
        have d4 : wr.cell? ⟨b, off + k * 5 + 4, none⟩ = some (.int .i64 r4) := c4
        clear c0 c1 c2 c3 c4 hb hc hkx
        go_wp2_with (go_at_fn fn; refine HC.out.mono ?_; rintro e w2 ⟨rfl, f2⟩; rw [HQ.out]; have F2 := Lib.hid (FR.out.trans f2); clear f2)
        go_roundw
        case rel => exact ⟨k + 1, by omega, by go_num, F2, HA2⟩
        case measure => simp [intOf]; omega
    · have HIK : Hid (I = -1) := Lib.hid (by rw [← HI.out]; exact idxP_miss 0 (fun y hy => HA.out y (by rw [List.take_of_length_le (by rw [← HN.out]; omega)]; exact hy)))
      go_wp2_with fail
      go_ret
      exact ⟨by rw [HIK.out]; rfl, FR.out⟩
theorem Fr.mono0 {S : List Nat} {a b : World} (h : Fr [] a b) : Fr S a b := h.mono (by simp)
theorem reads_of_at {Y : Type} {enc : Y → List Value} {size : Nat} (henc : ∀ x, (enc x).length = size) (hp : 0 < size) {w : World} {A : Option Addr} {l : List Y} (h : AtL enc size w A l) : Reads w w.heap.size size A l.length (l.flatMap enc) := by
  refine ⟨flat_len henc l, fun hl => ?_⟩
  obtain ⟨b, off, e, hb, hc⟩ := h hl
  refine ⟨_, e, hb, fun q u hu => ?_⟩
  have hq : q < l.length * size := by
    rw [← flat_len henc l]
    exact (List.getElem?_eq_some_iff.1 hu).1
  have hq1 : q / size < l.length := by rw [Nat.div_lt_iff_lt_mul hp]; exact hq
  have h1 := hc (q / size) hq1 (q % size) (Nat.mod_lt _ hp)
  have h2 := flat_get henc l (q / size) hq1 (q % size) (Nat.mod_lt _ hp)
  have hqq : q / size * size + q % size = q := by rw [Nat.mul_comm]; exact Nat.div_add_mod q size
  rw [hqq] at h2
  have hadd : (⟨b, off, none⟩ : Addr).add q = ⟨b, off + q, none⟩ := by unfold Addr.add; split <;> simp_all
  rw [Nat.add_assoc, hqq] at h1
  rw [hadd, h1, ← h2, hu]
theorem etRowP : ∃ i0, ET Try.prog 25 57 5 40 i0 (.agg #[.int .i64 0, .int .i64 0, .int .i64 0, .int .i64 0, .int .i64 0]) := etRow
theorem rowZeros_len (m : Nat) : (Builtin.zeroCells (Value.cells (.agg #[.int .i64 0, .int .i64 0, .int .i64 0, .int .i64 0, .int .i64 0])) m).toList.length = m * 5 := by simp [Builtin.zeroCells, Value.cells]
theorem rowZeros_one (m : Nat) : ∀ v ∈ (Builtin.zeroCells (Value.cells (.agg #[.int .i64 0, .int .i64 0, .int .i64 0, .int .i64 0, .int .i64 0])) m).toList, v.oneCell' = true := by
  intro v hv
  simp only [Builtin.zeroCells, Value.cells, Array.toList_map, List.mem_map, Array.toList_range, List.mem_range] at hv
  obtain ⟨i, hi, rfl⟩ := hv
  have h2 : i % 5 < 5 := Nat.mod_lt _ (by decide)
  have h3 : i % 5 = 0 ∨ i % 5 = 1 ∨ i % 5 = 2 ∨ i % 5 = 3 ∨ i % 5 = 4 := by omega
  rcases h3 with h | h | h | h | h <;> simp [h, Value.oneCell']
set_option maxRecDepth 100000 in
theorem rowClone_any (A : Option Addr) (n cap : Nat) (L : List RowV) (w : World) (hx : AtL RowV.cells 5 w A L) (hn : n = L.length) (hl : n ≤ 100000) :
    Calls Try.prog 28 #[.slice A n cap] w fun e w' => ∃ v, e = .returned v ∧ OwnL 57 5 RowV.cells w' v L ∧ Fr [] w w' ∧ ∀ g, v.ownBlock = some g → w.heap.size ≤ g := by
  obtain ⟨i0, TR⟩ := etRowP
  have hu := TR.ht
  have hnil := Lib.run_eql_slice_nil (P := Try.prog)
  cases A with
  | none =>
    have h0 : L = [] := by
      rcases Nat.eq_zero_or_pos L.length with h | h
      · exact List.eq_nil_of_length_eq_zero h
      · obtain ⟨b, off, e, _⟩ := hx h
        cases e
    subst h0
    go_enter Try.func28, Try.ntmps28
    go_wp2
    go_ret
    exact ⟨_, rfl, OwnL.nil, Fr.refl _ _, by simp [Value.ownBlock]⟩
  | some ad =>
    have hE : OwnL 57 5 RowV.cells (w.alloc (.cells #[] 57)) (.slice (some ⟨w.heap.size, 0, none⟩) 0 0) ([] : List RowV) := ⟨rfl, .inr ⟨w.heap.size, 0, #[], rfl, Nat.zero_le _, Blk.new w 57 #[], Nat.le_refl _, by simp [maxLen], rfl, rfl⟩⟩
    have HE := Lib.hid hE
    have hR := reads_of_at RowV.cells_len (by decide) (hx.fr ((Fr.refl [] w).alloc (.cells #[] 57)) (by simp))
    rw [← hn] at hR
    have HR := Lib.hid hR
    have HL : Hid (L.length ≤ 100000) := Lib.hid (by omega)
    have HN := Lib.hid hn
    clear hE hR hx hn
    go_enter Try.func28, Try.ntmps28
    go_wp2_with (at_builtin; refine wpList_appendL rfl _ _ rfl TR RowV.cells_len RowV.cells_one rfl HE.out _ _ _ _ L rfl HN.out HR.out (by have := HL.out; simp only [maxLen, List.length_nil]; omega) (by have := HL.out; simp only [List.length_nil]; omega) ?_; intro v5 w1 hown5 hg5 hat5; have HG5 := Lib.hid hg5; have HO5 := Lib.hid hown5; have HA5 := Lib.hid hat5; clear hg5 hown5 hat5)
    go_ret
    have hg : (w.alloc (.cells #[] 57)).grownBy w1 (some w.heap.size) := HG5.out
    have ha : v5.ownBlock = some w.heap.size ∨ v5.ownBlock = some (w.alloc (.cells #[] 57)).heap.size := HA5.out
    refine ⟨v5, rfl, by simpa using HO5.out, ((Fr.refl [] w).alloc _).grown hg (fun g h => .inr (by injection h with h; omega)), fun g h => ?_⟩
    rcases ha with e | e
    · rw [h] at e
      injection e with e
      omega
    · rw [h] at e
      injection e with e
      rw [World.size_alloc] at e
      omega
set_option maxRecDepth 100000 in
set_option maxHeartbeats 8000000 in
theorem rowDel_any (fn : Nat) (cb : Array Value) (p : RowV → Bool) (A : Option Addr) (n cap : Nat) (L : List RowV) (w : World) (ho : OwnL 57 5 RowV.cells w (.slice A n cap) L) (hl : n ≤ 100000)
    (eg : ∀ args w, (callFunc fn args).run Try.prog w = .ok (.enter fn args) w)
    (hp : ∀ (W : World) (x : RowV), Fr (sliceB A) w W → Calls Try.prog fn (#[RowV.val x] ++ cb) W fun e w' => e = .returned (.bool (p x)) ∧ Fr [] W w') :
    Calls Try.prog 78 #[.slice A n cap, .func (.func fn) #[] cb] w fun e w' => ∃ m, e = .returned (.slice A m cap) ∧ OwnL 57 5 RowV.cells w' (.slice A m cap) (L.filter fun x => !p x) ∧ Fr (sliceB A) w w' := by
  have hn : n = L.length := ho.blk.1
  have hat := ho.at1 RowV.cells_len
  have HIX := Lib.hid (rowIdx_any fn cb p A n cap L w hat.1 hn hl eg (fun W x hf => hp W x (hf.mono (by simp))))
  rcases first_or p L with hall | ⟨k, hk, hbefore, hit⟩
  · have HM : Hid (idxP p L 0 = -1) := Lib.hid (idxP_miss 0 hall)
    have HF : Hid (L.filter (fun x => !p x) = L) := Lib.hid (List.filter_eq_self.2 (fun x hx => by rw [hall x hx]; rfl))
    have HO := Lib.hid ho
    clear ho hall hp hat hn
    go_enter Try.func78, Try.ntmps78
    go_wp2_with (go_at_call 79; refine HIX.out.mono ?_; rintro e w1 ⟨rfl, f1⟩; rw [HM.out]; have F1 := Lib.hid f1; clear f1)
    go_ret
    exact ⟨n, rfl, by rw [HF.out]; exact HO.out.fr F1.out (by simp), F1.out.mono (by simp)⟩
  · obtain ⟨-, h0 | ⟨g, cur0, rfl, hb0, hnc, hcm, -, -⟩⟩ := ho.blk
    · rw [h0.2.1] at hk
      simp at hk
    have HM : Hid (idxP p L 0 = (k : Int)) := Lib.hid (by rw [idxP_hit 0 k hk hbefore hit, Nat.zero_add])
    have hcm63 : cap ≤ 9223372036854775807 := by unfold maxLen at hcm; omega
    have HFk : Hid ((L.take (k + 1)).filter (fun x => !p x) = L.take k) := Lib.hid (by
      rw [List.take_succ_eq_append_getElem hk, List.filter_append, List.filter_eq_self.2 (fun x hx => by rw [hbefore x hx]; rfl)]
      simp [hit])
    have HO := Lib.hid ho
    have HP := Lib.hid hp
    have HN := Lib.hid hn
    have HKN : Hid (k < L.length) := Lib.hid hk
    have HL := Lib.hid hl
    have hkn : k < n := by omega
    have hke : ((k : Int) == -1) = false := beq_eq_false_iff_ne.2 (by omega)
    clear ho hp hn hbefore hit hk hat hb0
    go_enter Try.func78, Try.ntmps78
    go_wp2_with (go_at_call 79; refine HIX.out.mono ?_; rintro e w1 ⟨rfl, f1⟩; rw [HM.out]; have F1 := Lib.hid f1; have HO1 := Lib.hid (HO.out.fr f1 (by simp)); clear f1)
    go_loopw [5, 6, 7] (fun s5 s6 s7 wr => ∃ (i j : Nat) (R : List RowV), i < j ∧ j ≤ n ∧ s5 = .int .i64 i ∧ s6 = .int .i64 j ∧ Hid (R.length = n ∧ R.take i = (L.take j).filter (fun x => !p x) ∧ R.drop j = L.drop j) ∧ Hid (OwnL 57 5 RowV.cells wr (.slice (some ⟨g, 0, none⟩) n cap) R) ∧ Hid (Fr [g] w wr)) (fun s5 s6 s7 _ => n - (intOf s6).toNat)
    case atStart => exact ⟨k, k + 1, L, by omega, by omega, rfl, by go_num, Lib.hid ⟨HN.out.symm, HFk.out.symm, rfl⟩, HO1, Lib.hid (F1.out.mono (by simp))⟩
    case round =>
      clear HO1 F1 HIX HM
      obtain ⟨i, j, R, hij, hj, rfl, rfl, HR, HO2, F2⟩ := hrel
      by_cases hlt : j < n
      · have hjR : j < R.length := by rw [HR.out.1]; exact hlt
        have hjL : j < L.length := by rw [← HN.out]; exact hlt
        have hRL : R[j] = L[j] := by
          have h1 := congrArg (fun l => l[0]?) HR.out.2.2
          simp only [List.getElem?_drop, Nat.add_zero] at h1
          rw [List.getElem?_eq_getElem hjR, List.getElem?_eq_getElem hjL] at h1
          injection h1
        have hDR : R.drop (j + 1) = L.drop (j + 1) := by rw [← List.drop_drop, ← List.drop_drop, HR.out.2.2]
        obtain ⟨g', cap', hv, -, -, hgl, hc, -⟩ := HO2.out.form RowV.cells_len (by omega)
        injection hv with hv1 hv2 hv3
        injection hv1 with hv1
        injection hv1 with hv1
        subst hv1
        clear hv2 hv3
        have c0 := hc j hjR 0 (by decide)
        have c1 := hc j hjR 1 (by decide)
        have c2 := hc j hjR 2 (by decide)
        have c3 := hc j hjR 3 (by decide)
        have c4 := hc j hjR 4 (by decide)
        have HC := Lib.hid (HP.out)
        have HTK : Hid (L.take (j + 1) = L.take j ++ [R[j]]) := Lib.hid (by rw [hRL, List.take_succ_eq_append_getElem hjL])
        have HDR := Lib.hid hDR
        have HIJ := Lib.hid hij
        have HGL := Lib.hid hgl
        clear hRL hDR hc hgl
        generalize R[j] = x at c0 c1 c2 c3 c4 HTK
        obtain ⟨pv, hpv⟩ : ∃ b, p x = b := ⟨_, rfl⟩
        have HQ := Lib.hid hpv
        clear hpv
        obtain ⟨r0, r1, r2, r3, r4⟩ := x
        have d0 : wr.cell? ⟨g, j * 5, none⟩ = some (.int .i64 r0) := c0
        have d1 : wr.cell? ⟨g, j * 5 + 1, none⟩ = some (.int .i64 r1) := c1
        have d2 : wr.cell? ⟨g, j * 5 + 2, none⟩ = some (.int .i64 r2) := c2
        have d3 : wr.cell? ⟨g, j * 5 + 3, none⟩ = some (.int .i64 r3) := c3
        have d4 : wr.cell? ⟨g, j * 5 + 4, none⟩ = some (.int .i64 r4) := c4
        clear c0 c1 c2 c3 c4 hjR hjL
        have HB : Hid (OwnL 57 5 RowV.cells (wr.alloc (.cells #[.int .i64 r0, .int .i64 r1, .int .i64 r2, .int .i64 r3, .int .i64 r4] 57)) (.slice (some ⟨g, 0, none⟩) n cap) R) := Lib.hid (HO2.out.fr ((Fr.refl [] _).alloc _) (by simp))
        have FB : Hid (Fr [g] w (wr.alloc (.cells #[.int .i64 r0, .int .i64 r1, .int .i64 r2, .int .i64 r3, .int .i64 r4] 57))) := Lib.hid (F2.out.alloc _)
        have hbn := Blk.new wr 57 #[.int .i64 r0, .int .i64 r1, .int .i64 r2, .int .i64 r3, .int .i64 r4]
        have HBN := Lib.hid hbn
        have hil : (i : Int) < (n : Int) := by omega
        have hin : i < n := by omega
        have h0i : (0 : Int) ≤ (i : Int) := by omega
        cases pv with
        | true =>
          go_wp2_with (go_at_fn fn; refine (HC.out _ (⟨r0, r1, r2, r3, r4⟩ : RowV) (FB.out.mono (by simp [sliceB]))).mono ?_; rintro e w2 ⟨rfl, f2⟩; rw [HQ.out]; have FB2 := Lib.hid (FB.out.trans f2.mono0); have HB2 := Lib.hid (HB.out.fr f2 (by simp)); clear f2)
          go_roundw
          case rel => exact ⟨i, j + 1, R, by omega, by omega, rfl, by go_num, Lib.hid ⟨HR.out.1, by rw [HTK.out, List.filter_append, HR.out.2.1]; simp [HQ.out], HDR.out⟩, HB2, FB2⟩
          case measure => simp [intOf]; omega
        | false =>
          go_wp2_with (first
            | (go_at_fn fn; refine (HC.out _ (⟨r0, r1, r2, r3, r4⟩ : RowV) (FB.out.mono (by simp [sliceB]))).mono ?_; rintro e w2 ⟨rfl, f2⟩; rw [HQ.out]; have FB2 := Lib.hid (FB.out.trans f2.mono0); have HB2 := Lib.hid (HB.out.fr f2 (by simp)); have hbn2 := HBN.out.fr f2 (by simp); have HBN2 := Lib.hid hbn2; have e0 : w2.cell? ⟨wr.heap.size, 0, none⟩ = some (.int .i64 r0) := hbn2.cell 0; have e1 : w2.cell? ⟨wr.heap.size, 1, none⟩ = some (.int .i64 r1) := hbn2.cell 1; have e2 : w2.cell? ⟨wr.heap.size, 2, none⟩ = some (.int .i64 r2) := hbn2.cell 2; have e3 : w2.cell? ⟨wr.heap.size, 3, none⟩ = some (.int .i64 r3) := hbn2.cell 3; have e4 : w2.cell? ⟨wr.heap.size, 4, none⟩ = some (.int .i64 r4) := hbn2.cell 4; clear f2 hbn2)
            | (refine wpList_store_own rfl _ _ _ rfl g (i * 5) #[.int .i64 r0, .int .i64 r1, .int .i64 r2, .int .i64 r3, .int .i64 r4] rfl rfl i n cap (⟨r0, r1, r2, r3, r4⟩ : RowV) HB2.out RowV.cells_len RowV.cells_one hin rfl rfl (by kernel_rfl) ?_
               intro w3 hb3 hf3
               have HB3 := Lib.hid hb3
               have FB3 := Lib.hid (FB2.out.trans hf3)
               clear hb3 hf3))
          go_roundw
          case rel =>
            refine ⟨i + 1, j + 1, R.set i (⟨r0, r1, r2, r3, r4⟩ : RowV), by omega, by omega, by go_num, by go_num, Lib.hid ⟨by rw [List.length_set]; exact HR.out.1, ?_, ?_⟩, HB3, FB3⟩
            · rw [HTK.out, List.filter_append, ← HR.out.2.1, List.take_succ_eq_append_getElem (by rw [List.length_set, HR.out.1]; omega)]
              rw [List.take_set, List.set_eq_of_length_le (by rw [List.length_take]; exact Nat.min_le_left _ _)]
              simp [HQ.out]
            · rw [List.drop_set_of_lt (by omega)]
              exact HDR.out
          case measure => simp [intOf]; omega
      · have hjn : j = n := by omega
        subst hjn
        have HFF : Hid (R.take i = L.filter (fun x => !p x)) := Lib.hid (by rw [HR.out.2.1, List.take_of_length_le (by rw [← HN.out]; exact Nat.le_refl _)])
        have hci : ¬ cap = i := by omega
        have hin : (i : Int) ≤ (j : Int) := by omega
        obtain ⟨-, h9 | ⟨g9, cur9, h91, hb9, hnc9, hcm9, hs9, ht9⟩⟩ := HO2.out.blk
        · cases h9.1
        · injection h91 with h91
          injection h91 with h91
          subst h91
          have hz := rowZeros_len (j - i)
          have hcl : ∀ ty, (Builtin.clear_ #[25] ty #[.slice (some ⟨g, i * 5, none⟩) (j - i) (cap - i)]).run Try.prog wr = .ok (.tuple #[]) (wr.setCells g (i * 5) (Builtin.zeroCells (Value.cells (.agg #[.int .i64 0, .int .i64 0, .int .i64 0, .int .i64 0, .int .i64 0])) (j - i)).toList) := fun ty =>
            run_clear_put wr 25 57 ty (.agg #[.int .i64 0, .int .i64 0, .int .i64 0, .int .i64 0, .int .i64 0]) Try.underlying25 (fun w => by kernel_rfl) g (i * 5) (j - i) (cap - i) 57 cur9 (by omega) hb9 5 hz (rowZeros_one _) (by rw [hs9]; omega)
          have HT3 : Hid (OwnL 57 5 RowV.cells (wr.setCells g (i * 5) (Builtin.zeroCells (Value.cells (.agg #[.int .i64 0, .int .i64 0, .int .i64 0, .int .i64 0, .int .i64 0])) (j - i)).toList) (.slice (some ⟨g, 0, none⟩) i cap) (R.take i)) := Lib.hid (HO2.out.tail RowV.cells_len (by omega) _ (Nat.le_refl _) (by rw [hz]; omega))
          have F3 : Hid (Fr [g] w (wr.setCells g (i * 5) (Builtin.zeroCells (Value.cells (.agg #[.int .i64 0, .int .i64 0, .int .i64 0, .int .i64 0, .int .i64 0])) (j - i)).toList)) := Lib.hid (Fr.puts _ _ F2.out (.inl (by simp)))
          generalize wr.setCells g (i * 5) (Builtin.zeroCells (Value.cells (.agg #[.int .i64 0, .int .i64 0, .int .i64 0, .int .i64 0, .int .i64 0])) (j - i)).toList = w3 at *
          clear hb9 hs9 ht9 hz
          go_wp2_with fail
          go_ret
          exact ⟨i, rfl, by rw [← HFF.out]; exact HT3.out, F3.out.mono (by simp [sliceB])⟩
end Go.Proofs.Ytjiikpmkedkbkaa
