/-
  SameRows: rows compared.
-/
import Derived.Test.YtciaallekkdnhaaGreatJi
import Derived.Test.YtciaallekkdnhaaGreatJe
import Derived.Test.YtciaallekkdnhaaGreatJc
import Derived.Test.YtciaallekkdnhaaGreatJj
import Derived.Test.YtciaallekkdnhaaGreatJd
import Derived.Shelf.Abstract
import Derived.Deep.DeepCutAuto
import Derived.WalkSpells
import Derived.OwnWalk
import Derived.Lib.SliceRun
import Derived.Test.YtciaallekkdnhaaGreatJb
import Derived.Test.YtciaallekkdnhaaGreatJa
import Derived.OpenShut
import Derived.Deep.Slices
import Derived.Deep.QuietTactic
namespace Go.Proofs.YtciaallekkdnhaaGreat
open Go.RowKit

/-- The value of a column: the row is boxed. -/
theorem value_any (r : RowV) (c : Int) (w : World) : Calls Tryz.prog 66 #[r.val, .int .i64 c] w fun e w' => e = .returned (.int .i64 (r.value c)) ∧ w' = w.alloc (.cells r.cells.toArray 116) := by
  obtain ⟨t, k, x, y, z⟩ := r
  unfold RowV.val
  dsimp only
  by_cases h0 : c = 0
  · subst h0
    go_enter Tryz.func66, Tryz.ntmps66
    go_wp2
    go_ret
    exact ⟨rfl, rfl⟩
  by_cases h1 : c = 1
  · subst h1
    go_enter Tryz.func66, Tryz.ntmps66
    go_wp2
    go_ret
    exact ⟨rfl, rfl⟩
  by_cases h2 : c = 2
  · subst h2
    go_enter Tryz.func66, Tryz.ntmps66
    go_wp2
    go_ret
    exact ⟨rfl, rfl⟩
  by_cases h3 : c = 3
  · subst h3
    go_enter Tryz.func66, Tryz.ntmps66
    go_wp2
    go_ret
    exact ⟨rfl, rfl⟩
  have HV : Hid (RowV.value ⟨t, k, x, y, z⟩ c = 0) := Lib.hid (by simp [RowV.value, h0, h1, h2, h3])
  have g0 : (c == 0) = false := by simpa using h0
  have g1 : (c == 1) = false := by simpa using h1
  have g2 : (c == 2) = false := by simpa using h2
  have g3 : (c == 3) = false := by simpa using h3
  clear h0 h1 h2 h3
  go_enter Tryz.func66, Tryz.ntmps66
  go_wp2
  go_ret
  exact ⟨by rw [HV.out]; rfl, rfl⟩
theorem isNaN_any (x : Int) (w : World) : Calls Tryz.prog 134 #[.int .i64 x] w fun e w' => e = .returned (.bool false) ∧ w' = w := by
  go_enter Tryz.func134, Tryz.ntmps134
  go_wp2
  go_ret
  exact ⟨by simp, rfl⟩
/-- 'cmp.Compare'. -/
def cmpI (x y : Int) : Int := if x < y then -1 else if y < x then 1 else 0
theorem compare_any (x y : Int) (w : World) : Calls Tryz.prog 110 #[.int .i64 x, .int .i64 y] w fun e w' => e = .returned (.int .i64 (cmpI x y)) ∧ w' = w := by
  have HN := Lib.hid isNaN_any
  have HC : Hid (cmpI x y = if x < y then -1 else if y < x then 1 else 0) := Lib.hid rfl
  by_cases h1 : x < y
  · have HC2 : Hid (cmpI x y = -1) := Lib.hid (by rw [HC.out, if_pos h1])
    go_enter Tryz.func110, Tryz.ntmps110
    go_wp2_with (go_at_call 134; refine (HN.out _ _).mono ?_; rintro e w' ⟨rfl, rfl⟩)
    go_ret
    exact ⟨by rw [HC2.out]; rfl, rfl⟩
  by_cases h2 : y < x
  · have HC2 : Hid (cmpI x y = 1) := Lib.hid (by rw [HC.out, if_neg h1, if_pos h2])
    go_enter Tryz.func110, Tryz.ntmps110
    go_wp2_with (go_at_call 134; refine (HN.out _ _).mono ?_; rintro e w' ⟨rfl, rfl⟩)
    go_ret
    exact ⟨by rw [HC2.out]; rfl, rfl⟩
  have HC2 : Hid (cmpI x y = 0) := Lib.hid (by rw [HC.out, if_neg h1, if_neg h2])
  go_enter Tryz.func110, Tryz.ntmps110
  go_wp2_with (go_at_call 134; refine (HN.out _ _).mono ?_; rintro e w' ⟨rfl, rfl⟩)
  go_ret
  exact ⟨by rw [HC2.out]; rfl, rfl⟩
/-- 'cmp.Or' of two. -/
theorem or_any (x y : Int) (b cap : Nat) (w : World) (h0 : w.cell? ⟨b, 0, none⟩ = some (.int .i64 x)) (h1 : w.cell? ⟨b, 1, none⟩ = some (.int .i64 y)) :
    Calls Tryz.prog 131 #[.slice (some ⟨b, 0, none⟩) 2 cap] w fun e w' => e = .returned (.int .i64 (if x = 0 then y else x)) ∧ w' = w := by
  by_cases hx : x = 0
  · subst hx
    by_cases hy : y = 0
    · subst hy
      go_enter Tryz.func131, Tryz.ntmps131
      go_wp2_with fail
      refine wp_loop_rounds 3 ?_
      rw [rounds_succ]
      go_wp2_with fail
      (try (rw [rounds_succ]; go_wp2_with fail))
      (try (rw [rounds_succ]; go_wp2_with fail))
      go_ret
      exact ⟨by simp, rfl⟩
    · have hy' : (y != 0) = true := by simpa using hy
      have HY := Lib.hid hy
      clear hy
      go_enter Tryz.func131, Tryz.ntmps131
      go_wp2_with fail
      refine wp_loop_rounds 3 ?_
      rw [rounds_succ]
      go_wp2_with fail
      (try (rw [rounds_succ]; go_wp2_with fail))
      go_ret
      exact ⟨by simp, rfl⟩
  · have hx' : (x != 0) = true := by simpa using hx
    have HX := Lib.hid hx
    clear hx
    go_enter Tryz.func131, Tryz.ntmps131
    go_wp2_with fail
    refine wp_loop_rounds 3 ?_
    rw [rounds_succ]
    go_wp2_with fail
    go_ret
    exact ⟨rfl, rfl⟩
end Go.Proofs.YtciaallekkdnhaaGreat
namespace Go.Proofs.YtciaallekkdnhaaGreat
open Go

/-- The marks of ranges that are over. -/
structure Marks (B : Nat) (ds : List Deferred) (Ds : List Nat) (W : World) : Prop where
  eq : ds = Ds.map fun D => { target := .collected D, args := #[] }
  nd : Ds.Pairwise (· ≠ ·)
  low : ∀ D ∈ Ds, B ≤ D
  at_ : ∀ D ∈ Ds, W.heap[D]? = some (.deferred (some []))
theorem Marks.nil {B : Nat} {W : World} : Marks B [] [] W := ⟨rfl, .nil, by simp, by simp⟩
theorem Marks.lt {B : Nat} {ds : List Deferred} {Ds : List Nat} {W : World} (h : Marks B ds Ds W) {D : Nat} (hD : D ∈ Ds) : D < W.heap.size := (Array.getElem?_eq_some_iff.1 (h.at_ D hD)).1
theorem Marks.fr {B : Nat} {ds : List Deferred} {Ds S : List Nat} {W W' : World} (h : Marks B ds Ds W) (hf : Fr S W W') (hS : ∀ D ∈ Ds, D ∉ S) : Marks B ds Ds W' :=
  ⟨h.eq, h.nd, h.low, fun D hD => (hf.block D (h.lt hD) (hS D hD)).trans (h.at_ D hD)⟩
theorem Marks.cons {B D : Nat} {ds : List Deferred} {Ds : List Nat} {W : World} (h : Marks B ds Ds W) (hD : W.heap[D]? = some (.deferred (some []))) (hB : B ≤ D) (hn : D ∉ Ds) : Marks B ({ target := .collected D, args := #[] } :: ds) (D :: Ds) W :=
  ⟨by rw [h.eq]; rfl, List.pairwise_cons.2 ⟨fun x hx e => hn (e ▸ hx), h.nd⟩, fun x hx => by
    rcases List.mem_cons.1 hx with rfl | hx
    · exact hB
    · exact h.low x hx, fun x hx => by
    rcases List.mem_cons.1 hx with rfl | hx
    · exact hD
    · exact h.at_ x hx⟩
theorem Marks.leaves {F : Fence} {n : Nat} {P : Program} {fn : Func} {tmps : Array Value} {R : Ending → World → Prop} {B : Nat} : ∀ (Ds : List Nat) (ds : List Deferred) (W : World), Marks B ds Ds W → (∀ W', Fr Ds W W' → LeavesIn F n P fn tmps R [] .returning W') → LeavesInM F n P fn tmps R ds .returning W
  | [], ds, W, h, hR => by
    have := h.eq
    subst this
    exact hR W (Fr.refl _ _)
  | D :: Ds, ds, W, h, hR => by
    have e := h.eq
    subst e
    refine ⟨by simp, .inl ⟨D, _, rfl, run_takeDeferred (h.at_ D (by simp)), ?_⟩⟩
    have f1 : Fr [D] W (W.putObj D (.deferred none)) := putObj_own _
    obtain ⟨n1, n2⟩ := List.pairwise_cons.1 h.nd
    refine Marks.leaves (B := B) Ds _ _ ⟨rfl, n2, fun x hx => h.low x (List.mem_cons_of_mem _ hx), fun x hx => (f1.block x (h.lt (List.mem_cons_of_mem _ hx)) (by simpa using Ne.symm (n1 x hx))).trans (h.at_ x (List.mem_cons_of_mem _ hx))⟩ (fun W' hf => hR W' ?_)
    exact (f1.mono (by simp)).trans (hf.mono (fun x hx => .inl (List.mem_cons_of_mem _ hx)))
end Go.Proofs.YtciaallekkdnhaaGreat
namespace Go.Proofs.YtciaallekkdnhaaGreat
open Go.RowKit

abbrev PairV := RowV × RowV
@[reducible] def PairV.cells (p : PairV) : List Value := [.int .i64 p.1.t, .int .i64 p.1.k, .int .i64 p.1.x, .int .i64 p.1.y, .int .i64 p.1.z, .int .i64 p.2.t, .int .i64 p.2.k, .int .i64 p.2.x, .int .i64 p.2.y, .int .i64 p.2.z]
@[reducible] def PairV.val (p : PairV) : Value := .agg #[.int .i64 p.1.t, .int .i64 p.1.k, .int .i64 p.1.x, .int .i64 p.1.y, .int .i64 p.1.z, .int .i64 p.2.t, .int .i64 p.2.k, .int .i64 p.2.x, .int .i64 p.2.y, .int .i64 p.2.z]
theorem PairV.cells_len (p : PairV) : p.cells.length = 10 := rfl
theorem PairV.cells_one (p : PairV) : ∀ v ∈ p.cells, v.oneCell' = true := by
  intro v hv
  simp only [PairV.cells, List.mem_cons, List.not_mem_nil, or_false] at hv
  rcases hv with rfl | rfl | rfl | rfl | rfl | rfl | rfl | rfl | rfl | rfl <;> rfl
set_option maxRecDepth 100000 in
set_option maxHeartbeats 2000000 in
theorem pairIdx_any (fn : Nat) (cb : Array Value) (p : PairV → Bool) (A : Option Addr) (n cap : Nat) (L : List PairV) (w : World) (hx : AtL PairV.cells 10 w A L) (hn : n = L.length) (hl : n ≤ 100000)
    (eg : ∀ args w, (callFunc fn args).run Tryz.prog w = .ok (.enter fn args) w)
    (hp : ∀ (W : World) (x : PairV), Fr [] w W → Calls Tryz.prog fn (#[PairV.val x] ++ cb) W fun e w' => e = .returned (.bool (p x)) ∧ Fr [] W w') :
    Calls Tryz.prog 154 #[.slice A n cap, .func (.func fn) #[] cb] w fun e w' => e = .returned (.int .i64 (idxP p L 0)) ∧ Fr [] w w' := by
  have HP := Lib.hid hp
  have HX := Lib.hid hx
  have HN := Lib.hid hn
  have F0 : Hid (Fr [] w w) := Lib.hid (Fr.refl _ _)
  clear hp hx hn
  obtain ⟨I, HI⟩ : ∃ I, Hid (idxP p L 0 = I) := ⟨_, Lib.hid rfl⟩
  rw [HI.out]
  go_enter Tryz.func154, Tryz.ntmps154
  go_wp2_with fail
  go_loopw [5, 8] (fun i5 i8 wr => ∃ k : Nat, k ≤ n ∧ i8 = .int .i64 k ∧ Hid (Fr [] w wr) ∧ Hid (∀ y ∈ L.take k, p y = false)) (fun i5 i8 _ => n - (intOf i8).toNat)
  case atStart => exact ⟨0, Nat.zero_le _, rfl, F0, Lib.hid (by simp)⟩
  case round =>
    clear F0
    obtain ⟨k, hk, rfl, FR, HA⟩ := hrel
    by_cases hlt : k < n
    · obtain ⟨b, off, rfl, hb, hc⟩ := (HX.out.fr0 FR.out) (by rw [← HN.out]; omega)
      have hkx : k < L.length := by rw [← HN.out]; exact hlt
      have c0 := hc k hkx 0 (by decide)
      have c1 := hc k hkx 1 (by decide)
      have c2 := hc k hkx 2 (by decide)
      have c3 := hc k hkx 3 (by decide)
      have c4 := hc k hkx 4 (by decide)
      have c5 := hc k hkx 5 (by decide)
      have c6 := hc k hkx 6 (by decide)
      have c7 := hc k hkx 7 (by decide)
      have c8 := hc k hkx 8 (by decide)
      have c9 := hc k hkx 9 (by decide)
      have HK := Lib.hid hkx
      cases hq : p L[k] with
      | true =>
        have HIK : Hid (I = (k : Int)) := Lib.hid (by rw [← HI.out, idxP_hit 0 k hkx HA.out hq, Nat.zero_add])
        have HQ : Hid (p L[k] = true) := Lib.hid hq
        have HC := Lib.hid (HP.out wr L[k] FR.out)
        generalize L[k] = x at c0 c1 c2 c3 c4 c5 c6 c7 c8 c9 HC HQ hq
        clear hq
        obtain ⟨⟨r0, r1, r2, r3, r4⟩, ⟨r5, r6, r7, r8, r9⟩⟩ := x
        have d0 : wr.cell? ⟨b, off + k * 10, none⟩ = some (.int .i64 r0) := c0
        have d1 : wr.cell? ⟨b, off + k * 10 + 1, none⟩ = some (.int .i64 r1) := c1
        have d2 : wr.cell? ⟨b, off + k * 10 + 2, none⟩ = some (.int .i64 r2) := c2
        have d3 : wr.cell? ⟨b, off + k * 10 + 3, none⟩ = some (.int .i64 r3) := c3
        have d4 : wr.cell? ⟨b, off + k * 10 + 4, none⟩ = some (.int .i64 r4) := c4
        have d5 : wr.cell? ⟨b, off + k * 10 + 5, none⟩ = some (.int .i64 r5) := c5
        have d6 : wr.cell? ⟨b, off + k * 10 + 6, none⟩ = some (.int .i64 r6) := c6
        have d7 : wr.cell? ⟨b, off + k * 10 + 7, none⟩ = some (.int .i64 r7) := c7
        have d8 : wr.cell? ⟨b, off + k * 10 + 8, none⟩ = some (.int .i64 r8) := c8
        have d9 : wr.cell? ⟨b, off + k * 10 + 9, none⟩ = some (.int .i64 r9) := c9
        clear c0 c1 c2 c3 c4 c5 c6 c7 c8 c9 hb hc hkx
        go_wp2_with (go_at_fn fn; refine HC.out.mono ?_; rintro e w2 ⟨rfl, f2⟩; rw [HQ.out]; have F2 := Lib.hid (FR.out.trans f2); clear f2)
        go_ret
        exact ⟨by rw [HIK.out]; rfl, F2.out⟩
      | false =>
        have HA2 : Hid (∀ y ∈ L.take (k + 1), p y = false) := Lib.hid (by
          intro y hy
          rw [List.take_succ_eq_append_getElem hkx] at hy
          rcases List.mem_append.1 hy with h1 | h1
          · exact HA.out y h1
          · rw [List.mem_singleton] at h1
            rw [h1]
            exact hq)
        have HQ : Hid (p L[k] = false) := Lib.hid hq
        have HC := Lib.hid (HP.out wr L[k] FR.out)
        generalize L[k] = x at c0 c1 c2 c3 c4 c5 c6 c7 c8 c9 HC HQ hq
        clear hq
        obtain ⟨⟨r0, r1, r2, r3, r4⟩, ⟨r5, r6, r7, r8, r9⟩⟩ := x
        have d0 : wr.cell? ⟨b, off + k * 10, none⟩ = some (.int .i64 r0) := c0
        have d1 : wr.cell? ⟨b, off + k * 10 + 1, none⟩ = some (.int .i64 r1) := c1
        have d2 : wr.cell? ⟨b, off + k * 10 + 2, none⟩ = some (.int .i64 r2) := c2
        have d3 : wr.cell? ⟨b, off + k * 10 + 3, none⟩ = some (.int .i64 r3) := c3
        have d4 : wr.cell? ⟨b, off + k * 10 + 4, none⟩ = some (.int .i64 r4) := c4
        have d5 : wr.cell? ⟨b, off + k * 10 + 5, none⟩ = some (.int .i64 r5) := c5
        have d6 : wr.cell? ⟨b, off + k * 10 + 6, none⟩ = some (.int .i64 r6) := c6
        have d7 : wr.cell? ⟨b, off + k * 10 + 7, none⟩ = some (.int .i64 r7) := c7
        have d8 : wr.cell? ⟨b, off + k * 10 + 8, none⟩ = some (.int .i64 r8) := c8
        have d9 : wr.cell? ⟨b, off + k * 10 + 9, none⟩ = some (.int .i64 r9) := c9
        clear c0 c1 c2 c3 c4 c5 c6 c7 c8 c9 hb hc hkx
        go_wp2_with (go_at_fn fn; refine HC.out.mono ?_; rintro e w2 ⟨rfl, f2⟩; rw [HQ.out]; have F2 := Lib.hid (FR.out.trans f2); clear f2)
        go_roundw
        case rel => exact ⟨k + 1, by omega, by go_num, F2, HA2⟩
        case measure => simp [intOf]; omega
    · have HIK : Hid (I = -1) := Lib.hid (by rw [← HI.out]; exact idxP_miss 0 (fun y hy => HA.out y (by rw [List.take_of_length_le (by rw [← HN.out]; omega)]; exact hy)))
      go_wp2_with fail
      go_ret
      exact ⟨by rw [HIK.out]; rfl, FR.out⟩
theorem infoPair : (Tryz.prog.info? 187).map (fun i => (i.zero, i.size, i.bytes)) = some (some (.agg #[.int .i64 0, .int .i64 0, .int .i64 0, .int .i64 0, .int .i64 0, .int .i64 0, .int .i64 0, .int .i64 0, .int .i64 0, .int .i64 0]), 10, 80) := by kernel_rfl
theorem etPairP : ∃ i0, ET Tryz.prog 185 187 10 80 i0 (.agg #[.int .i64 0, .int .i64 0, .int .i64 0, .int .i64 0, .int .i64 0, .int .i64 0, .int .i64 0, .int .i64 0, .int .i64 0, .int .i64 0]) := by
  obtain ⟨i0, hi, hz0, hz1, hz2⟩ := info_parts infoPair
  exact ⟨i0, Tryz.underlying185, hi, hz0, hz1, hz2, rfl, by decide⟩
theorem pairZeros_len (m : Nat) : (Builtin.zeroCells (Value.cells (.agg #[.int .i64 0, .int .i64 0, .int .i64 0, .int .i64 0, .int .i64 0, .int .i64 0, .int .i64 0, .int .i64 0, .int .i64 0, .int .i64 0])) m).toList.length = m * 10 := by simp [Builtin.zeroCells, Value.cells]
theorem pairZeros_one (m : Nat) : ∀ v ∈ (Builtin.zeroCells (Value.cells (.agg #[.int .i64 0, .int .i64 0, .int .i64 0, .int .i64 0, .int .i64 0, .int .i64 0, .int .i64 0, .int .i64 0, .int .i64 0, .int .i64 0])) m).toList, v.oneCell' = true := by
  intro v hv
  simp only [Builtin.zeroCells, Value.cells, Array.toList_map, List.mem_map, Array.toList_range, List.mem_range] at hv
  obtain ⟨i, hi, rfl⟩ := hv
  have h2 : i % 10 < 10 := Nat.mod_lt _ (by decide)
  have h3 : i % 10 = 0 ∨ i % 10 = 1 ∨ i % 10 = 2 ∨ i % 10 = 3 ∨ i % 10 = 4 ∨ i % 10 = 5 ∨ i % 10 = 6 ∨ i % 10 = 7 ∨ i % 10 = 8 ∨ i % 10 = 9 := by omega
  rcases h3 with h | h | h | h | h | h | h | h | h | h <;> simp [h, Value.oneCell']
set_option maxRecDepth 100000 in
theorem pairClone_any (A : Option Addr) (n cap : Nat) (L : List PairV) (w : World) (hx : AtL PairV.cells 10 w A L) (hn : n = L.length) (hl : n ≤ 100000) :
    Calls Tryz.prog 177 #[.slice A n cap] w fun e w' => ∃ v, e = .returned v ∧ OwnL 187 10 PairV.cells w' v L ∧ Fr [] w w' ∧ ∀ g, v.ownBlock = some g → w.heap.size ≤ g := by
  obtain ⟨i0, TR⟩ := etPairP
  have hu := TR.ht
  have hnil := Lib.run_eql_slice_nil (P := Tryz.prog)
  cases A with
  | none =>
    have h0 : L = [] := by
      rcases Nat.eq_zero_or_pos L.length with h | h
      · exact List.eq_nil_of_length_eq_zero h
      · obtain ⟨b, off, e, _⟩ := hx h
        cases e
    subst h0
    go_enter Tryz.func177, Tryz.ntmps177
    go_wp2
    go_ret
    exact ⟨_, rfl, OwnL.nil, Fr.refl _ _, by simp [Value.ownBlock]⟩
  | some ad =>
    have hE : OwnL 187 10 PairV.cells (w.alloc (.cells #[] 187)) (.slice (some ⟨w.heap.size, 0, none⟩) 0 0) ([] : List PairV) := ⟨rfl, .inr ⟨w.heap.size, 0, #[], rfl, Nat.zero_le _, Blk.new w 187 #[], Nat.le_refl _, by simp [maxLen], rfl, rfl⟩⟩
    have HE := Lib.hid hE
    have hR := reads_of_at PairV.cells_len (by decide) (hx.fr ((Fr.refl [] w).alloc (.cells #[] 187)) (by simp))
    rw [← hn] at hR
    have HR := Lib.hid hR
    have HL : Hid (L.length ≤ 100000) := Lib.hid (by omega)
    have HN := Lib.hid hn
    clear hE hR hx hn
    go_enter Tryz.func177, Tryz.ntmps177
    go_wp2_with (at_builtin; refine wpList_appendL rfl _ _ rfl TR PairV.cells_len PairV.cells_one rfl HE.out _ _ _ _ L rfl HN.out HR.out (by have := HL.out; simp only [maxLen, List.length_nil]; omega) (by have := HL.out; simp only [List.length_nil]; omega) ?_; intro v5 w1 hown5 hg5 hat5; have HG5 := Lib.hid hg5; have HO5 := Lib.hid hown5; have HA5 := Lib.hid hat5; clear hg5 hown5 hat5)
    go_ret
    have hg : (w.alloc (.cells #[] 187)).grownBy w1 (some w.heap.size) := HG5.out
    have ha : v5.ownBlock = some w.heap.size ∨ v5.ownBlock = some (w.alloc (.cells #[] 187)).heap.size := HA5.out
    refine ⟨v5, rfl, by simpa using HO5.out, ((Fr.refl [] w).alloc _).grown hg (fun g h => .inr (by injection h with h; omega)), fun g h => ?_⟩
    rcases ha with e | e
    · rw [h] at e
      injection e with e
      omega
    · rw [h] at e
      injection e with e
      rw [World.size_alloc] at e
      omega
set_option maxRecDepth 100000 in
set_option maxHeartbeats 8000000 in
theorem pairDel_any (fn : Nat) (cb : Array Value) (p : PairV → Bool) (A : Option Addr) (n cap : Nat) (L : List PairV) (w : World) (ho : OwnL 187 10 PairV.cells w (.slice A n cap) L) (hl : n ≤ 100000)
    (eg : ∀ args w, (callFunc fn args).run Tryz.prog w = .ok (.enter fn args) w)
    (hp : ∀ (W : World) (x : PairV), Fr (sliceB A) w W → Calls Tryz.prog fn (#[PairV.val x] ++ cb) W fun e w' => e = .returned (.bool (p x)) ∧ Fr [] W w') :
    Calls Tryz.prog 176 #[.slice A n cap, .func (.func fn) #[] cb] w fun e w' => ∃ m, e = .returned (.slice A m cap) ∧ OwnL 187 10 PairV.cells w' (.slice A m cap) (L.filter fun x => !p x) ∧ Fr (sliceB A) w w' := by
  have hn : n = L.length := ho.blk.1
  have hat := ho.at1 PairV.cells_len
  have HIX := Lib.hid (pairIdx_any fn cb p A n cap L w hat.1 hn hl eg (fun W x hf => hp W x (hf.mono (by simp))))
  rcases first_or p L with hall | ⟨k, hk, hbefore, hit⟩
  · have HM : Hid (idxP p L 0 = -1) := Lib.hid (idxP_miss 0 hall)
    have HF : Hid (L.filter (fun x => !p x) = L) := Lib.hid (List.filter_eq_self.2 (fun x hx => by rw [hall x hx]; rfl))
    have HO := Lib.hid ho
    clear ho hall hp hat hn
    go_enter Tryz.func176, Tryz.ntmps176
    go_wp2_with (go_at_call 154; refine HIX.out.mono ?_; rintro e w1 ⟨rfl, f1⟩; rw [HM.out]; have F1 := Lib.hid f1; clear f1)
    go_ret
    exact ⟨n, rfl, by rw [HF.out]; exact HO.out.fr F1.out (by simp), F1.out.mono (by simp)⟩
  · obtain ⟨-, h0 | ⟨g, cur0, rfl, hb0, hnc, hcm, -, -⟩⟩ := ho.blk
    · rw [h0.2.1] at hk
      simp at hk
    have HM : Hid (idxP p L 0 = (k : Int)) := Lib.hid (by rw [idxP_hit 0 k hk hbefore hit, Nat.zero_add])
    have hcm63 : cap ≤ 9223372036854775807 := by unfold maxLen at hcm; omega
    have HFk : Hid ((L.take (k + 1)).filter (fun x => !p x) = L.take k) := Lib.hid (by
      rw [List.take_succ_eq_append_getElem hk, List.filter_append, List.filter_eq_self.2 (fun x hx => by rw [hbefore x hx]; rfl)]
      simp [hit])
    have HO := Lib.hid ho
    have HP := Lib.hid hp
    have HN := Lib.hid hn
    have HKN : Hid (k < L.length) := Lib.hid hk
    have HL := Lib.hid hl
    have hkn : k < n := by omega
    have hke : ((k : Int) == -1) = false := beq_eq_false_iff_ne.2 (by omega)
    clear ho hp hn hbefore hit hk hat hb0
    go_enter Tryz.func176, Tryz.ntmps176
    go_wp2_with (go_at_call 154; refine HIX.out.mono ?_; rintro e w1 ⟨rfl, f1⟩; rw [HM.out]; have F1 := Lib.hid f1; have HO1 := Lib.hid (HO.out.fr f1 (by simp)); clear f1)
    go_loopw [5, 6, 7] (fun s5 s6 s7 wr => ∃ (i j : Nat) (R : List PairV), i < j ∧ j ≤ n ∧ s5 = .int .i64 i ∧ s6 = .int .i64 j ∧ Hid (R.length = n ∧ R.take i = (L.take j).filter (fun x => !p x) ∧ R.drop j = L.drop j) ∧ Hid (OwnL 187 10 PairV.cells wr (.slice (some ⟨g, 0, none⟩) n cap) R) ∧ Hid (Fr [g] w wr)) (fun s5 s6 s7 _ => n - (intOf s6).toNat)
    case atStart => exact ⟨k, k + 1, L, by omega, by omega, rfl, by go_num, Lib.hid ⟨HN.out.symm, HFk.out.symm, rfl⟩, HO1, Lib.hid (F1.out.mono (by simp))⟩
    case round =>
      clear HO1 F1 HIX HM
      obtain ⟨i, j, R, hij, hj, rfl, rfl, HR, HO2, F2⟩ := hrel
      by_cases hlt : j < n
      · have hjR : j < R.length := by rw [HR.out.1]; exact hlt
        have hjL : j < L.length := by rw [← HN.out]; exact hlt
        have hRL : R[j] = L[j] := by
          have h1 := congrArg (fun l => l[0]?) HR.out.2.2
          simp only [List.getElem?_drop, Nat.add_zero] at h1
          rw [List.getElem?_eq_getElem hjR, List.getElem?_eq_getElem hjL] at h1
          injection h1
        have hDR : R.drop (j + 1) = L.drop (j + 1) := by rw [← List.drop_drop, ← List.drop_drop, HR.out.2.2]
        obtain ⟨g', cap', hv, -, -, hgl, hc, -⟩ := HO2.out.form PairV.cells_len (by omega)
        injection hv with hv1 hv2 hv3
        injection hv1 with hv1
        injection hv1 with hv1
        subst hv1
        clear hv2 hv3
        have c0 := hc j hjR 0 (by decide)
        have c1 := hc j hjR 1 (by decide)
        have c2 := hc j hjR 2 (by decide)
        have c3 := hc j hjR 3 (by decide)
        have c4 := hc j hjR 4 (by decide)
        have c5 := hc j hjR 5 (by decide)
        have c6 := hc j hjR 6 (by decide)
        have c7 := hc j hjR 7 (by decide)
        have c8 := hc j hjR 8 (by decide)
        have c9 := hc j hjR 9 (by decide)
        have HC := Lib.hid (HP.out)
        have HTK : Hid (L.take (j + 1) = L.take j ++ [R[j]]) := Lib.hid (by rw [hRL, List.take_succ_eq_append_getElem hjL])
        have HDR := Lib.hid hDR
        have HIJ := Lib.hid hij
        have HGL := Lib.hid hgl
        clear hRL hDR hc hgl
        generalize R[j] = x at c0 c1 c2 c3 c4 c5 c6 c7 c8 c9 HTK
        obtain ⟨pv, hpv⟩ : ∃ b, p x = b := ⟨_, rfl⟩
        have HQ := Lib.hid hpv
        clear hpv
        obtain ⟨⟨r0, r1, r2, r3, r4⟩, ⟨r5, r6, r7, r8, r9⟩⟩ := x
        have d0 : wr.cell? ⟨g, j * 10, none⟩ = some (.int .i64 r0) := c0
        have d1 : wr.cell? ⟨g, j * 10 + 1, none⟩ = some (.int .i64 r1) := c1
        have d2 : wr.cell? ⟨g, j * 10 + 2, none⟩ = some (.int .i64 r2) := c2
        have d3 : wr.cell? ⟨g, j * 10 + 3, none⟩ = some (.int .i64 r3) := c3
        have d4 : wr.cell? ⟨g, j * 10 + 4, none⟩ = some (.int .i64 r4) := c4
        have d5 : wr.cell? ⟨g, j * 10 + 5, none⟩ = some (.int .i64 r5) := c5
        have d6 : wr.cell? ⟨g, j * 10 + 6, none⟩ = some (.int .i64 r6) := c6
        have d7 : wr.cell? ⟨g, j * 10 + 7, none⟩ = some (.int .i64 r7) := c7
        have d8 : wr.cell? ⟨g, j * 10 + 8, none⟩ = some (.int .i64 r8) := c8
        have d9 : wr.cell? ⟨g, j * 10 + 9, none⟩ = some (.int .i64 r9) := c9
        clear c0 c1 c2 c3 c4 c5 c6 c7 c8 c9 hjR hjL
        have HB : Hid (OwnL 187 10 PairV.cells (wr.alloc (.cells #[.int .i64 r0, .int .i64 r1, .int .i64 r2, .int .i64 r3, .int .i64 r4, .int .i64 r5, .int .i64 r6, .int .i64 r7, .int .i64 r8, .int .i64 r9] 187)) (.slice (some ⟨g, 0, none⟩) n cap) R) := Lib.hid (HO2.out.fr ((Fr.refl [] _).alloc _) (by simp))
        have FB : Hid (Fr [g] w (wr.alloc (.cells #[.int .i64 r0, .int .i64 r1, .int .i64 r2, .int .i64 r3, .int .i64 r4, .int .i64 r5, .int .i64 r6, .int .i64 r7, .int .i64 r8, .int .i64 r9] 187))) := Lib.hid (F2.out.alloc _)
        have hbn := Blk.new wr 187 #[.int .i64 r0, .int .i64 r1, .int .i64 r2, .int .i64 r3, .int .i64 r4, .int .i64 r5, .int .i64 r6, .int .i64 r7, .int .i64 r8, .int .i64 r9]
        have HBN := Lib.hid hbn
        have hil : (i : Int) < (n : Int) := by omega
        have hin : i < n := by omega
        have h0i : (0 : Int) ≤ (i : Int) := by omega
        cases pv with
        | true =>
          go_wp2_with (go_at_fn fn; refine (HC.out _ ((⟨r0, r1, r2, r3, r4⟩, ⟨r5, r6, r7, r8, r9⟩) : PairV) (FB.out.mono (by simp [sliceB]))).mono ?_; rintro e w2 ⟨rfl, f2⟩; rw [HQ.out]; have FB2 := Lib.hid (FB.out.trans f2.mono0); have HB2 := Lib.hid (HB.out.fr f2 (by simp)); clear f2)
          go_roundw
          case rel => exact ⟨i, j + 1, R, by omega, by omega, rfl, by go_num, Lib.hid ⟨HR.out.1, by rw [HTK.out, List.filter_append, HR.out.2.1]; simp [HQ.out], HDR.out⟩, HB2, FB2⟩
          case measure => simp [intOf]; omega
        | false =>
          go_wp2_with (first
            | (go_at_fn fn; refine (HC.out _ ((⟨r0, r1, r2, r3, r4⟩, ⟨r5, r6, r7, r8, r9⟩) : PairV) (FB.out.mono (by simp [sliceB]))).mono ?_; rintro e w2 ⟨rfl, f2⟩; rw [HQ.out]; have FB2 := Lib.hid (FB.out.trans f2.mono0); have HB2 := Lib.hid (HB.out.fr f2 (by simp)); have hbn2 := HBN.out.fr f2 (by simp); have HBN2 := Lib.hid hbn2; have e0 : w2.cell? ⟨wr.heap.size, 0, none⟩ = some (.int .i64 r0) := hbn2.cell 0; have e1 : w2.cell? ⟨wr.heap.size, 1, none⟩ = some (.int .i64 r1) := hbn2.cell 1; have e2 : w2.cell? ⟨wr.heap.size, 2, none⟩ = some (.int .i64 r2) := hbn2.cell 2; have e3 : w2.cell? ⟨wr.heap.size, 3, none⟩ = some (.int .i64 r3) := hbn2.cell 3; have e4 : w2.cell? ⟨wr.heap.size, 4, none⟩ = some (.int .i64 r4) := hbn2.cell 4; have e5 : w2.cell? ⟨wr.heap.size, 5, none⟩ = some (.int .i64 r5) := hbn2.cell 5; have e6 : w2.cell? ⟨wr.heap.size, 6, none⟩ = some (.int .i64 r6) := hbn2.cell 6; have e7 : w2.cell? ⟨wr.heap.size, 7, none⟩ = some (.int .i64 r7) := hbn2.cell 7; have e8 : w2.cell? ⟨wr.heap.size, 8, none⟩ = some (.int .i64 r8) := hbn2.cell 8; have e9 : w2.cell? ⟨wr.heap.size, 9, none⟩ = some (.int .i64 r9) := hbn2.cell 9; clear f2 hbn2)
            | (refine wpList_store_own rfl _ _ _ rfl g (i * 10) #[.int .i64 r0, .int .i64 r1, .int .i64 r2, .int .i64 r3, .int .i64 r4, .int .i64 r5, .int .i64 r6, .int .i64 r7, .int .i64 r8, .int .i64 r9] rfl rfl i n cap ((⟨r0, r1, r2, r3, r4⟩, ⟨r5, r6, r7, r8, r9⟩) : PairV) HB2.out PairV.cells_len PairV.cells_one hin rfl rfl (by kernel_rfl) ?_
               intro w3 hb3 hf3
               have HB3 := Lib.hid hb3
               have FB3 := Lib.hid (FB2.out.trans hf3)
               clear hb3 hf3))
          go_roundw
          case rel =>
            refine ⟨i + 1, j + 1, R.set i ((⟨r0, r1, r2, r3, r4⟩, ⟨r5, r6, r7, r8, r9⟩) : PairV), by omega, by omega, by go_num, by go_num, Lib.hid ⟨by rw [List.length_set]; exact HR.out.1, ?_, ?_⟩, HB3, FB3⟩
            · rw [HTK.out, List.filter_append, ← HR.out.2.1, List.take_succ_eq_append_getElem (by rw [List.length_set, HR.out.1]; omega)]
              rw [List.take_set, List.set_eq_of_length_le (by rw [List.length_take]; exact Nat.min_le_left _ _)]
              simp [HQ.out]
            · rw [List.drop_set_of_lt (by omega)]
              exact HDR.out
          case measure => simp [intOf]; omega
      · have hjn : j = n := by omega
        subst hjn
        have HFF : Hid (R.take i = L.filter (fun x => !p x)) := Lib.hid (by rw [HR.out.2.1, List.take_of_length_le (by rw [← HN.out]; exact Nat.le_refl _)])
        have hci : ¬ cap = i := by omega
        have hin : (i : Int) ≤ (j : Int) := by omega
        obtain ⟨-, h9 | ⟨g9, cur9, h91, hb9, hnc9, hcm9, hs9, ht9⟩⟩ := HO2.out.blk
        · cases h9.1
        · injection h91 with h91
          injection h91 with h91
          subst h91
          have hz := pairZeros_len (j - i)
          have hcl : ∀ ty, (Builtin.clear_ #[185] ty #[.slice (some ⟨g, i * 10, none⟩) (j - i) (cap - i)]).run Tryz.prog wr = .ok (.tuple #[]) (wr.setCells g (i * 10) (Builtin.zeroCells (Value.cells (.agg #[.int .i64 0, .int .i64 0, .int .i64 0, .int .i64 0, .int .i64 0, .int .i64 0, .int .i64 0, .int .i64 0, .int .i64 0, .int .i64 0])) (j - i)).toList) := fun ty =>
            run_clear_put wr 185 187 ty (.agg #[.int .i64 0, .int .i64 0, .int .i64 0, .int .i64 0, .int .i64 0, .int .i64 0, .int .i64 0, .int .i64 0, .int .i64 0, .int .i64 0]) Tryz.underlying185 (fun w => by kernel_rfl) g (i * 10) (j - i) (cap - i) 187 cur9 (by omega) hb9 10 hz (pairZeros_one _) (by rw [hs9]; omega)
          have HT3 : Hid (OwnL 187 10 PairV.cells (wr.setCells g (i * 10) (Builtin.zeroCells (Value.cells (.agg #[.int .i64 0, .int .i64 0, .int .i64 0, .int .i64 0, .int .i64 0, .int .i64 0, .int .i64 0, .int .i64 0, .int .i64 0, .int .i64 0])) (j - i)).toList) (.slice (some ⟨g, 0, none⟩) i cap) (R.take i)) := Lib.hid (HO2.out.tail PairV.cells_len (by omega) _ (Nat.le_refl _) (by rw [hz]; omega))
          have F3 : Hid (Fr [g] w (wr.setCells g (i * 10) (Builtin.zeroCells (Value.cells (.agg #[.int .i64 0, .int .i64 0, .int .i64 0, .int .i64 0, .int .i64 0, .int .i64 0, .int .i64 0, .int .i64 0, .int .i64 0, .int .i64 0])) (j - i)).toList)) := Lib.hid (Fr.puts _ _ F2.out (.inl (by simp)))
          generalize wr.setCells g (i * 10) (Builtin.zeroCells (Value.cells (.agg #[.int .i64 0, .int .i64 0, .int .i64 0, .int .i64 0, .int .i64 0, .int .i64 0, .int .i64 0, .int .i64 0, .int .i64 0, .int .i64 0])) (j - i)).toList = w3 at *
          clear hb9 hs9 ht9 hz
          go_wp2_with fail
          go_ret
          exact ⟨i, rfl, by rw [← HFF.out]; exact HT3.out, F3.out.mono (by simp [sliceB])⟩
end Go.Proofs.YtciaallekkdnhaaGreat
namespace Go.Proofs.YtciaallekkdnhaaGreat
open Go.RowKit

/-- Records at an address. -/
def RecsAt (w : World) (A : Option Addr) (l : List Rec) : Prop := ∃ us : List WRec, AtL WRec.cells 2 w A us ∧ us.map (·.r) = l ∧ ∀ u ∈ us, HoldsC w u.A u.r.cs ∧ u.r.cs.length ≤ 8
theorem OwnR.recs {w : World} {A : Option Addr} {n cap : Nat} {out : List Rec} (h : OwnR w (.slice A n cap) out) : RecsAt w A out ∧ n = out.length := by
  obtain ⟨us, h1, h2, h3⟩ := h
  obtain ⟨h4, h5⟩ := h1.at1 WRec.len
  exact ⟨⟨us, h4, h2, h3⟩, by rw [← h2, List.length_map]; exact h5⟩
/-- None of the blocks in S holds records. -/
def NoR (w : World) (S : List Nat) : Prop := ∀ s ∈ S, ∀ arr fz, w.heap[s]? ≠ some (.cells arr 26 fz)

/-- At the head of each round of 'At'. -/
structure AtRel (w0 w : World) (A : Option Addr) (l : List Rec) (k : Nat) (wr : World) (b m : Nat) : Prop where
  st : StaAt wr b m (Lg.run (l.take k))
  fr : Fr [] w wr
  hb : w.heap.size ≤ b
  hm : w.heap.size ≤ m

end Go.Proofs.YtciaallekkdnhaaGreat
namespace Go.Proofs.YtciaallekkdnhaaGreat
namespace Lg

theorem run_ok (l : List Rec) : Sm.Ok (run l) := by
  have key : ∀ (l : List Rec) (s : Sm.Sta), Sm.Ok s → Sm.Ok (l.foldl Sm.apply s) := by
    intro l
    induction l with
    | nil => exact fun s h => h
    | cons r l ih => exact fun s h => ih _ (h.applied r)
  exact key l _ Sm.ok_new
theorem run_succ (l : List Rec) {i : Nat} (hi : i < l.length) : run (l.take (i + 1)) = Sm.apply (run (l.take i)) l[i] := by
  rw [List.take_succ_eq_append_getElem hi, run_snoc]
theorem fits_pos {s : Sm.Sta} {r : Rec} (h : Sm.fits s r = true) : r.p = s.pos + 1 ∧ Sm.apply s r = ⟨r.cs.foldl Sm.put1 s.M, r.p⟩ := by
  refine ⟨?_, by unfold Sm.apply; rw [if_pos h]⟩
  simp only [Sm.fits, Bool.and_eq_true, decide_eq_true_eq] at h
  exact h.1.2
theorem Ok.pos {l : List Rec} (h : Ok l) : ∀ i, i ≤ l.length → (run (l.take i)).pos = i
  | 0, _ => rfl
  | i + 1, hi => by
    have hf := h.fits i (by omega)
    obtain ⟨h1, h2⟩ := fits_pos hf
    rw [run_succ l (by omega), h2]
    dsimp only
    rw [h1, h.pos i (by omega)]
    omega
theorem Ok.at_ {l : List Rec} (h : Ok l) {i : Nat} (hi : i < l.length) : l[i].p = i + 1 := by
  rw [(fits_pos (h.fits i hi)).1, h.pos i (by omega)]
theorem Ok.valid {l : List Rec} (h : Ok l) {i : Nat} (hi : i < l.length) : Rw.valid l[i] = true := by
  have hf := h.fits i hi
  simp only [Sm.fits, Bool.and_eq_true, decide_eq_true_eq] at hf
  exact hf.1.1
theorem run_all (l : List Rec) : run (l.take l.length) = run l := by rw [List.take_length]
end Lg
theorem OwnR.cap {w : World} {A : Option Addr} {cap : Nat} {out : List Rec} (h : OwnR w (.slice A out.length cap) out) : out.length ≤ cap := by
  obtain ⟨us, h1, h2, _⟩ := h
  have hl : out.length = us.length := by rw [← h2, List.length_map]
  rw [hl] at h1 ⊢
  exact own_cap2 h1
theorem RecsAt.open_ {w : World} {A : Option Addr} {l : List Rec} (h : RecsAt w A l) {k : Nat} (hk : k < l.length) :
    ∃ bb off Ak ck, A = some ⟨bb, off, none⟩ ∧ bb < w.heap.size ∧ w.cell? ⟨bb, off + k * 2, none⟩ = some (.int .i64 l[k].p) ∧ w.cell? ⟨bb, off + k * 2 + 1, none⟩ = some (.slice Ak l[k].cs.length ck) ∧ HoldsC w Ak l[k].cs ∧ l[k].cs.length ≤ 8 := by
  obtain ⟨us, hat, hus, hhc⟩ := h
  subst hus
  have hku : k < us.length := by simpa using hk
  obtain ⟨bb, off, e, hbb, hc⟩ := hat (by omega)
  obtain ⟨h1, h2⟩ := hhc us[k] (List.getElem_mem hku)
  have e1 : (us.map (·.r))[k]'hk = us[k].r := by simp
  rw [e1]
  exact ⟨bb, off, us[k].A, us[k].cap, e, hbb, hc k hku 0 (by decide), hc k hku 1 (by decide), h1, h2⟩
/-- The same, and what the slice may hold. -/
theorem RecsAt.openC {w : World} {A : Option Addr} {l : List Rec} (h : RecsAt w A l) {k : Nat} (hk : k < l.length) :
    ∃ bb off Ak ck, A = some ⟨bb, off, none⟩ ∧ bb < w.heap.size ∧ w.cell? ⟨bb, off + k * 2, none⟩ = some (.int .i64 l[k].p) ∧ w.cell? ⟨bb, off + k * 2 + 1, none⟩ = some (.slice Ak l[k].cs.length ck) ∧ HoldsC w Ak l[k].cs ∧ l[k].cs.length ≤ 8 ∧ l[k].cs.length ≤ ck := by
  obtain ⟨us, hat, hus, hhc⟩ := h
  subst hus
  have hku : k < us.length := by simpa using hk
  obtain ⟨bb, off, e, hbb, hc⟩ := hat (by omega)
  obtain ⟨h1, h2⟩ := hhc us[k] (List.getElem_mem hku)
  have e1 : (us.map (·.r))[k]'hk = us[k].r := by simp
  rw [e1]
  exact ⟨bb, off, us[k].A, us[k].cap, e, hbb, hc k hku 0 (by decide), hc k hku 1 (by decide), h1, h2, us[k].le⟩
theorem sapply_n (b m : Nat) (s : Sm.Sta) (r : Rec) (A : Option Addr) (n cap : Nat) (p : Int) (w : World) (h : StaAt w b m s) (hc : HoldsC w A r.cs) (hlen : r.cs.length ≤ 8) (hn : n = r.cs.length) (hp : p = r.p) :
    Calls Tryz.prog 30 #[.pointer (some ⟨b, 0, none⟩), .agg #[.int .i64 p, .slice A n cap]] w fun e w' => e = .returned (.int .i64 (Sm.code s r)) ∧ StaAt w' b m (Sm.apply s r) ∧ Fr [b, m] w w' := by
  subst hn
  subst hp
  exact sapply_any b m s r A cap w h hc (Nat.le_trans hlen (by decide))
end Go.Proofs.YtciaallekkdnhaaGreat
namespace Go.Proofs.YtciaallekkdnhaaGreat
open Go.RowKit Go.WideShapes Go.ChangeShapes

/-- n elements of five integers each. -/
structure FivAt (w : World) (b off n : Nat) : Prop where
  cell : ∀ i, i < n → ∀ j, j < 5 → ∃ z, w.cell? ⟨b, off + i * 5 + j, none⟩ = some (.int .i64 z) ∧ okI z
  lt : b < w.heap.size
theorem FivAt.fr0 {w w' : World} {b off n : Nat} (h : FivAt w b off n) (hf : Fr [] w w') : FivAt w' b off n :=
  ⟨fun i hi j hj => by
    obtain ⟨z, h1, h2⟩ := h.cell i hi j hj
    exact ⟨z, (hf.rules.1 b _ h.lt).trans h1, h2⟩, Nat.lt_of_lt_of_le h.lt hf.size⟩
theorem FivAt.le {w : World} {b off n m : Nat} (h : FivAt w b off n) (hm : m ≤ n) : FivAt w b off m := ⟨fun i hi => h.cell i (by omega), h.lt⟩

set_option maxRecDepth 100000 in
theorem fivCells : Tryz.prog.cellsOf 33 = 5 := by kernel_rfl
set_option maxRecDepth 100000 in
theorem fivInt : Tryz.prog.cellsOf 3 = 1 := by kernel_rfl
set_option maxRecDepth 100000 in
theorem open_fives {H : Type} {enc : TypeId × Value → H} {W : World} {base : Nat} {v : Value} {d : DataW H} {p : List MemPlace} (hv : Value.okWide Tryz.prog W .any base 52 v)
    (h : DataW.Trod enc Tryz.prog W 0 (fun _ => true) true 52 v d p) :
    ∃ A n cap, v = .slice A n cap ∧ n ≤ cap ∧ cap ≤ maxLen ∧ (n = 0 ∨ ∃ b off, A = some ⟨b, off, none⟩ ∧ FivAt W b off n) := by
  obtain ⟨a0, len, cap, rfl⟩ := okWide_slice Tryz.underlying52 hv
  obtain ⟨fuel, hf⟩ := h
  rcases Go.Deep.open_slice Tryz.underlying52 hf with ⟨hcs, hx⟩ | ⟨a, len', cap', m, n, D, Pl, hcs, _, hl, hm, hmm, hx, hi⟩
  · simp [Value.cells] at hcs
    obtain ⟨rfl, rfl, rfl⟩ := hcs
    exact ⟨_, _, _, rfl, Nat.le_refl _, by simp [maxLen], .inl rfl⟩
  · simp [Value.cells] at hcs
    obtain ⟨rfl, rfl, rfl⟩ := hcs
    simp only [if_true] at hmm
    subst hmm
    refine ⟨_, _, _, rfl, hl, hm, ?_⟩
    rcases Nat.eq_zero_or_pos len with h0 | h0
    · exact .inl h0
    · right
      have each : ∀ i, i < len → ∀ j, j < 5 → ∃ z, W.cell? ((a.add (i * 5)).add j) = some (.int .i64 z) ∧ okI z := fun i hil j hj => by
        obtain ⟨cs', hc, ht⟩ := hi i (by omega)
        rw [fivCells] at hc
        obtain ⟨xs, q, _, _, hlen, hxl, hat⟩ := DataW.trod_array Tryz.underlying33 ht
        obtain ⟨_, hcl, hcell⟩ := World.cells?_some hc
        have h1 := hat j hj
        rw [fivInt] at h1
        have hjl : j < cs'.length := by omega
        have hone : (cs'.drop (j * 1)).take 1 = [cs'[j]] := by
          rw [Nat.mul_one, List.drop_eq_getElem_cons hjl]
          rfl
        rw [hone, List.getElem?_eq_getElem (by omega)] at h1
        obtain ⟨z, hz, _, hw⟩ := DataW.trod_int Tryz.underlying3 h1
        have h2 := hcell j hj
        rw [List.getElem?_eq_getElem hjl] at h2
        injection hz with hz
        exact ⟨z, by rw [h2, hz], hw⟩
      obtain ⟨b, off, spot⟩ := a
      obtain ⟨z0, hz0, _⟩ := each 0 h0 0 (by decide)
      have hspot : spot = none := by simpa [Addr.add] using World.cell?_spot hz0
      subst hspot
      have hadd : ∀ o j, (⟨b, o, none⟩ : Addr).add j = ⟨b, o + j, none⟩ := fun o j => by unfold Addr.add; split <;> simp_all
      refine ⟨b, off, rfl, fun i hil j hj => ?_, ?_⟩
      · have h3 := each i hil j hj
        rwa [hadd, hadd] at h3
      · have h4 := World.block_lt_of_cell? W _ hz0
        simpa [Addr.add] using h4
end Go.Proofs.YtciaallekkdnhaaGreat
namespace Go.Proofs.YtciaallekkdnhaaGreat
open Go.RowKit

theorem run_isAgg_v3' (w : World) : (isAgg 57).run Tryz.prog w = .ok true w := by kernel_rfl
theorem run_sizeOf_v3' (w : World) : (sizeOf 57).run Tryz.prog w = .ok 3 w := by kernel_rfl
theorem eqIn_row (d : Nat) (a b : RowV) (w : World) : (Op.equalIn (d + 3) 116 a.val b.val).run Tryz.prog w = .ok (decide (a = b)) w := by
  unfold RowV.val
  rw [run_equalIn_agg w (d + 2) 116 _ _ (by kernel_rfl) (by kernel_rfl)]
  simp only [Program.fieldsOf, Tryz.underlying116]
  obtain ⟨t, k, x, y, z⟩ := a
  obtain ⟨t', k', x', y', z'⟩ := b
  have hI : ∀ (a b : Int) (w : World), (Op.equalIn (d + 2) 3 (.int .i64 a) (.int .i64 b)).run Tryz.prog w = .ok (a == b) w := fun a b w => run_equalIn_int (P := Tryz.prog) w (d + 1) 3 .i64 .i64 a b Tryz.underlying3
  have hV := fun x y z a b c w => eqIn_v3 d x y z a b c w
  simp [Op.eqFields, Sem.run_bind, part, hI, hV]
  repeat' split
  all_goals simp_all
theorem neq_row (a b : RowV) (w : World) : (binOp .neq 116 a.val b.val).run Tryz.prog w = .ok (.bool (!decide (a = b))) w := by
  rw [run_neq_struct, show (10000 : Nat) = 9997 + 3 from rfl, eqIn_row]
  rfl
theorem eql_row (a b : RowV) (w : World) : (binOp .eql 116 a.val b.val).run Tryz.prog w = .ok (.bool (decide (a = b))) w := by
  rw [run_eql_struct, show (10000 : Nat) = 9997 + 3 from rfl, eqIn_row]
  rfl
theorem eqGuard_row (op : BinOp) (x y : Operand) (xs ys : Array Value) (w : World) : (eqGuard op 116 x y (.agg xs) (.agg ys)).run Tryz.prog w = .ok () w :=
  run_eqGuard_agg w op _ x y xs ys (by kernel_rfl)

/-- Rows at an address. -/
abbrev RowsAt (w : World) (A : Option Addr) (L : List RowV) : Prop := AtL RowV.cells 5 w A L
end Go.Proofs.YtciaallekkdnhaaGreat
