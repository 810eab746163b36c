/-
  The closures of join; a pair's right row written in place.
-/
import Derived.Test.YtjiikpmkedkbkaaGreatMbi
namespace Go.Proofs.YtjiikpmkedkbkaaGreat
open Go.RowKit

set_option maxRecDepth 100000 in
set_option maxHeartbeats 4000000 in
/-- The pairs with the key of the change on the right. -/
theorem pj1_any (q : Qry) (c : Chg) (pb pa : Option Addr) (u v : Int) (ge : Nat) (x : PairV) (w : World) (he : EffAt w ge q c pb pa u v) :
    Calls Tryz.prog 99 #[x.val, .pointer (some ⟨ge, 0, none⟩)] w fun e w' => e = .returned (.bool (decide (x.2.k = c.k))) ∧ Fr [] w w' := by
  obtain ⟨⟨r0, r1, r2, r3, r4⟩, ⟨r5, r6, r7, r8, r9⟩⟩ := x
  have F0 := (Fr.refl [] w).alloc (.cells #[.int .i64 r0, .int .i64 r1, .int .i64 r2, .int .i64 r3, .int .i64 r4, .int .i64 r5, .int .i64 r6, .int .i64 r7, .int .i64 r8, .int .i64 r9] 119)
  have HB := Lib.hid (Blk.new w 119 #[.int .i64 r0, .int .i64 r1, .int .i64 r2, .int .i64 r3, .int .i64 r4, .int .i64 r5, .int .i64 r6, .int .i64 r7, .int .i64 r8, .int .i64 r9])
  have HE := Lib.hid (he.fr0 F0)
  have HF := Lib.hid F0
  clear he F0
  go_enter Tryz.func99, Tryz.ntmps99
  go_upto_region 1 with (fail)
  generalize w.alloc (.cells #[.int .i64 r0, .int .i64 r1, .int .i64 r2, .int .i64 r3, .int .i64 r4, .int .i64 r5, .int .i64 r6, .int .i64 r7, .int .i64 r8, .int .i64 r9] 119) = w1 at *
  have b : w1.cell? ⟨w.heap.size, 6, none⟩ = some (.int .i64 r6) := HB.out.cell 6
  have e := HE.out.c8
  go_wp2
  go_ret
  exact ⟨rfl, HF.out⟩
set_option maxRecDepth 100000 in
set_option maxHeartbeats 4000000 in
/-- The same on the left. -/
theorem pj2_any (q : Qry) (c : Chg) (pb pa : Option Addr) (u v : Int) (ge : Nat) (x : PairV) (w : World) (he : EffAt w ge q c pb pa u v) :
    Calls Tryz.prog 100 #[x.val, .pointer (some ⟨ge, 0, none⟩)] w fun e w' => e = .returned (.bool (decide (x.1.k = c.k))) ∧ Fr [] w w' := by
  obtain ⟨⟨r0, r1, r2, r3, r4⟩, ⟨r5, r6, r7, r8, r9⟩⟩ := x
  have F0 := (Fr.refl [] w).alloc (.cells #[.int .i64 r0, .int .i64 r1, .int .i64 r2, .int .i64 r3, .int .i64 r4, .int .i64 r5, .int .i64 r6, .int .i64 r7, .int .i64 r8, .int .i64 r9] 119)
  have HB := Lib.hid (Blk.new w 119 #[.int .i64 r0, .int .i64 r1, .int .i64 r2, .int .i64 r3, .int .i64 r4, .int .i64 r5, .int .i64 r6, .int .i64 r7, .int .i64 r8, .int .i64 r9])
  have HE := Lib.hid (he.fr0 F0)
  have HF := Lib.hid F0
  clear he F0
  go_enter Tryz.func100, Tryz.ntmps100
  go_upto_region 1 with (fail)
  generalize w.alloc (.cells #[.int .i64 r0, .int .i64 r1, .int .i64 r2, .int .i64 r3, .int .i64 r4, .int .i64 r5, .int .i64 r6, .int .i64 r7, .int .i64 r8, .int .i64 r9] 119) = w1 at *
  have b : w1.cell? ⟨w.heap.size, 1, none⟩ = some (.int .i64 r1) := HB.out.cell 1
  have e := HE.out.c8
  go_wp2
  go_ret
  exact ⟨rfl, HF.out⟩
set_option maxRecDepth 100000 in
set_option maxHeartbeats 4000000 in
/-- The partner. -/
theorem pj3_any (q : Qry) (c : Chg) (pb pa : Option Addr) (u v : Int) (ge : Nat) (x : PairV) (w : World) (he : EffAt w ge q c pb pa u v) :
    Calls Tryz.prog 102 #[x.val, .pointer (some ⟨ge, 0, none⟩)] w fun e w' => e = .returned (.bool (decide (x.2.k = v))) ∧ Fr [] w w' := by
  obtain ⟨⟨r0, r1, r2, r3, r4⟩, ⟨r5, r6, r7, r8, r9⟩⟩ := x
  have F0 := (Fr.refl [] w).alloc (.cells #[.int .i64 r0, .int .i64 r1, .int .i64 r2, .int .i64 r3, .int .i64 r4, .int .i64 r5, .int .i64 r6, .int .i64 r7, .int .i64 r8, .int .i64 r9] 119)
  have HB := Lib.hid (Blk.new w 119 #[.int .i64 r0, .int .i64 r1, .int .i64 r2, .int .i64 r3, .int .i64 r4, .int .i64 r5, .int .i64 r6, .int .i64 r7, .int .i64 r8, .int .i64 r9])
  have HE := Lib.hid (he.fr0 F0)
  have HF := Lib.hid F0
  clear he F0
  go_enter Tryz.func102, Tryz.ntmps102
  go_upto_region 1 with (fail)
  generalize w.alloc (.cells #[.int .i64 r0, .int .i64 r1, .int .i64 r2, .int .i64 r3, .int .i64 r4, .int .i64 r5, .int .i64 r6, .int .i64 r7, .int .i64 r8, .int .i64 r9] 119) = w1 at *
  have b : w1.cell? ⟨w.heap.size, 6, none⟩ = some (.int .i64 r6) := HB.out.cell 6
  have e := HE.out.c20
  go_wp2
  go_ret
  exact ⟨rfl, HF.out⟩
set_option maxRecDepth 100000 in
set_option maxHeartbeats 4000000 in
/-- Pairs behind. -/
theorem pj4_any (q : Qry) (c : Chg) (pb : Option Addr) (u v : Int) (ga ge gv gf : Nat) (a : RowV) (x : PairV) (w : World) (hf : w.cell? ⟨gf, 0, none⟩ = some (.func (.func 97) #[] #[.pointer (some ⟨ge, 0, none⟩), .pointer (some ⟨gv, 0, none⟩)])) (hfl : gf < w.heap.size)
    (he : EffAt w ge q c pb (some ⟨ga, 0, none⟩) u v) (hv : Blk w gv 3 #[.int .i64 (a.value q.column)]) (ha : Blk w ga 53 a.cells.toArray) :
    Calls Tryz.prog 104 #[x.val, .pointer (some ⟨gf, 0, none⟩)] w fun e w' => e = .returned (.bool (Pm.behind q a x.1)) ∧ Fr [] w w' := by
  have F0 := (Fr.refl [] w).alloc (.cells #[.int .i64 x.1.t, .int .i64 x.1.k, .int .i64 x.1.x, .int .i64 x.1.y, .int .i64 x.1.z, .int .i64 x.2.t, .int .i64 x.2.k, .int .i64 x.2.x, .int .i64 x.2.y, .int .i64 x.2.z] 119)
  have HC := Lib.hid (pbehind1_any q c pb u v ga ge gv a x.1 _ (he.fr0 F0) (hv.fr F0 (by simp)) (ha.fr F0 (by simp)))
  obtain ⟨⟨r0, r1, r2, r3, r4⟩, ⟨r5, r6, r7, r8, r9⟩⟩ := x
  have HB := Lib.hid (Blk.new w 119 #[.int .i64 r0, .int .i64 r1, .int .i64 r2, .int .i64 r3, .int .i64 r4, .int .i64 r5, .int .i64 r6, .int .i64 r7, .int .i64 r8, .int .i64 r9])
  have hf1 := (F0.rules.1 gf 0 hfl).trans hf
  have HF := Lib.hid F0
  clear he F0 hv ha hf
  obtain ⟨R, hR⟩ : ∃ R, Pm.behind q a ⟨r0, r1, r2, r3, r4⟩ = R := ⟨_, rfl⟩
  replace HC := Lib.hid (HC.out)
  rw [hR] at HC ⊢
  clear hR
  go_enter Tryz.func104, Tryz.ntmps104
  go_upto_region 1 with (fail)
  dsimp only at HF hf1 HC HB
  generalize w.alloc (.cells #[.int .i64 r0, .int .i64 r1, .int .i64 r2, .int .i64 r3, .int .i64 r4, .int .i64 r5, .int .i64 r6, .int .i64 r7, .int .i64 r8, .int .i64 r9] 119) = w1 at *
  have b0 : w1.cell? ⟨w.heap.size, 0, none⟩ = some (.int .i64 r0) := HB.out.cell 0
  have b1 : w1.cell? ⟨w.heap.size, 1, none⟩ = some (.int .i64 r1) := HB.out.cell 1
  have b2 : w1.cell? ⟨w.heap.size, 2, none⟩ = some (.int .i64 r2) := HB.out.cell 2
  have b3 : w1.cell? ⟨w.heap.size, 3, none⟩ = some (.int .i64 r3) := HB.out.cell 3
  have b4 : w1.cell? ⟨w.heap.size, 4, none⟩ = some (.int .i64 r4) := HB.out.cell 4
  go_wp2_with (go_at_call 97; refine HC.out.mono ?_; rintro e w2 ⟨rfl, f2⟩; have F2 := Lib.hid (HF.out.trans f2); clear f2)
  go_ret
  exact ⟨rfl, F2.out⟩
/-- The right row of a pair is written. -/
theorem OwnL.putRight {w : World} {g n cap : Nat} {L : List PairV} (h : OwnL 119 10 PairV.cells w (.slice (some ⟨g, 0, none⟩) n cap) L) {i : Nat} (hi : i < L.length) (y : RowV) :
    OwnL 119 10 PairV.cells (w.setCells g (i * 10 + 5) y.cells) (.slice (some ⟨g, 0, none⟩) n cap) (L.set i (L[i].1, y)) := by
  obtain ⟨hn, h0 | ⟨g', cur, hA, hb, hc, hm, hs, ht⟩⟩ := h.blk
  · cases h0.1
  · injection hA with hA
    injection hA with hA
    subst hA
    refine OwnL.of_blk PairV.cells_len (Blk.puts _ _ hb) (by rw [List.length_set]; exact hn) hc hm (by rw [wr_size, hs]) (fun k hk => ?_)
    have hy : y.cells.length = 5 := RowV.cells_len y
    rw [wr_get _ _ _ _ (by rw [hy, hs]; omega), hy]
    have hq : k / 10 < L.length := by omega
    have hr : k % 10 < 10 := Nat.mod_lt _ (by decide)
    have h2 := flat_get PairV.cells_len (L.set i (L[i].1, y)) (k / 10) (by rw [List.length_set]; exact hq) (k % 10) hr
    have h3 := flat_get PairV.cells_len L (k / 10) hq (k % 10) hr
    rw [show k / 10 * 10 + k % 10 = k by omega] at h2 h3
    rw [h2, OwnL.cur_get ht hk, h3]
    by_cases hki : k / 10 = i
    · subst hki
      have h4 : (L.set (k / 10) (L[k / 10].1, y))[k / 10]'(by rw [List.length_set]; exact hq) = (L[k / 10].1, y) := by simp
      rw [h4]
      by_cases hj : k / 10 * 10 + 5 ≤ k
      · rw [if_pos (by omega)]
        have hj2 : k - (k / 10 * 10 + 5) = k % 10 - 5 := by omega
        have hj3 : k % 10 = 5 ∨ k % 10 = 6 ∨ k % 10 = 7 ∨ k % 10 = 8 ∨ k % 10 = 9 := by omega
        rw [hj2]
        rcases hj3 with e | e | e | e | e <;> rw [e] <;> rfl
      · rw [if_neg (by omega)]
        have hj3 : k % 10 = 0 ∨ k % 10 = 1 ∨ k % 10 = 2 ∨ k % 10 = 3 ∨ k % 10 = 4 := by omega
        rcases hj3 with e | e | e | e | e <;> rw [e] <;> rfl
    · rw [if_neg (by omega)]
      have h4 : (L.set i (L[i].1, y))[k / 10]'(by rw [List.length_set]; exact hq) = L[k / 10] := by
        rw [List.getElem_set_ne (by omega)]
      rw [h4]
theorem wpList_store_right {P : Program} {L : List PairV} {ops : Array Oper} {rest : List Oper} {o : Oper} {a : Act} {w : World} {Q : Exit → Act → World → Prop} (hgd : o.guard = none) (ty : TypeId) (x y : Operand) (ho : o.op = .store ty x y)
    (g off : Nat) (r : RowV) (hx : a.eval x = .pointer (some ⟨g, off, none⟩)) (hy : a.eval y = .agg r.cells.toArray)
    (i n cap : Nat) (hown : OwnL 119 10 PairV.cells w (.slice (some ⟨g, 0, none⟩) n cap) L) (hi : i < L.length) (hoff : off = i * 10 + 5)
    (hsz : (P.info? ty).map (·.size) = some 5)
    (h : ∀ w', OwnL 119 10 PairV.cells w' (.slice (some ⟨g, 0, none⟩) n cap) (L.set i (L[i].1, r)) → Fr [g] w w' → wpList P ops Q rest (a.put o.dst undef) w') : wpList P ops Q (o :: rest) a w := by
  subst hoff
  obtain ⟨hn, h0 | ⟨g', cur, hA, hb, hc, hm, hs, ht⟩⟩ := hown.blk
  · cases h0.1
  · injection hA with hA
    injection hA with hA
    subst hA
    refine wpList_store_put hgd ty x y ho g (i * 10 + 5) r.cells.toArray hx hy 119 cur hb (by rw [hsz]; simp) (by simp only [List.size_toArray]; rw [RowV.cells_len, hs]; omega) (List.all_eq_true.2 (fun u hu => RowV.cells_one r u (by simpa using hu))) (h _ (by simpa using hown.putRight hi r) (Fr.puts _ _ (Fr.refl [g] w) (.inl (by simp))))
end Go.Proofs.YtjiikpmkedkbkaaGreat
