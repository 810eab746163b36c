/-
  patchJoin.
-/
import Derived.Test.YtjiikpmkedkbkaaFh
import Derived.Laws.EntriesVeiled
namespace Go.Proofs.Ytjiikpmkedkbkaa
open Go.RowKit

set_option maxRecDepth 100000 in
set_option maxHeartbeats 4000000 in
/-- The pairs with the key of the change on the right. -/
theorem pj1_any (q : Qry) (c : Chg) (pb pa : Option Addr) (u v : Int) (ge : Nat) (x : PairV) (w : World) (he : EffAt w ge q c pb pa u v) :
    Calls Try.prog 83 #[x.val, .pointer (some ⟨ge, 0, none⟩)] w fun e w' => e = .returned (.bool (decide (x.2.k = c.k))) ∧ Fr [] w w' := by
  obtain ⟨⟨r0, r1, r2, r3, r4⟩, ⟨r5, r6, r7, r8, r9⟩⟩ := x
  have F0 := (Fr.refl [] w).alloc (.cells #[.int .i64 r0, .int .i64 r1, .int .i64 r2, .int .i64 r3, .int .i64 r4, .int .i64 r5, .int .i64 r6, .int .i64 r7, .int .i64 r8, .int .i64 r9] 106)
  have HB := Lib.hid (Blk.new w 106 #[.int .i64 r0, .int .i64 r1, .int .i64 r2, .int .i64 r3, .int .i64 r4, .int .i64 r5, .int .i64 r6, .int .i64 r7, .int .i64 r8, .int .i64 r9])
  have HE := Lib.hid (he.fr0 F0)
  have HF := Lib.hid F0
  clear he F0
  go_enter Try.func83, Try.ntmps83
  go_upto_region 1 with (fail)
  generalize w.alloc (.cells #[.int .i64 r0, .int .i64 r1, .int .i64 r2, .int .i64 r3, .int .i64 r4, .int .i64 r5, .int .i64 r6, .int .i64 r7, .int .i64 r8, .int .i64 r9] 106) = w1 at *
  have b : w1.cell? ⟨w.heap.size, 6, none⟩ = some (.int .i64 r6) := HB.out.cell 6
  have e := HE.out.c8
  go_wp2
  go_ret
  exact ⟨rfl, HF.out⟩
set_option maxRecDepth 100000 in
set_option maxHeartbeats 4000000 in
/-- The same on the left. -/
theorem pj2_any (q : Qry) (c : Chg) (pb pa : Option Addr) (u v : Int) (ge : Nat) (x : PairV) (w : World) (he : EffAt w ge q c pb pa u v) :
    Calls Try.prog 84 #[x.val, .pointer (some ⟨ge, 0, none⟩)] w fun e w' => e = .returned (.bool (decide (x.1.k = c.k))) ∧ Fr [] w w' := by
  obtain ⟨⟨r0, r1, r2, r3, r4⟩, ⟨r5, r6, r7, r8, r9⟩⟩ := x
  have F0 := (Fr.refl [] w).alloc (.cells #[.int .i64 r0, .int .i64 r1, .int .i64 r2, .int .i64 r3, .int .i64 r4, .int .i64 r5, .int .i64 r6, .int .i64 r7, .int .i64 r8, .int .i64 r9] 106)
  have HB := Lib.hid (Blk.new w 106 #[.int .i64 r0, .int .i64 r1, .int .i64 r2, .int .i64 r3, .int .i64 r4, .int .i64 r5, .int .i64 r6, .int .i64 r7, .int .i64 r8, .int .i64 r9])
  have HE := Lib.hid (he.fr0 F0)
  have HF := Lib.hid F0
  clear he F0
  go_enter Try.func84, Try.ntmps84
  go_upto_region 1 with (fail)
  generalize w.alloc (.cells #[.int .i64 r0, .int .i64 r1, .int .i64 r2, .int .i64 r3, .int .i64 r4, .int .i64 r5, .int .i64 r6, .int .i64 r7, .int .i64 r8, .int .i64 r9] 106) = w1 at *
  have b : w1.cell? ⟨w.heap.size, 1, none⟩ = some (.int .i64 r1) := HB.out.cell 1
  have e := HE.out.c8
  go_wp2
  go_ret
  exact ⟨rfl, HF.out⟩
set_option maxRecDepth 100000 in
set_option maxHeartbeats 4000000 in
/-- The partner. -/
theorem pj3_any (q : Qry) (c : Chg) (pb pa : Option Addr) (u v : Int) (ge : Nat) (x : PairV) (w : World) (he : EffAt w ge q c pb pa u v) :
    Calls Try.prog 86 #[x.val, .pointer (some ⟨ge, 0, none⟩)] w fun e w' => e = .returned (.bool (decide (x.2.k = v))) ∧ Fr [] w w' := by
  obtain ⟨⟨r0, r1, r2, r3, r4⟩, ⟨r5, r6, r7, r8, r9⟩⟩ := x
  have F0 := (Fr.refl [] w).alloc (.cells #[.int .i64 r0, .int .i64 r1, .int .i64 r2, .int .i64 r3, .int .i64 r4, .int .i64 r5, .int .i64 r6, .int .i64 r7, .int .i64 r8, .int .i64 r9] 106)
  have HB := Lib.hid (Blk.new w 106 #[.int .i64 r0, .int .i64 r1, .int .i64 r2, .int .i64 r3, .int .i64 r4, .int .i64 r5, .int .i64 r6, .int .i64 r7, .int .i64 r8, .int .i64 r9])
  have HE := Lib.hid (he.fr0 F0)
  have HF := Lib.hid F0
  clear he F0
  go_enter Try.func86, Try.ntmps86
  go_upto_region 1 with (fail)
  generalize w.alloc (.cells #[.int .i64 r0, .int .i64 r1, .int .i64 r2, .int .i64 r3, .int .i64 r4, .int .i64 r5, .int .i64 r6, .int .i64 r7, .int .i64 r8, .int .i64 r9] 106) = w1 at *
  have b : w1.cell? ⟨w.heap.size, 6, none⟩ = some (.int .i64 r6) := HB.out.cell 6
  have e := HE.out.c20
  go_wp2
  go_ret
  exact ⟨rfl, HF.out⟩
set_option maxRecDepth 100000 in
set_option maxHeartbeats 4000000 in
/-- Pairs behind. -/
theorem pj4_any (q : Qry) (c : Chg) (pb : Option Addr) (u v : Int) (ga ge gv gf : Nat) (a : RowV) (x : PairV) (w : World) (hf : w.cell? ⟨gf, 0, none⟩ = some (.func (.func 81) #[] #[.pointer (some ⟨ge, 0, none⟩), .pointer (some ⟨gv, 0, none⟩)])) (hfl : gf < w.heap.size)
    (he : EffAt w ge q c pb (some ⟨ga, 0, none⟩) u v) (hv : Blk w gv 3 #[.int .i64 (a.value q.column)]) (ha : Blk w ga 57 a.cells.toArray) :
    Calls Try.prog 88 #[x.val, .pointer (some ⟨gf, 0, none⟩)] w fun e w' => e = .returned (.bool (Pm.behind q a x.1)) ∧ Fr [] w w' := by
  have F0 := (Fr.refl [] w).alloc (.cells #[.int .i64 x.1.t, .int .i64 x.1.k, .int .i64 x.1.x, .int .i64 x.1.y, .int .i64 x.1.z, .int .i64 x.2.t, .int .i64 x.2.k, .int .i64 x.2.x, .int .i64 x.2.y, .int .i64 x.2.z] 106)
  have HC := Lib.hid (pbehind1_any q c pb u v ga ge gv a x.1 _ (he.fr0 F0) (hv.fr F0 (by simp)) (ha.fr F0 (by simp)))
  obtain ⟨⟨r0, r1, r2, r3, r4⟩, ⟨r5, r6, r7, r8, r9⟩⟩ := x
  have HB := Lib.hid (Blk.new w 106 #[.int .i64 r0, .int .i64 r1, .int .i64 r2, .int .i64 r3, .int .i64 r4, .int .i64 r5, .int .i64 r6, .int .i64 r7, .int .i64 r8, .int .i64 r9])
  have hf1 := (F0.rules.1 gf 0 hfl).trans hf
  have HF := Lib.hid F0
  clear he F0 hv ha hf
  obtain ⟨R, hR⟩ : ∃ R, Pm.behind q a ⟨r0, r1, r2, r3, r4⟩ = R := ⟨_, rfl⟩
  replace HC := Lib.hid (HC.out)
  rw [hR] at HC ⊢
  clear hR
  go_enter Try.func88, Try.ntmps88
  go_upto_region 1 with (fail)
  dsimp only at HF hf1 HC HB
  generalize w.alloc (.cells #[.int .i64 r0, .int .i64 r1, .int .i64 r2, .int .i64 r3, .int .i64 r4, .int .i64 r5, .int .i64 r6, .int .i64 r7, .int .i64 r8, .int .i64 r9] 106) = w1 at *
  have b0 : w1.cell? ⟨w.heap.size, 0, none⟩ = some (.int .i64 r0) := HB.out.cell 0
  have b1 : w1.cell? ⟨w.heap.size, 1, none⟩ = some (.int .i64 r1) := HB.out.cell 1
  have b2 : w1.cell? ⟨w.heap.size, 2, none⟩ = some (.int .i64 r2) := HB.out.cell 2
  have b3 : w1.cell? ⟨w.heap.size, 3, none⟩ = some (.int .i64 r3) := HB.out.cell 3
  have b4 : w1.cell? ⟨w.heap.size, 4, none⟩ = some (.int .i64 r4) := HB.out.cell 4
  go_wp2_with (go_at_call 81; refine HC.out.mono ?_; rintro e w2 ⟨rfl, f2⟩; have F2 := Lib.hid (HF.out.trans f2); clear f2)
  go_ret
  exact ⟨rfl, F2.out⟩
/-- The right row of a pair is written. -/
theorem OwnL.putRight {w : World} {g n cap : Nat} {L : List PairV} (h : OwnL 106 10 PairV.cells w (.slice (some ⟨g, 0, none⟩) n cap) L) {i : Nat} (hi : i < L.length) (y : RowV) :
    OwnL 106 10 PairV.cells (w.setCells g (i * 10 + 5) y.cells) (.slice (some ⟨g, 0, none⟩) n cap) (L.set i (L[i].1, y)) := by
  obtain ⟨hn, h0 | ⟨g', cur, hA, hb, hc, hm, hs, ht⟩⟩ := h.blk
  · cases h0.1
  · injection hA with hA
    injection hA with hA
    subst hA
    refine OwnL.of_blk PairV.cells_len (Blk.puts _ _ hb) (by rw [List.length_set]; exact hn) hc hm (by rw [wr_size, hs]) (fun k hk => ?_)
    have hy : y.cells.length = 5 := RowV.cells_len y
    rw [wr_get _ _ _ _ (by rw [hy, hs]; omega), hy]
    have hq : k / 10 < L.length := by omega
    have hr : k % 10 < 10 := Nat.mod_lt _ (by decide)
    have h2 := flat_get PairV.cells_len (L.set i (L[i].1, y)) (k / 10) (by rw [List.length_set]; exact hq) (k % 10) hr
    have h3 := flat_get PairV.cells_len L (k / 10) hq (k % 10) hr
    rw [show k / 10 * 10 + k % 10 = k by omega] at h2 h3
    rw [h2, OwnL.cur_get ht hk, h3]
    by_cases hki : k / 10 = i
    · subst hki
      have h4 : (L.set (k / 10) (L[k / 10].1, y))[k / 10]'(by rw [List.length_set]; exact hq) = (L[k / 10].1, y) := by simp
      rw [h4]
      by_cases hj : k / 10 * 10 + 5 ≤ k
      · rw [if_pos (by omega)]
        have hj2 : k - (k / 10 * 10 + 5) = k % 10 - 5 := by omega
        have hj3 : k % 10 = 5 ∨ k % 10 = 6 ∨ k % 10 = 7 ∨ k % 10 = 8 ∨ k % 10 = 9 := by omega
        rw [hj2]
        rcases hj3 with e | e | e | e | e <;> rw [e] <;> rfl
      · rw [if_neg (by omega)]
        have hj3 : k % 10 = 0 ∨ k % 10 = 1 ∨ k % 10 = 2 ∨ k % 10 = 3 ∨ k % 10 = 4 := by omega
        rcases hj3 with e | e | e | e | e <;> rw [e] <;> rfl
    · rw [if_neg (by omega)]
      have h4 : (L.set i (L[i].1, y))[k / 10]'(by rw [List.length_set]; exact hq) = L[k / 10] := by
        rw [List.getElem_set_ne (by omega)]
      rw [h4]
theorem wpList_store_right {P : Program} {L : List PairV} {ops : Array Oper} {rest : List Oper} {o : Oper} {a : Act} {w : World} {Q : Exit → Act → World → Prop} (hgd : o.guard = none) (ty : TypeId) (x y : Operand) (ho : o.op = .store ty x y)
    (g off : Nat) (r : RowV) (hx : a.eval x = .pointer (some ⟨g, off, none⟩)) (hy : a.eval y = .agg r.cells.toArray)
    (i n cap : Nat) (hown : OwnL 106 10 PairV.cells w (.slice (some ⟨g, 0, none⟩) n cap) L) (hi : i < L.length) (hoff : off = i * 10 + 5)
    (hsz : (P.info? ty).map (·.size) = some 5)
    (h : ∀ w', OwnL 106 10 PairV.cells w' (.slice (some ⟨g, 0, none⟩) n cap) (L.set i (L[i].1, r)) → Fr [g] w w' → wpList P ops Q rest (a.put o.dst undef) w') : wpList P ops Q (o :: rest) a w := by
  subst hoff
  obtain ⟨hn, h0 | ⟨g', cur, hA, hb, hc, hm, hs, ht⟩⟩ := hown.blk
  · cases h0.1
  · injection hA with hA
    injection hA with hA
    subst hA
    refine wpList_store_put hgd ty x y ho g (i * 10 + 5) r.cells.toArray hx hy 106 cur hb (by rw [hsz]; simp) (by simp only [List.size_toArray]; rw [RowV.cells_len, hs]; omega) (List.all_eq_true.2 (fun u hu => RowV.cells_one r u (by simpa using hu))) (h _ (by simpa using hown.putRight hi r) (Fr.puts _ _ (Fr.refl [g] w) (.inl (by simp))))
end Go.Proofs.Ytjiikpmkedkbkaa
namespace Go.Proofs.Ytjiikpmkedkbkaa
open Go.RowKit

theorem find_at {X : Type} {p : X → Bool} : ∀ {l : List X} {k : Nat} (hk : k < l.length), (∀ y ∈ l.take k, p y = false) → p l[k] = true → l.find? p = some l[k]
  | y :: l, 0, _, _, h => by
    rw [List.find?_cons_of_pos (by simpa using h)]
    rfl
  | y :: l, k + 1, hk, ha, h => by
    rw [List.find?_cons_of_neg (by rw [ha y (by simp)]; simp), find_at (k := k) (by simpa using hk) (fun z hz => ha z (by simp [hz])) (by simpa using h)]
    rfl
/-- The first k of M, the others of L. -/
def mix {X : Type} (L M : List X) (k : Nat) : List X := M.take k ++ L.drop k
theorem mix_zero {X : Type} {L M : List X} : mix L M 0 = L := by simp [mix]
theorem mix_all {X : Type} {L M : List X} (h : M.length = L.length) : mix L M L.length = M := by
  unfold mix
  rw [List.take_of_length_le (by omega), List.drop_eq_nil_of_le (by omega), List.append_nil]
theorem mix_len {X : Type} {L M : List X} (h : M.length = L.length) {k : Nat} (hk : k ≤ L.length) : (mix L M k).length = L.length := by
  simp [mix]
  omega
theorem mix_get {X : Type} {L M : List X} (h : M.length = L.length) {k : Nat} (hk : k < L.length) : (mix L M k)[k]'(by rw [mix_len h (by omega)]; exact hk) = L[k] := by
  have hl : (M.take k).length = k := by rw [List.length_take]; omega
  simp only [mix]
  rw [List.getElem_append_right (by omega)]
  simp [hl]
theorem mix_succ {X : Type} {L M : List X} (h : M.length = L.length) {k : Nat} (hk : k < L.length) : mix L M (k + 1) = (mix L M k).set k (M[k]'(by omega)) := by
  have hl : (M.take k).length = k := by rw [List.length_take]; omega
  simp only [mix]
  rw [List.take_succ_eq_append_getElem (by omega : k < M.length), List.append_assoc, List.set_append_right _ _ (by omega), hl, Nat.sub_self]
  congr 1
  rw [List.drop_eq_getElem_cons hk]
  rfl
theorem mix_same {X : Type} {L M : List X} (h : M.length = L.length) {k : Nat} (hk : k < L.length) (e : M[k]'(by omega) = L[k]) : mix L M (k + 1) = mix L M k := by
  rw [mix_succ h hk, e]
  conv => lhs; rw [← mix_get h hk]
  exact List.set_getElem_self _

set_option maxRecDepth 100000 in
set_option maxHeartbeats 4000000 in
/-- A row of the other table is removed. -/
theorem pjoinO_any (q : Qry) (c : Chg) (pb pa : Option Addr) (u v : Int) (Y : Option Addr) (n cap : Nat) (L : List PairV) (w : World) (ho : OwnL 106 10 PairV.cells w (.slice Y n cap) L) (hl : n ≤ 100000) (ht : c.t = q.other) (hno : c.has = false) :
    Calls Try.prog 75 #[.agg (effArr q c pb pa u v), .slice Y n cap] w fun e w' => ∃ A' n' c', e = .returned (.tuple #[.slice A' n' c', .bool c.had]) ∧ OwnL 106 10 PairV.cells w' (.slice A' n' c') (L.filter fun p => !decide (p.2.k = c.k)) ∧ Fr [] w w' := by
  have F0 : Hid (Fr [] w (w.alloc (.cells (effArr q c pb pa u v) 78))) := Lib.hid ((Fr.refl _ _).alloc _)
  have HB := Lib.hid (EffAt.new w q c pb pa u v)
  have HO := Lib.hid (ho.fr F0.out (by simp))
  have HN : Hid (n = L.length) := Lib.hid ho.blk.1
  have HAF := Lib.hid (pafter_any c)
  clear ho
  have ht' : (c.t == q.other) = true := by simp [ht]
  have HT := Lib.hid ht
  have HNO := Lib.hid hno
  clear ht hno
  go_enter Try.func75, Try.ntmps75
  go_upto_region 1 with (fail)
  generalize w.alloc (.cells (effArr q c pb pa u v) 78) = w1 at *
  have e6 := HB.out.c6
  have e7 := HB.out.c7
  have e8 := HB.out.c8
  have e9 := HB.out.c9
  have e10 := HB.out.c10
  have e11 := HB.out.c11
  have e12 := HB.out.c12
  have e13 := HB.out.c13
  have e14 := HB.out.c14
  have e15 := HB.out.c15
  have e16 := HB.out.c16
  have HWO : Hid (∀ W, Fr [] w1 W → Calls Try.prog 82 #[.slice Y n cap, .func (.func 83) #[] #[.pointer (some ⟨w.heap.size, 0, none⟩)]] W fun e w' => ∃ A' n' c', e = .returned (.slice A' n' c') ∧ Hid (OwnL 106 10 PairV.cells w' (.slice A' n' c') (L.filter fun p => !decide (p.2.k = c.k))) ∧ Hid (Fr [] W w') ∧ Hid (∀ ad, A' = some ad → W.heap.size ≤ ad.block)) := Lib.hid (fun W hf =>
    (pairWithout_any 83 #[.pointer (some ⟨w.heap.size, 0, none⟩)] (fun p => decide (p.2.k = c.k)) Y n cap L W ((HO.out.fr hf (by simp)).at1 PairV.cells_len).1 HN.out hl (enters_of Try.func83 (by kernel_rfl) rfl) (fun W' x hf' => pj1_any q c pb pa u v w.heap.size x W' (HB.out.fr0 (hf.trans hf')))).mono (by
      rintro e w' ⟨A', n', c', rfl, h1, h2, h3⟩
      exact ⟨A', n', c', rfl, Lib.hid h1, Lib.hid h2, Lib.hid h3⟩))
  go_upto_region 3 with (go_at_call 64; refine (HAF.out _).mono ?_; rintro e w2 ⟨⟨r0, r1, r2, r3, r4⟩, rfl, -, f2⟩; rw [HNO.out]; have F2 := Lib.hid f2; clear f2)
  have F3 : Hid (Fr [] w1 (w2.alloc (.cells #[.int .i64 r0, .int .i64 r1, .int .i64 r2, .int .i64 r3, .int .i64 r4] 57))) := Lib.hid (F2.out.alloc _)
  clear e6 e7 e8 e9 e10 e11 e12 e13 e14 e15 e16
  generalize w2.alloc (.cells #[.int .i64 r0, .int .i64 r1, .int .i64 r2, .int .i64 r3, .int .i64 r4] 57) = w3 at *
  have e9 := (HB.out.fr0 F3.out).c9
  go_upto_region 4 with (fail)
  go_region_held3 (fun W => W.cell? ⟨w.heap.size, 9, none⟩ = some (.bool c.had)) (first | exact e9 | exact HH9.out | go_keep)
    ((first
      | (go_at_call 82; (with_reducible refine (HWO.out _ F3.out.drew).mono ?_); rintro e w5 ⟨A5, n5, c5, rfl, HO5, HF5, -⟩; have HH9 := Lib.hid ((HB.out.fr0 F3.out.drew).fr0 HF5.out).c9)))
  all_goals
    go_wp2
    go_ret2
    exact ⟨_, _, _, rfl, HO5.out, (F0.out.trans F3.out.drew).trans HF5.out⟩
set_option maxRecDepth 100000 in
set_option maxHeartbeats 8000000 in
/-- A row of the other table is written. -/
theorem pjoinS_any (q : Qry) (c : Chg) (pb pa : Option Addr) (u v : Int) (Y : Option Addr) (n cap : Nat) (L : List PairV) (w : World) (ho : OwnL 106 10 PairV.cells w (.slice Y n cap) L) (hl : n ≤ 100000) (ht : c.t = q.other) (hyes : c.has = true) :
    Calls Try.prog 75 #[.agg (effArr q c pb pa u v), .slice Y n cap] w fun e w' => e = .returned (.tuple #[.slice Y n cap, .bool c.had]) ∧ OwnL 106 10 PairV.cells w' (.slice Y n cap) (Pm.other L c) ∧ Fr (sliceB Y) w w' := by
  have F0 : Hid (Fr [] w (w.alloc (.cells (effArr q c pb pa u v) 78))) := Lib.hid ((Fr.refl _ _).alloc _)
  have HB := Lib.hid (EffAt.new w q c pb pa u v)
  have HO := Lib.hid (ho.fr F0.out (by simp))
  have HN : Hid (n = L.length) := Lib.hid ho.blk.1
  have HAF := Lib.hid (pafter_any c)
  have HYB : Hid (∀ ad, Y = some ad → ad.block < w.heap.size) := Lib.hid (fun ad ha => ho.lt (sliceB_own ho ha))
  clear ho
  obtain ⟨M, HM⟩ : ∃ M, Hid (Pm.other L c = M) := ⟨_, Lib.hid rfl⟩
  rw [HM.out]
  have ht' : (c.t == q.other) = true := by simp [ht]
  have HT := Lib.hid ht
  have HYES := Lib.hid hyes
  clear ht hyes
  go_enter Try.func75, Try.ntmps75
  go_upto_region 1 with (fail)
  generalize w.alloc (.cells (effArr q c pb pa u v) 78) = w1 at *
  have e6 := HB.out.c6
  have e7 := HB.out.c7
  have e8 := HB.out.c8
  have e9 := HB.out.c9
  have e10 := HB.out.c10
  have e11 := HB.out.c11
  have e12 := HB.out.c12
  have e13 := HB.out.c13
  have e14 := HB.out.c14
  have e15 := HB.out.c15
  have e16 := HB.out.c16

  go_upto_region 3 with (go_at_call 64; refine (HAF.out _).mono ?_; rintro e w2 ⟨⟨r0, r1, r2, r3, r4⟩, rfl, haft, f2⟩; rw [HYES.out]; rw [HYES.out] at haft; have F2 := Lib.hid f2; have HA : Hid (Pm.aft c = some ⟨r0, r1, r2, r3, r4⟩) := Lib.hid (haft.trans (if_pos rfl)); clear f2 haft)
  have F3 : Hid (Fr [] w1 (w2.alloc (.cells #[.int .i64 r0, .int .i64 r1, .int .i64 r2, .int .i64 r3, .int .i64 r4] 57))) := Lib.hid (F2.out.alloc _)
  have HYR : Hid (Blk (w2.alloc (.cells #[.int .i64 r0, .int .i64 r1, .int .i64 r2, .int .i64 r3, .int .i64 r4] 57)) w2.heap.size 57 #[.int .i64 r0, .int .i64 r1, .int .i64 r2, .int .i64 r3, .int .i64 r4]) := Lib.hid (Blk.new _ _ _)
  have HS1 : Hid (w.heap.size < w1.heap.size ∧ w1.heap.size ≤ w2.heap.size) := Lib.hid ⟨HB.out.lt, F2.out.size⟩
  clear e6 e7 e8 e9 e10 e11 e12 e13 e14 e15 e16
  generalize w2.alloc (.cells #[.int .i64 r0, .int .i64 r1, .int .i64 r2, .int .i64 r3, .int .i64 r4] 57) = w3 at *
  obtain ⟨gy, hgy⟩ : ∃ g, w2.heap.size = g := ⟨_, rfl⟩
  rw [hgy] at HYR HS1 ⊢
  clear hgy
  have HO3 := Lib.hid (HO.out.fr F3.out (by simp))
  have HB3 := Lib.hid (HB.out.fr0 F3.out)
  have HY0 : Hid (w.heap.size ∉ sliceB Y ∧ gy ∉ sliceB Y) := Lib.hid ⟨fun hm => by obtain ⟨ad, h1, h2⟩ := mem_sliceB.1 hm; have := HYB.out ad h1; omega, fun hm => by obtain ⟨ad, h1, h2⟩ := mem_sliceB.1 hm; have := HYB.out ad h1; have := HS1.out; omega⟩
  have HMD : Hid (M = L.map fun p => if p.2.k = c.k then (p.1, ⟨r0, r1, r2, r3, r4⟩) else p) := Lib.hid (by
    rw [← HM.out]
    unfold Pm.other
    rw [HA.out])
  have HML : Hid (M.length = L.length) := Lib.hid (by rw [HMD.out, List.length_map])
  go_wp2_with fail
  go_loopw [8, 35] (fun i8 i35 wr => ∃ k : Nat, k ≤ n ∧ i35 = .int .i64 k ∧ Hid (OwnL 106 10 PairV.cells wr (.slice Y n cap) (mix L M k)) ∧ Hid (Fr (sliceB Y) w3 wr)) (fun i8 i35 _ => n - (intOf i35).toNat)
  case atStart => exact ⟨0, Nat.zero_le _, rfl, Lib.hid (by rw [mix_zero]; exact HO3.out), Lib.hid (Fr.refl _ _)⟩
  case round =>
    obtain ⟨k, hk, rfl, HOR, HFR⟩ := hrel
    have HB4 := Lib.hid (HB3.out.fr HFR.out HY0.out.1)
    by_cases hlt : k < n
    · have hkL : k < L.length := by rw [← HN.out]; exact hlt
      have hkX : k < (mix L M k).length := by rw [mix_len HML.out (by omega)]; exact hkL
      obtain ⟨-, h0 | ⟨g, cur, rfl, -⟩⟩ := HOR.out.blk
      · rw [h0.2.1] at hkX
        simp at hkX
      obtain ⟨g', cap', hv', -, -, hg', hcell, -⟩ := HOR.out.form PairV.cells_len (by omega)
      injection hv' with e1 e2 e3
      injection e1 with e1
      injection e1 with e1
      subst e1
      have hcc := hcell k hkX 6 (by decide)
      rw [mix_get HML.out hkL] at hcc
      obtain ⟨x, hxe⟩ : ∃ x, L[k].2.k = x := ⟨_, rfl⟩
      have d6 : wr.cell? ⟨g, k * 10 + 5 + 1, none⟩ = some (.int .i64 x) := hcc.trans (by rw [← hxe]; rfl)
      have HXE := Lib.hid hxe
      have e8 := HB4.out.c8
      have HKL := Lib.hid hkL
      have HKX := Lib.hid hkX
      clear hcc hcell hg' e2 e3 hkX hxe
      by_cases hx : x = c.k
      · have g8 : (x == c.k) = true := by simp [hx]
        have HMX : Hid (mix L M (k + 1) = (mix L M k).set k ((mix L M k)[k]'HKX.out |>.1, ⟨r0, r1, r2, r3, r4⟩)) := Lib.hid (by
          rw [mix_succ HML.out HKL.out, mix_get HML.out HKL.out]
          congr 1
          have e : M[k]'(by rw [HML.out]; exact HKL.out) = (L.map fun p => if p.2.k = c.k then (p.1, ⟨r0, r1, r2, r3, r4⟩) else p)[k]'(by rw [List.length_map]; exact HKL.out) := by simp only [HMD.out]
          rw [e, List.getElem_map]
          exact if_pos (HXE.out.trans hx))
        have HYR2 := Lib.hid (HYR.out.fr HFR.out HY0.out.2)
        have b0 : wr.cell? ⟨gy, 0, none⟩ = some (.int .i64 r0) := HYR2.out.cell 0
        have b1 : wr.cell? ⟨gy, 1, none⟩ = some (.int .i64 r1) := HYR2.out.cell 1
        have b2 : wr.cell? ⟨gy, 2, none⟩ = some (.int .i64 r2) := HYR2.out.cell 2
        have b3 : wr.cell? ⟨gy, 3, none⟩ = some (.int .i64 r3) := HYR2.out.cell 3
        have b4 : wr.cell? ⟨gy, 4, none⟩ = some (.int .i64 r4) := HYR2.out.cell 4
        have HHX := Lib.hid hx
        clear hx
        clear b0 b1 b2 b3 b4
        go_upto_region 8 with (fail)
        go_quiet (fail)
        have HD : Hid (Fr [] wr (wr.drewN nq)) := Lib.hid ((Fr.refl [] wr).drewN _)
        generalize wr.drewN nq = wd at *
        have HYR3 := Lib.hid (HYR2.out.fr HD.out (by simp))
        have b0 : wd.cell? ⟨gy, 0, none⟩ = some (.int .i64 r0) := HYR3.out.cell 0
        have b1 : wd.cell? ⟨gy, 1, none⟩ = some (.int .i64 r1) := HYR3.out.cell 1
        have b2 : wd.cell? ⟨gy, 2, none⟩ = some (.int .i64 r2) := HYR3.out.cell 2
        have b3 : wd.cell? ⟨gy, 3, none⟩ = some (.int .i64 r3) := HYR3.out.cell 3
        have b4 : wd.cell? ⟨gy, 4, none⟩ = some (.int .i64 r4) := HYR3.out.cell 4
        have HOD := Lib.hid (HOR.out.fr HD.out (by simp))
        go_wp2_with (refine wpList_store_right rfl _ _ _ rfl g _ ⟨r0, r1, r2, r3, r4⟩ rfl rfl k n cap HOD.out HKX.out rfl (by kernel_rfl) ?_; intro w9 ho9 hf9; have HO9 := Lib.hid ho9; have HF9 := Lib.hid hf9; clear ho9 hf9)
        go_roundw
        case rel => exact ⟨k + 1, by omega, by go_num, Lib.hid (by rw [HMX.out]; exact HO9.out), Lib.hid ((HFR.out.trans (HD.out.mono (by simp))).trans HF9.out)⟩
        case measure => simp [intOf]; omega
      · have g8 : (x == c.k) = false := by simp [hx]
        have HMX : Hid (mix L M (k + 1) = mix L M k) := Lib.hid (by
          refine mix_same HML.out HKL.out ?_
          have e : M[k]'(by rw [HML.out]; exact HKL.out) = (L.map fun p => if p.2.k = c.k then (p.1, ⟨r0, r1, r2, r3, r4⟩) else p)[k]'(by rw [List.length_map]; exact HKL.out) := by simp only [HMD.out]
          rw [e, List.getElem_map]
          exact if_neg (fun h => hx (HXE.out.symm.trans h)))
        have HHX := Lib.hid hx
        clear hx
        go_upto_region 8 with (fail)
        go_quiet (fail)
        go_wp2
        go_roundw
        case rel => exact ⟨k + 1, by omega, by go_num, Lib.hid (by rw [HMX.out]; exact HOR.out.fr ((Fr.refl [] wr).drewN _) (by simp)), Lib.hid (HFR.out.drewN _)⟩
        case measure => simp [intOf]; omega
    · obtain rfl : k = n := by omega
      have HOE : Hid (OwnL 106 10 PairV.cells wr (.slice Y k cap) M) := Lib.hid (by have h := HOR.out; rw [HN.out, mix_all HML.out] at h; rw [HN.out]; exact h)
      have e9 := HB4.out.c9
      clear hlt
      go_wp2_with fail
      go_quiet (fail)
      go_wp2
      go_ret2
      exact ⟨rfl, HOE.out.fr ((Fr.refl [] wr).drewN _) (by simp), (((F0.out.trans F3.out).mono (by simp)).trans HFR.out).drewN _⟩

set_option maxRecDepth 100000 in
set_option maxHeartbeats 8000000 in
/-- A row of the scanned table changes. -/
theorem pjoinL_any (q : Qry) (c : Chg) (pb pa : Option Addr) (u v : Int) (hu : u = Pm.old q c) (hv : v = Pm.now q c) (Y : Option Addr) (n cap : Nat) (L : List PairV) (w : World) (ho : OwnL 106 10 PairV.cells w (.slice Y n cap) L) (hl : n ≤ 100000) (ht : ¬ c.t = q.other) (hpb : PtrR w pb (Pm.B q c)) (hpa : PtrR w pa (Pm.A q c)) :
    Calls Try.prog 75 #[.agg (effArr q c pb pa u v), .slice Y n cap] w fun e w' => ∃ A' n' c' L' k, e = .returned (.tuple #[.slice A' n' c', .bool k]) ∧ OwnL 106 10 PairV.cells w' (.slice A' n' c') L' ∧ Pm.left q L c = (if k = true then some L' else none) ∧ L'.length ≤ L.length + 1 ∧ Fr [] w w' := by
  have F0 : Hid (Fr [] w (w.alloc (.cells (effArr q c pb pa u v) 78))) := Lib.hid ((Fr.refl _ _).alloc _)
  have HB := Lib.hid (EffAt.new w q c pb pa u v)
  have HO := Lib.hid (ho.fr F0.out (by simp))
  have HN : Hid (n = L.length) := Lib.hid ho.blk.1
  have HPA := Lib.hid (hpa.fr0 F0.out)
  have IB := Lib.hid hpb.isSome
  have HU := Lib.hid hu
  have HV := Lib.hid hv
  have HX0 := Lib.hid hl
  clear ho hpa hpb hu hv
  have ht' : (c.t == q.other) = false := by simp [ht]
  have HT := Lib.hid ht
  clear ht
  obtain ⟨LF, HLF⟩ : ∃ l, Hid (Pm.left q L c = l) := ⟨_, Lib.hid rfl⟩
  rw [HLF.out]
  go_enter Try.func75, Try.ntmps75
  go_upto_region 1 with (fail)
  generalize w.alloc (.cells (effArr q c pb pa u v) 78) = w1 at *
  have HWO : Hid (∀ W, Fr [] w1 W → Calls Try.prog 82 #[.slice Y n cap, .func (.func 84) #[] #[.pointer (some ⟨w.heap.size, 0, none⟩)]] W fun e w' => ∃ A' n' c', e = .returned (.slice A' n' c') ∧ Hid (OwnL 106 10 PairV.cells w' (.slice A' n' c') (L.filter fun p => !decide (p.1.k = c.k))) ∧ Hid (Fr [] W w') ∧ Hid (∀ ad, A' = some ad → W.heap.size ≤ ad.block)) := Lib.hid (fun W hf =>
    (pairWithout_any 84 #[.pointer (some ⟨w.heap.size, 0, none⟩)] (fun p => decide (p.1.k = c.k)) Y n cap L W ((HO.out.fr hf (by simp)).at1 PairV.cells_len).1 HN.out hl (enters_of Try.func84 (by kernel_rfl) rfl) (fun W' x hf' => pj2_any q c pb pa u v w.heap.size x W' (HB.out.fr0 (hf.trans hf')))).mono (by
      rintro e w' ⟨A', n', c', rfl, h1, h2, h3⟩
      exact ⟨A', n', c', rfl, Lib.hid h1, Lib.hid h2, Lib.hid h3⟩))
  clear hl
  have HRL : Hid ((Pm.rest L c).length ≤ L.length) := Lib.hid (List.length_filter_le _ _)
  have e6 := HB.out.c6
  have e7 := HB.out.c7
  go_upto_region 13 with (go_at_call 82; refine (HWO.out _ (Fr.refl _ _)).mono ?_; rintro e w2 ⟨A1, n1, c1, rfl, HO1, HF1, HG1⟩)
  clear e6 e7
  have HG2 : Hid (∀ ad, A1 = some ad → w.heap.size ≤ ad.block) := Lib.hid (fun ad ha => Nat.le_trans F0.out.size (HG1.out ad ha))
  clear HG1
  have HO1' : Hid (OwnL 106 10 PairV.cells w2 (.slice A1 n1 c1) (Pm.rest L c)) := Lib.hid HO1.out
  clear HO1
  have HB2 := Lib.hid (HB.out.fr0 HF1.out)
  have HO2 := Lib.hid (HO.out.fr HF1.out (by simp))
  have FA := Lib.hid (F0.out.trans HF1.out)
  have HPA2 := Lib.hid (HPA.out.fr0 HF1.out)
  have e18 := HB2.out.c18
  clear HWO HO HB HPA HF1 F0
  cases hA : Pm.A q c with
  | none =>
    have hpn : pa = none := by have h := HPA2.out; rw [hA] at h; exact h
    subst hpn
    have HE : Hid (LF = some (Pm.rest L c)) := Lib.hid (by
      rw [← HLF.out]
      unfold Pm.left
      rw [hA])
    clear hA
    go_wp2
    go_ret2
    exact ⟨_, _, _, Pm.rest L c, true, rfl, HO1'.out, by rw [HE.out]; rfl, Nat.le_succ_of_le HRL.out, FA.out⟩
  | some a =>
    have hpn : ∃ ga, pa = some ⟨ga, 0, none⟩ ∧ Blk w2 ga 57 a.cells.toArray := by have h := HPA2.out; rw [hA] at h; exact h
    obtain ⟨ga, rfl, hga⟩ := hpn
    have HGA := Lib.hid hga
    have HAA := Lib.hid hA
    clear hga hA
    have HIX : Hid (Calls Try.prog 85 #[.slice Y n cap, .func (.func 86) #[] #[.pointer (some ⟨w.heap.size, 0, none⟩)]] w2 fun e w' => e = .returned (.int .i64 (idxP (fun p : PairV => decide (p.2.k = v)) L 0)) ∧ Fr [] w2 w') :=
      Lib.hid (pairIdx_any 86 #[.pointer (some ⟨w.heap.size, 0, none⟩)] (fun p => decide (p.2.k = v)) Y n cap L w2 (HO2.out.at1 PairV.cells_len).1 HN.out HX0.out (enters_of Try.func86 (by kernel_rfl) rfl) (fun W x hf => pj3_any q c pb (some ⟨ga, 0, none⟩) u v w.heap.size x W (HB2.out.fr0 hf)))
    rcases first_or (fun p : PairV => decide (p.2.k = v)) L with hall | ⟨k, hk, hbefore, hit⟩
    · have HM : Hid (idxP (fun p : PairV => decide (p.2.k = v)) L 0 = -1) := Lib.hid (idxP_miss 0 hall)
      have HE : Hid (LF = if (pb.isSome && decide (u = v)) = true then some (Pm.rest L c) else none) := Lib.hid (by
        rw [← HLF.out]
        unfold Pm.left
        rw [HAA.out]
        simp only
        rw [← HV.out, ← HU.out, ← IB.out, List.find?_eq_none.2 (fun p hp => by have h : decide (p.2.k = v) = false := hall p hp; rw [h]; simp)])
      clear hall
      go_upto_region 17 with (go_at_call 85; refine HIX.out.mono ?_; rintro e w3 ⟨rfl, f3⟩; rw [HM.out]; have F3 := Lib.hid f3; clear f3)
      clear e18
      have HB3 := Lib.hid (HB2.out.fr0 F3.out)
      have HO3 := Lib.hid (HO1'.out.fr F3.out (by simp))
      have e17 := HB3.out.c17
      have e19 := HB3.out.c19
      have e20 := HB3.out.c20
      cases pb with
      | none =>
        go_quiet (fail)
        go_wp2
        go_ret2
        exact ⟨_, _, _, Pm.rest L c, false, rfl, HO3.out.fr ((Fr.refl [] w3).drewN _) (by simp), by rw [HE.out]; rfl, Nat.le_succ_of_le HRL.out, (FA.out.trans F3.out).drewN _⟩
      | some ab =>
        by_cases huv : u = v
        · have g9 : (u == v) = true := by simp [huv]
          have HE2 : Hid (LF = some (Pm.rest L c)) := Lib.hid (by rw [HE.out]; simp [huv])
          have HUV := Lib.hid huv
          clear huv
          go_quiet (fail)
          go_wp2
          go_ret2
          exact ⟨_, _, _, Pm.rest L c, true, rfl, HO3.out.fr ((Fr.refl [] w3).drewN _) (by simp), by rw [HE2.out]; rfl, Nat.le_succ_of_le HRL.out, (FA.out.trans F3.out).drewN _⟩
        · have g9 : (u == v) = false := by simp [huv]
          have HE2 : Hid (LF = none) := Lib.hid (by rw [HE.out]; simp [huv])
          have HUV := Lib.hid huv
          clear huv
          go_quiet (fail)
          go_wp2
          go_ret2
          exact ⟨_, _, _, Pm.rest L c, false, rfl, HO3.out.fr ((Fr.refl [] w3).drewN _) (by simp), by rw [HE2.out]; rfl, Nat.le_succ_of_le HRL.out, (FA.out.trans F3.out).drewN _⟩
    · have HM : Hid (idxP (fun p : PairV => decide (p.2.k = v)) L 0 = (k : Int)) := Lib.hid (by rw [idxP_hit 0 k hk hbefore hit, Nat.zero_add])
      have HE : Hid (LF = some (Pm.ins (fun x : PairV => Pm.behind q a x.1) (a, L[k].2) (Pm.rest L c))) := Lib.hid (by
        rw [← HLF.out]
        unfold Pm.left
        rw [HAA.out]
        simp only
        rw [← HV.out, find_at hk hbefore hit])
      obtain ⟨-, h0 | ⟨g, cur, rfl, -⟩⟩ := HO2.out.blk
      · rw [h0.2.1] at hk
        simp at hk
      obtain ⟨y, hy⟩ : ∃ y, L[k].2 = y := ⟨_, rfl⟩
      rw [hy] at HE
      have HRC : Hid (∀ W, Fr [] w2 W → ∀ j, j < 5 → W.cell? ⟨g, k * 10 + 5 + j, none⟩ = y.cells[j]?) := Lib.hid (fun W hf j hj => by
        obtain ⟨g', cap', hv', -, -, -, hcell, -⟩ := (HO2.out.fr hf (by simp)).form PairV.cells_len (by omega)
        injection hv' with e1 e2 e3
        injection e1 with e1
        injection e1 with e1
        subst e1
        have h := hcell k hk (5 + j) (by omega)
        rw [← hy, Nat.add_assoc, h]
        have hj3 : j = 0 ∨ j = 1 ∨ j = 2 ∨ j = 3 ∨ j = 4 := by omega
        rcases hj3 with e | e | e | e | e <;> rw [e] <;> rfl)
      have hk0 : ¬ ((k : Int) < 0) := by omega
      have hkn : (k : Int) < (n : Int) := by rw [HN.out]; omega
      have HPL : Hid ((Pm.ins (fun x : PairV => Pm.behind q a x.1) (a, y) (Pm.rest L c)).length ≤ L.length + 1) := Lib.hid (by
        have h : ∀ (p : PairV → Bool) (x : PairV) (l : List PairV), (Pm.ins p x l).length = l.length + 1 := fun p x l => by
          induction l with
          | nil => rfl
          | cons z l ih =>
            rw [Pm.ins]
            split <;> simp [ih]
        rw [h]
        have := HRL.out
        omega)
      clear hbefore hit hy hk
      go_upto_region 18 with (go_at_call 85; refine HIX.out.mono ?_; rintro e w3 ⟨rfl, f3⟩; rw [HM.out]; have F3 := Lib.hid f3; clear f3)
      clear e18
      have HB3 := Lib.hid (HB2.out.fr0 F3.out)
      have HGA3 := Lib.hid (HGA.out.fr F3.out (by simp))
      have HE3 := HB3.out
      have HBH := Lib.hid (pbehind_any q c pb u v ga a)
      go_upto_region 19 with (first
        | (refine wpList_load_row rfl _ _ rfl w.heap.size rfl 78 _ (0, 0) _ HE3 Try.underlying78 rfl (by kernel_rfl) ?_)
        | (go_at_call 73; refine (HBH.out w3 HGA3.out).mono ?_; rintro e w4 ⟨ge, gv, rfl, he4, hv4, f4, -, -⟩; have HE4 := Lib.hid he4; have HV4 := Lib.hid hv4; have F4 := Lib.hid f4; clear he4 hv4 f4))
      have FW : Hid (Fr [] w4 (w4.alloc (.cells #[.func (.func 81) #[] #[.pointer (some ⟨ge, 0, none⟩), .pointer (some ⟨gv, 0, none⟩)]] 93))) := Lib.hid ((Fr.refl _ _).alloc _)
      have HFB : Hid (Blk (w4.alloc (.cells #[.func (.func 81) #[] #[.pointer (some ⟨ge, 0, none⟩), .pointer (some ⟨gv, 0, none⟩)]] 93)) w4.heap.size 93 #[.func (.func 81) #[] #[.pointer (some ⟨ge, 0, none⟩), .pointer (some ⟨gv, 0, none⟩)]]) := Lib.hid (Blk.new _ _ _)
      generalize w4.alloc (.cells #[.func (.func 81) #[] #[.pointer (some ⟨ge, 0, none⟩), .pointer (some ⟨gv, 0, none⟩)]] 93) = w5 at *
      obtain ⟨gf, hgf⟩ : ∃ g, w4.heap.size = g := ⟨_, rfl⟩
      rw [hgf] at HFB ⊢
      clear hgf HE3
      have F25 := Lib.hid ((F3.out.trans F4.out).trans FW.out)
      have HB5 := Lib.hid (HB2.out.fr0 F25.out)
      have HGA5 := Lib.hid (HGA.out.fr F25.out (by simp))
      have HE5 := Lib.hid (HE4.out.fr0 FW.out)
      have HV5 := Lib.hid (HV4.out.fr FW.out (by simp))
      have HR5 := Lib.hid (HO1'.out.fr F25.out (by simp))
      obtain ⟨y0, y1, y2, y3, y4⟩ := y
      have HIN : Hid (∀ W, Fr [] w5 W → Calls Try.prog 87 #[.slice A1 n1 c1, PairV.val (a, ⟨y0, y1, y2, y3, y4⟩), .func (.func 88) #[] #[.pointer (some ⟨gf, 0, none⟩)]] W fun e w' => ∃ A' n' c', e = .returned (.slice A' n' c') ∧ Hid (OwnL 106 10 PairV.cells w' (.slice A' n' c') (Pm.ins (fun x : PairV => Pm.behind q a x.1) (a, ⟨y0, y1, y2, y3, y4⟩) (Pm.rest L c))) ∧ Hid (Fr (sliceB A1) W w')) := Lib.hid (fun W hf => by
        have ho := HR5.out.fr hf (by simp)
        refine (pairInserted_any 88 #[.pointer (some ⟨gf, 0, none⟩)] (fun x : PairV => Pm.behind q a x.1) A1 n1 c1 _ (a, ⟨y0, y1, y2, y3, y4⟩) W ho (by rw [ho.blk.1]; exact Nat.le_trans HRL.out (by rw [← HN.out]; exact HX0.out)) (enters_of Try.func88 (by kernel_rfl) rfl) (fun W' x hf' => ?_)).mono ?_
        · have h2 := hf.trans hf'
          exact pj4_any q c pb u v ga ge gv gf a x W' ((HFB.out.fr h2 (by simp)).cell 0) (HFB.out.fr h2 (by simp)).lt (HE5.out.fr0 h2) (HV5.out.fr h2 (by simp)) (HGA5.out.fr h2 (by simp))
        · rintro e w' ⟨A', n', c', rfl, h1, h2, -⟩
          exact ⟨A', n', c', rfl, Lib.hid h1, Lib.hid h2⟩)
      obtain ⟨a0, a1, a2, a3, a4⟩ := a
      have e18 := HB5.out.c18
      have d0 : w5.cell? ⟨g, k * 10 + 5, none⟩ = some (.int .i64 y0) := HRC.out w5 F25.out 0 (by decide)
      have d1 : w5.cell? ⟨g, k * 10 + 5 + 1, none⟩ = some (.int .i64 y1) := HRC.out w5 F25.out 1 (by decide)
      have d2 : w5.cell? ⟨g, k * 10 + 5 + 2, none⟩ = some (.int .i64 y2) := HRC.out w5 F25.out 2 (by decide)
      have d3 : w5.cell? ⟨g, k * 10 + 5 + 3, none⟩ = some (.int .i64 y3) := HRC.out w5 F25.out 3 (by decide)
      have d4 : w5.cell? ⟨g, k * 10 + 5 + 4, none⟩ = some (.int .i64 y4) := HRC.out w5 F25.out 4 (by decide)
      have b0 : w5.cell? ⟨ga, 0, none⟩ = some (.int .i64 a0) := HGA5.out.cell 0
      have b1 : w5.cell? ⟨ga, 1, none⟩ = some (.int .i64 a1) := HGA5.out.cell 1
      have b2 : w5.cell? ⟨ga, 2, none⟩ = some (.int .i64 a2) := HGA5.out.cell 2
      have b3 : w5.cell? ⟨ga, 3, none⟩ = some (.int .i64 a3) := HGA5.out.cell 3
      have b4 : w5.cell? ⟨ga, 4, none⟩ = some (.int .i64 a4) := HGA5.out.cell 4
      go_still_tail 12, (by kernel_rfl)
      change wpList _ _ _ _ _ w5.drew
      clear e18 d0 d1 d2 d3 d4 b0 b1 b2 b3 b4
      go_wp2_with (go_at_call 87; refine (HIN.out _ (Fr.refl [] w5).drew).mono ?_; rintro e w6 ⟨A6, n6, c6, rfl, HO6, HF6⟩)
      go_ret2
      exact ⟨_, _, _, _, true, rfl, HO6.out, by rw [HE.out]; rfl, HPL.out, (FA.out.trans F25.out).drew.trans' HF6.out (fun i hi => by obtain ⟨ad, h1, h2⟩ := mem_sliceB.1 hi; have := HG2.out ad h1; exact .inr (by omega))⟩
/-- The pairs after a change. -/
theorem pjoin_any (q : Qry) (c : Chg) (pb pa : Option Addr) (u v : Int) (hu : u = Pm.old q c) (hv : v = Pm.now q c) (Y : Option Addr) (n cap : Nat) (L : List PairV) (w : World) (ho : OwnL 106 10 PairV.cells w (.slice Y n cap) L) (hl : n ≤ 100000) (hpb : PtrR w pb (Pm.B q c)) (hpa : PtrR w pa (Pm.A q c)) :
    Calls Try.prog 75 #[.agg (effArr q c pb pa u v), .slice Y n cap] w fun e w' => ∃ A' n' c' L' k, e = .returned (.tuple #[.slice A' n' c', .bool k]) ∧ OwnL 106 10 PairV.cells w' (.slice A' n' c') L' ∧ Pm.join q L c = (if k = true then some L' else none) ∧ L'.length ≤ L.length + 1 ∧ Fr (sliceB Y) w w' := by
  by_cases ht : c.t = q.other
  · cases hh : c.has with
    | false =>
      refine (pjoinO_any q c pb pa u v Y n cap L w ho hl ht hh).mono ?_
      rintro e w' ⟨A', n', c', rfl, h1, h2⟩
      refine ⟨A', n', c', _, _, rfl, h1, ?_, Nat.le_succ_of_le (List.length_filter_le _ _), h2.mono (by simp)⟩
      unfold Pm.join Pm.other Pm.aft
      rw [if_pos ht, hh]
      rfl
    | true =>
      refine (pjoinS_any q c pb pa u v Y n cap L w ho hl ht hh).mono ?_
      rintro e w' ⟨rfl, h1, h2⟩
      refine ⟨Y, n, cap, _, _, rfl, h1, ?_, ?_, h2⟩
      · unfold Pm.join
        rw [if_pos ht]
      · unfold Pm.other Pm.aft
        rw [hh]
        simp
  · refine (pjoinL_any q c pb pa u v hu hv Y n cap L w ho hl ht hpb hpa).mono ?_
    rintro e w' ⟨A', n', c', L', k, rfl, h1, h2, h3, h4⟩
    refine ⟨A', n', c', L', k, rfl, h1, ?_, h3, h4.mono (by simp)⟩
    unfold Pm.join
    rw [if_neg ht]
    exact h2
end Go.Proofs.Ytjiikpmkedkbkaa
namespace Go.Proofs.Ytjiikpmkedkbkaa
open Go.RowKit

theorem pairs_len : ∀ L : List RowV, (Pm.pairs L).length = L.length / 2
  | [] => rfl
  | [_] => by simp [Pm.pairs]
  | _ :: _ :: l => by
    rw [Pm.pairs, List.length_cons, pairs_len l, List.length_cons, List.length_cons]
    omega
theorem pairs_get : ∀ (L : List RowV) (j : Nat) (h : 2 * j + 1 < L.length), (Pm.pairs L)[j]? = some (L[2 * j], L[2 * j + 1])
  | [], j, h => by simp at h
  | [_], j, h => by simp at h
  | x :: y :: l, 0, _ => rfl
  | x :: y :: l, j + 1, h => by
    rw [Pm.pairs, List.getElem?_cons_succ, pairs_get l j (by simp only [List.length_cons] at h; omega)]
    rfl
theorem flat_len2 (l : List (RowV × RowV)) : (Pm.flat l).length = 2 * l.length := by
  unfold Pm.flat
  induction l with
  | nil => rfl
  | cons p l ih => rw [List.flatMap_cons, List.length_append, ih]; simp; omega
theorem flat_snoc (l : List (RowV × RowV)) (p : RowV × RowV) : Pm.flat (l ++ [p]) = Pm.flat l ++ [p.1, p.2] := by simp [Pm.flat]
/-- A row that has been made since w. -/
structure MkRel (X : Type) (e size : Nat) (enc : X → List Value) (w wr : World) (v : Value) (R : List X) : Prop where
  row : OwnL e size enc wr v R
  fr : Fr [] w wr
  own : ∀ g, v.ownBlock = some g → w.heap.size ≤ g
theorem MkRel.grow {X : Type} {e size : Nat} {enc : X → List Value} {w wr W w5 : World} {v v5 : Value} {R R2 : List X} (h : MkRel X e size enc w wr v R) (hf : Fr [] wr W) (hr : OwnL e size enc w5 v5 R2) (hg : W.grownBy w5 v.ownBlock) (ha : v5.ownBlock = v.ownBlock ∨ v5.ownBlock = some W.heap.size) : MkRel X e size enc w w5 v5 R2 :=
  ⟨hr, (h.fr.trans hf).grown hg (fun g hg => .inr (h.own g hg)), fun g hg => by
    rcases ha with h1 | h1
    · exact h.own g (h1 ▸ hg)
    · rw [h1] at hg
      injection hg with hg
      have := h.fr.size
      have := hf.size
      omega⟩
/-- What a loop over pairs keeps, which appends rows to a result's field. -/
structure FlRel (w wr : World) (rb rz : Nat) (m : Int) (f : Bool) (A2 : Option Addr) (n2 c2 : Nat) (L2 : List PairV) (A5 : Option Addr) (n5 c5 : Nat) (R : List RowV) : Prop where
  row : OwnL 57 5 RowV.cells wr (.slice A5 n5 c5) R
  prs : OwnL 106 10 PairV.cells wr (.slice A2 n2 c2) L2
  res : Blk wr rb 27 #[.slice A5 n5 c5, .int .i64 m, .bool f]
  zer : Blk wr rz 27 #[.slice none 0 0, .int .i64 0, .bool false]
  fr : Fr [] w wr
  own : ∀ g, (Value.slice A5 n5 c5).ownBlock = some g → w.heap.size ≤ g
theorem FlRel.step {w wr W w5 : World} {rb rz : Nat} {m : Int} {f : Bool} {A2 : Option Addr} {n2 c2 : Nat} {L2 : List PairV} {A5 : Option Addr} {n5 c5 : Nat} {A6 : Option Addr} {n6 c6 : Nat} {R R2 : List RowV} (h : FlRel w wr rb rz m f A2 n2 c2 L2 A5 n5 c5 R) (hrb : w.heap.size ≤ rb) (hne : rz ≠ rb) (hf : Fr [] wr W)
    (hr : OwnL 57 5 RowV.cells w5 (.slice A6 n6 c6) R2) (hg : W.grownBy w5 (Value.slice A5 n5 c5).ownBlock) (ha : (Value.slice A6 n6 c6).ownBlock = (Value.slice A5 n5 c5).ownBlock ∨ (Value.slice A6 n6 c6).ownBlock = some W.heap.size) :
    Blk w5 rb 27 #[.slice A5 n5 c5, .int .i64 m, .bool f] ∧ FlRel w (w5.setCell ⟨rb, 0, none⟩ (.slice A6 n6 c6)) rb rz m f A2 n2 c2 L2 A6 n6 c6 R2 := by
  have hrowW := h.row.fr hf (by simp)
  have hprsW := h.prs.fr hf (by simp)
  have hresW := h.res.fr hf (by simp)
  have hzerW := h.zer.fr hf (by simp)
  have hno : ∀ {b tt : Nat} {cs : Array Value}, Blk W b tt cs → 57 ≠ tt → some b ≠ (Value.slice A5 n5 c5).ownBlock := fun {b tt cs} hb hne e => hrowW.ne hb hne e.symm rfl
  have hres5 := hresW.grown hg (hno hresW (by decide))
  have hzer5 := hzerW.grown hg (hno hzerW (by decide))
  have hprs5 : OwnL 106 10 PairV.cells w5 (.slice A2 n2 c2) L2 := hprsW.of_block (fun g hgg => hg.block g (hprsW.lt hgg) (fun e => by
    obtain ⟨-, h0 | ⟨g', cur, hA, hb, -⟩⟩ := hprsW.blk
    · rw [h0.1] at hgg; cases hgg
    · rw [hA] at hgg
      injection hgg with hgg
      subst hgg
      exact hno hb (by decide) e))
  have hfs : Fr [rb] w5 (w5.setCell ⟨rb, 0, none⟩ (.slice A6 n6 c6)) := (Fr.refl _ _).setCell (.inl (by simp)) _
  refine ⟨hres5, ⟨hr.fr hfs (fun g hgg => ?_), hprs5.fr hfs (fun g hgg => ?_), hres5.set_ 0 _, hzer5.fr hfs (by simpa using hne), ((h.fr.trans hf).grown hg (fun g hg => .inr (h.own g hg))).trans' hfs (fun i hi => .inr (by rw [List.mem_singleton] at hi; omega)), fun g hgg => ?_⟩⟩
  · have := hr.ne hres5 (by decide) hgg
    simpa using this
  · have := hprs5.ne hres5 (by decide) hgg
    simpa using this
  · rcases ha with h1 | h1
    · exact h.own g (h1 ▸ hgg)
    · rw [h1] at hgg
      injection hgg with hgg
      have := h.fr.size
      have := hf.size
      omega
/-- What a patch of a result leaves: rows where it is known. -/
def JP (w w' : World) (J : Option (List RowV)) (A : Option Addr) (n : Nat) (k : Bool) (b : Nat) : Prop :=
  (k = true → ∃ L', J = some L' ∧ AtL RowV.cells 5 w' A L' ∧ n = L'.length ∧ n ≤ b) ∧ (k = false → J = none) ∧ Fr [] w w'
set_option maxRecDepth 100000 in
set_option maxHeartbeats 8000000 in
theorem pjoinP_any (q : Qry) (c : Chg) (pb pa : Option Addr) (u v : Int) (hu : u = Pm.old q c) (hv : v = Pm.now q c) (X : Option Addr) (n cap : Nat) (m : Int) (f : Bool) (L : List RowV) (w : World) (hx : AtL RowV.cells 5 w X L) (hn : n = L.length) (hl : n ≤ 50000) (hpb : PtrR w pb (Pm.B q c)) (hpa : PtrR w pa (Pm.A q c)) :
    Calls Try.prog 60 #[.agg (effArr q c pb pa u v), .agg #[.slice X n cap, .int .i64 m, .bool f]] w fun e w' => ∃ A' n' c' k, e = .returned (.tuple #[.agg #[.slice A' n' c', .int .i64 m, .bool f], .bool k]) ∧ JP w w' (if q.table = q.other then none else (Pm.join q (Pm.pairs L) c).map Pm.flat) A' n' k (n + 2) := by
  have F0 : Hid (Fr [] w (((w.alloc (.cells (effArr q c pb pa u v) 78)).alloc (.cells #[.slice X n cap, .int .i64 m, .bool f] 27)).alloc (.cells #[.slice none 0 0, .int .i64 0, .bool false] 27))) := Lib.hid ((((Fr.refl _ _).alloc _).alloc _).alloc _)
  have HB : Hid (EffAt (((w.alloc (.cells (effArr q c pb pa u v) 78)).alloc (.cells #[.slice X n cap, .int .i64 m, .bool f] 27)).alloc (.cells #[.slice none 0 0, .int .i64 0, .bool false] 27)) w.heap.size q c pb pa u v) := Lib.hid (Blk.alloc (Blk.alloc (EffAt.new w q c pb pa u v) _) _)
  have hr := Blk.new (w.alloc (.cells (effArr q c pb pa u v) 78)) 27 #[.slice X n cap, .int .i64 m, .bool f]
  rw [World.size_alloc] at hr
  have HR : Hid (Blk (((w.alloc (.cells (effArr q c pb pa u v) 78)).alloc (.cells #[.slice X n cap, .int .i64 m, .bool f] 27)).alloc (.cells #[.slice none 0 0, .int .i64 0, .bool false] 27)) (w.heap.size + 1) 27 #[.slice X n cap, .int .i64 m, .bool f]) := Lib.hid (hr.alloc _)
  have hz := Blk.new ((w.alloc (.cells (effArr q c pb pa u v) 78)).alloc (.cells #[.slice X n cap, .int .i64 m, .bool f] 27)) 27 #[.slice none 0 0, .int .i64 0, .bool false]
  rw [World.size_alloc, World.size_alloc] at hz
  have HZ := Lib.hid hz
  have HS3 : Hid ((((w.alloc (.cells (effArr q c pb pa u v) 78)).alloc (.cells #[.slice X n cap, .int .i64 m, .bool f] 27)).alloc (.cells #[.slice none 0 0, .int .i64 0, .bool false] 27)).heap.size = w.heap.size + 3) := Lib.hid (by simp [World.size_alloc])
  have HX := Lib.hid (hx.fr0 F0.out)
  have HPA := Lib.hid (hpa.fr0 F0.out)
  have HPB := Lib.hid (hpb.fr0 F0.out)
  have HN := Lib.hid hn
  have HU := Lib.hid hu
  have HV := Lib.hid hv
  clear hr hz hx hpa hpb hn hu hv
  obtain ⟨JJ, HJJ⟩ : ∃ l, Hid ((if q.table = q.other then none else (Pm.join q (Pm.pairs L) c).map Pm.flat) = l) := ⟨_, Lib.hid rfl⟩
  rw [HJJ.out]
  go_enter Try.func60, Try.ntmps60
  go_upto_region 1 with (fail)
  generalize (((w.alloc (.cells (effArr q c pb pa u v) 78)).alloc (.cells #[.slice X n cap, .int .i64 m, .bool f] 27)).alloc (.cells #[.slice none 0 0, .int .i64 0, .bool false] 27)) = w1 at *
  have e1 := HB.out.c1
  have e6 := HB.out.c6
  by_cases hto : q.table = q.other
  · have g1 : (q.table == q.other) = true := by simp [hto]
    have HTO := Lib.hid hto
    clear hto
    go_upto_region 2 with (fail)
    have HRF := HR.out
    have HZF := HZ.out
    go_wp2_with (first
      | (refine wpList_load_row rfl _ _ rfl (w.heap.size + 1) rfl 27 _ (0, 0) _ HRF Try.underlying27 rfl (by kernel_rfl) ?_)
      | (refine wpList_store_blk rfl _ _ _ rfl (w.heap.size + 1 + 1) #[.slice X n cap, .int .i64 m, .bool f] rfl rfl 27 _ HZF (by kernel_rfl) rfl rfl ?_; intro w9 hb9 hf9; have HB9 := Lib.hid hb9; have HF9 := Lib.hid hf9; clear hb9 hf9))
    have q0 := HB9.out.cell 0
    have q1 := HB9.out.cell 1
    have q2 := HB9.out.cell 2
    refine bodyPost_ret (v := .tuple #[.agg #[.slice X n cap, .int .i64 m, .bool f], .bool false]) (by simp [results, Try.results60, go_sem, q0, q1, q2]) rfl ⟨_, _, _, _, rfl, fun h => (by cases h), fun _ => (by rw [← HJJ.out, if_pos HTO.out]), F0.out.trans' HF9.out (fun i hi => .inr (by rw [List.mem_singleton] at hi; omega))⟩
  · have g1 : (q.table == q.other) = false := by simp [hto]
    have HTO := Lib.hid hto
    clear hto
    have HJ2 : Hid (JJ = (Pm.join q (Pm.pairs L) c).map Pm.flat) := Lib.hid (by rw [← HJJ.out, if_neg HTO.out])
    go_upto_region 3 with (fail)
    clear e1 e6
    have hpl := pairs_len L
    obtain ⟨i0, TR⟩ := etPairP
    go_wp2_with fail
    go_loopw [6, 7] (fun i6 i7 wr => ∃ (j N : Nat) (Ao : Option Addr) (no co : Nat), i6 = .slice Ao no co ∧ i7 = .int .i64 N ∧ Hid (N = 2 * j) ∧ N ≤ n + 1 ∧ Hid (j ≤ (Pm.pairs L).length) ∧ Hid (MkRel PairV 106 10 PairV.cells w1 wr (.slice Ao no co) ((Pm.pairs L).take j))) (fun i6 i7 _ => n + 2 - (intOf i7).toNat)
    case atStart => exact ⟨0, 0, none, 0, 0, rfl, rfl, Lib.hid rfl, Nat.zero_le _, Lib.hid (Nat.zero_le _), Lib.hid ⟨OwnL.nil, Fr.refl _ _, fun g hg => by simp [Value.ownBlock] at hg⟩⟩
    case round =>
      obtain ⟨j, N, Ao, no, co, rfl, rfl, HNJ, hN, HJ, R⟩ := hrel
      have c0 : wr.cell? ⟨w.heap.size + 1, 0, none⟩ = some (.slice X n cap) := (HR.out.fr R.out.fr (by simp)).cell 0
      have hn1 : IntKind.i64.wrap ((N : Int) + 1) = (N : Int) + 1 := by rw [IntKind.wrap_i64]; omega
      have ht1 : ((N : Int) + 1).toNat = N + 1 := by omega
      by_cases hlt : N + 1 < n
      · have hlt' : (N : Int) + 1 < (n : Int) := by omega
        have hq0 : (0 : Int) ≤ (N : Int) := by omega
        have hq1 : (N : Int) < (n : Int) := by omega
        have hq2 : (0 : Int) ≤ (N : Int) + 1 := by omega
        have hj2 : 2 * j + 1 < L.length := by have := HNJ.out; have := HN.out; omega
        obtain ⟨b, off, rfl, hb, hc⟩ := (HX.out.fr0 R.out.fr) (by omega)
        have ha := hc (2 * j) (by omega)
        have hd := hc (2 * j + 1) hj2
        have hpg := pairs_get L j hj2
        have HTK : Hid ((Pm.pairs L).take (j + 1) = (Pm.pairs L).take j ++ [(L[2 * j], L[2 * j + 1])]) := Lib.hid (by
          have hjl : j < (Pm.pairs L).length := (List.getElem?_eq_some_iff.1 hpg).1
          rw [List.take_succ_eq_append_getElem hjl, (List.getElem?_eq_some_iff.1 hpg).2])
        have HJ1 : Hid (j + 1 ≤ (Pm.pairs L).length) := Lib.hid (List.getElem?_eq_some_iff.1 hpg).1
        have HJB : Hid (((Pm.pairs L).take j).length + 1 ≤ 50000) := Lib.hid (by rw [List.length_take]; have := HJ1.out; have := HN.out; omega)
        have HBA := Lib.hid ha
        have HBD := Lib.hid hd
        have HLT : Hid (w.heap.size + 1 < wr.heap.size ∧ b < wr.heap.size) := Lib.hid ⟨by have := HS3.out; have := R.out.fr.size; omega, hb⟩
        clear hb hc hpg ha hd hlt
        generalize L[2 * j] = x at *
        generalize L[2 * j + 1] = y at *
        clear hj2
        rw [← HNJ.out] at HBA HBD
        obtain ⟨x0, x1, x2, x3, x4⟩ := x
        obtain ⟨y0, y1, y2, y3, y4⟩ := y
        have a0 : wr.cell? ⟨b, off + N * 5, none⟩ = some (.int .i64 x0) := HBA.out 0 (by decide)
        have a1 : wr.cell? ⟨b, off + N * 5 + 1, none⟩ = some (.int .i64 x1) := HBA.out 1 (by decide)
        have a2 : wr.cell? ⟨b, off + N * 5 + 2, none⟩ = some (.int .i64 x2) := HBA.out 2 (by decide)
        have a3 : wr.cell? ⟨b, off + N * 5 + 3, none⟩ = some (.int .i64 x3) := HBA.out 3 (by decide)
        have a4 : wr.cell? ⟨b, off + N * 5 + 4, none⟩ = some (.int .i64 x4) := HBA.out 4 (by decide)
        have d0 : wr.cell? ⟨b, off + (N + 1) * 5, none⟩ = some (.int .i64 y0) := HBD.out 0 (by decide)
        have d1 : wr.cell? ⟨b, off + (N + 1) * 5 + 1, none⟩ = some (.int .i64 y1) := HBD.out 1 (by decide)
        have d2 : wr.cell? ⟨b, off + (N + 1) * 5 + 2, none⟩ = some (.int .i64 y2) := HBD.out 2 (by decide)
        have d3 : wr.cell? ⟨b, off + (N + 1) * 5 + 3, none⟩ = some (.int .i64 y3) := HBD.out 3 (by decide)
        have d4 : wr.cell? ⟨b, off + (N + 1) * 5 + 4, none⟩ = some (.int .i64 y4) := HBD.out 4 (by decide)
        have HOA : Hid (OwnL 106 10 PairV.cells (wr.drew.alloc (.cells #[.int .i64 x0, .int .i64 x1, .int .i64 x2, .int .i64 x3, .int .i64 x4, .int .i64 y0, .int .i64 y1, .int .i64 y2, .int .i64 y3, .int .i64 y4] 106)) (.slice Ao no co) ((Pm.pairs L).take j)) := Lib.hid (R.out.row.fr ((Fr.refl [] wr).drew.alloc _) (by simp))
        have HRD : Hid (Reads (wr.drew.alloc (.cells #[.int .i64 x0, .int .i64 x1, .int .i64 x2, .int .i64 x3, .int .i64 x4, .int .i64 y0, .int .i64 y1, .int .i64 y2, .int .i64 y3, .int .i64 y4] 106)) (wr.drew.heap.size + 1) 10 (some ⟨wr.drew.heap.size, 0, none⟩) 1 ([((⟨x0, x1, x2, x3, x4⟩, ⟨y0, y1, y2, y3, y4⟩) : PairV)].flatMap PairV.cells)) := Lib.hid (reads_new (enc := PairV.cells) wr.drew 106 (⟨x0, x1, x2, x3, x4⟩, ⟨y0, y1, y2, y3, y4⟩) rfl)
        go_upto_region 7 with (fail)
        have HSW : Hid (∀ W, Fr [] wr W → W.cell? ⟨w.heap.size + 1, 0, none⟩ = some (.slice (some ⟨b, off, none⟩) n cap) ∧ W.cell? ⟨b, off + N * 5, none⟩ = some (.int .i64 x0) ∧ W.cell? ⟨b, off + N * 5 + 1, none⟩ = some (.int .i64 x1) ∧ W.cell? ⟨b, off + N * 5 + 2, none⟩ = some (.int .i64 x2) ∧ W.cell? ⟨b, off + N * 5 + 3, none⟩ = some (.int .i64 x3) ∧ W.cell? ⟨b, off + N * 5 + 4, none⟩ = some (.int .i64 x4) ∧ W.cell? ⟨b, off + (N + 1) * 5, none⟩ = some (.int .i64 y0) ∧ W.cell? ⟨b, off + (N + 1) * 5 + 1, none⟩ = some (.int .i64 y1) ∧ W.cell? ⟨b, off + (N + 1) * 5 + 2, none⟩ = some (.int .i64 y2) ∧ W.cell? ⟨b, off + (N + 1) * 5 + 3, none⟩ = some (.int .i64 y3) ∧ W.cell? ⟨b, off + (N + 1) * 5 + 4, none⟩ = some (.int .i64 y4)) := Lib.hid (fun W hf => ⟨(hf.rules.1 _ _ HLT.out.1).trans c0, (hf.rules.1 _ _ HLT.out.2).trans a0, (hf.rules.1 _ _ HLT.out.2).trans a1, (hf.rules.1 _ _ HLT.out.2).trans a2, (hf.rules.1 _ _ HLT.out.2).trans a3, (hf.rules.1 _ _ HLT.out.2).trans a4, (hf.rules.1 _ _ HLT.out.2).trans d0, (hf.rules.1 _ _ HLT.out.2).trans d1, (hf.rules.1 _ _ HLT.out.2).trans d2, (hf.rules.1 _ _ HLT.out.2).trans d3, (hf.rules.1 _ _ HLT.out.2).trans d4⟩)
        refine wp_region_head (fun W => W.cell? ⟨w.heap.size + 1, 0, none⟩ = some (.slice (some ⟨b, off, none⟩) n cap) ∧ W.cell? ⟨b, off + N * 5, none⟩ = some (.int .i64 x0) ∧ W.cell? ⟨b, off + N * 5 + 1, none⟩ = some (.int .i64 x1) ∧ W.cell? ⟨b, off + N * 5 + 2, none⟩ = some (.int .i64 x2) ∧ W.cell? ⟨b, off + N * 5 + 3, none⟩ = some (.int .i64 x3) ∧ W.cell? ⟨b, off + N * 5 + 4, none⟩ = some (.int .i64 x4) ∧ W.cell? ⟨b, off + (N + 1) * 5, none⟩ = some (.int .i64 y0) ∧ W.cell? ⟨b, off + (N + 1) * 5 + 1, none⟩ = some (.int .i64 y1) ∧ W.cell? ⟨b, off + (N + 1) * 5 + 2, none⟩ = some (.int .i64 y2) ∧ W.cell? ⟨b, off + (N + 1) * 5 + 3, none⟩ = some (.int .i64 y3) ∧ W.cell? ⟨b, off + (N + 1) * 5 + 4, none⟩ = some (.int .i64 y4)) 14 (by kernel_rfl) (by kernel_rfl) (HSW.out _ (Fr.refl [] wr).drew) (fun hHeld => ?_)
        refine wpHead_take (i := 0) (oi := ⟨some 27, _, _, _, _, _⟩) (v := ?_) rfl (by kernel_rfl) (fun _ _ _ h => h) (Or.inl ⟨by rfl, ?_⟩) hHeld ?_
        rotate_left
        · (intro w hSw; (try dsimp only at hSw); go_simp; try with_reducible rfl)
        try simp only [Act.put, List.setIfInBounds_toArray, List.set_cons_zero, List.set_cons_succ]
        refine wpHead_take (i := 1) (oi := ⟨some 28, _, _, _, _, _⟩) (v := ?_) rfl (by kernel_rfl) (fun _ _ _ h => h) (Or.inl ⟨by rfl, ?_⟩) hHeld ?_
        rotate_left
        · (intro w hSw; (try dsimp only at hSw); go_simp; try with_reducible rfl)
        try simp only [Act.put, List.setIfInBounds_toArray, List.set_cons_zero, List.set_cons_succ]
        refine wpHead_take (i := 2) (oi := ⟨some 29, _, _, _, _, _⟩) (v := ?_) rfl (by kernel_rfl) (fun _ _ _ h => h) (Or.inl ⟨by rfl, ?_⟩) hHeld ?_
        rotate_left
        · (intro w hSw; (try dsimp only at hSw); go_simp; try with_reducible rfl)
        try simp only [Act.put, List.setIfInBounds_toArray, List.set_cons_zero, List.set_cons_succ]
        refine wpHead_take (i := 3) (oi := ⟨some 30, _, _, _, _, _⟩) (v := ?_) rfl (by kernel_rfl) (fun _ _ _ h => h) (Or.inl ⟨by rfl, ?_⟩) hHeld ?_
        rotate_left
        · (intro w hSw; (try dsimp only at hSw); go_simp; try with_reducible rfl)
        try simp only [Act.put, List.setIfInBounds_toArray, List.set_cons_zero, List.set_cons_succ]
        refine wpHead_take (i := 4) (oi := ⟨some 31, _, _, _, _, _⟩) (v := ?_) rfl (by kernel_rfl) (fun _ _ _ h => h) (Or.inl ⟨by rfl, ?_⟩) hHeld ?_
        rotate_left
        · (intro w hSw; (try dsimp only at hSw); go_simp; try with_reducible rfl)
        try simp only [Act.put, List.setIfInBounds_toArray, List.set_cons_zero, List.set_cons_succ]
        refine wpHead_take (i := 5) (oi := ⟨some 32, _, _, _, _, _⟩) (v := ?_) rfl (by kernel_rfl) (fun _ _ _ h => h) (Or.inl ⟨by rfl, ?_⟩) hHeld ?_
        rotate_left
        · (intro w hSw; (try dsimp only at hSw); go_simp; try with_reducible rfl)
        try simp only [Act.put, List.setIfInBounds_toArray, List.set_cons_zero, List.set_cons_succ]
        refine wpHead_take (i := 6) (oi := ⟨some 33, _, _, _, _, _⟩) (v := ?_) rfl (by kernel_rfl) (fun _ _ _ h => h) (Or.inl ⟨by rfl, ?_⟩) hHeld ?_
        rotate_left
        · (intro w hSw; (try dsimp only at hSw); go_simp; try with_reducible rfl)
        try simp only [Act.put, List.setIfInBounds_toArray, List.set_cons_zero, List.set_cons_succ]
        refine wpHead_take (i := 7) (oi := ⟨some 34, _, _, _, _, _⟩) (v := ?_) rfl (by kernel_rfl) (fun _ _ _ h => h) (Or.inl ⟨by rfl, ?_⟩) hHeld ?_
        rotate_left
        · (intro w hSw; (try dsimp only at hSw); go_simp; try with_reducible rfl)
        try simp only [Act.put, List.setIfInBounds_toArray, List.set_cons_zero, List.set_cons_succ]
        refine wpHead_take (i := 8) (oi := ⟨some 35, _, _, _, _, _⟩) (v := ?_) rfl (by kernel_rfl) (fun _ _ _ h => h) (Or.inl ⟨by rfl, ?_⟩) hHeld ?_
        rotate_left
        · (intro w hSw; (try dsimp only at hSw); go_simp; try with_reducible rfl)
        try simp only [Act.put, List.setIfInBounds_toArray, List.set_cons_zero, List.set_cons_succ]
        refine wpHead_take (i := 9) (oi := ⟨some 36, _, _, _, _, _⟩) (v := ?_) rfl (by kernel_rfl) (fun _ _ _ h => h) (Or.inl ⟨by rfl, ?_⟩) hHeld ?_
        rotate_left
        · (intro w hSw; (try dsimp only at hSw); go_simp; try with_reducible rfl)
        try simp only [Act.put, List.setIfInBounds_toArray, List.set_cons_zero, List.set_cons_succ]
        refine wpHead_take (i := 10) (oi := ⟨some 37, _, _, _, _, _⟩) (v := ?_) rfl (by kernel_rfl) (fun _ _ _ h => h) (Or.inl ⟨by rfl, ?_⟩) hHeld ?_
        rotate_left
        · (intro w hSw; (try dsimp only at hSw); go_simp; try with_reducible rfl)
        try simp only [Act.put, List.setIfInBounds_toArray, List.set_cons_zero, List.set_cons_succ]
        refine wpHead_take (i := 11) (oi := ⟨some 38, _, _, _, _, _⟩) (v := ?_) rfl (by kernel_rfl) (fun _ _ _ h => h) (Or.inl ⟨by rfl, ?_⟩) hHeld ?_
        rotate_left
        · (intro w hSw; (try dsimp only at hSw); go_simp; try with_reducible rfl)
        try simp only [Act.put, List.setIfInBounds_toArray, List.set_cons_zero, List.set_cons_succ]
        refine wpHead_take (i := 12) (oi := ⟨some 39, _, _, _, _, _⟩) (v := ?_) rfl (by kernel_rfl) (fun _ _ _ h => h) (Or.inl ⟨by rfl, ?_⟩) hHeld ?_
        rotate_left
        · (intro w hSw; (try dsimp only at hSw); go_simp; try with_reducible rfl)
        try simp only [Act.put, List.setIfInBounds_toArray, List.set_cons_zero, List.set_cons_succ]
        refine wpHead_one (i := 13) (o := ⟨some 40, _, _, _, _, _⟩) rfl (by kernel_rfl) (by decide) (fun K hK => ?_)
        go_simp
        skip
        refine hK.out _ _ ?_ (fun hHeld => ?_)
        · exact HSW.out _ ((Fr.refl [] wr).drew.alloc _)
        clear hK K
        try simp only [Act.put, List.setIfInBounds_toArray, List.set_cons_zero, List.set_cons_succ]
        refine wpHead_done (by kernel_rfl) ?_
        simp only [List.drop_succ_cons, List.drop_zero]
        
        clear a0 a1 a2 a3 a4 d0 d1 d2 d3 d4 c0
        go_wp2_with (at_builtin; refine wpList_appendL rfl _ _ rfl TR PairV.cells_len PairV.cells_one rfl HOA.out _ _ _ _ [((⟨x0, x1, x2, x3, x4⟩, ⟨y0, y1, y2, y3, y4⟩) : PairV)] rfl rfl HRD.out (Nat.le_trans HJB.out (by decide)) (Nat.le_trans (Nat.mul_le_mul_right 80 HJB.out) (by decide)) ?_; intro v5 w5 hrow5 hg5 hat5; have HR5 := Lib.hid hrow5; have HG5 := Lib.hid hg5; have HA5 := Lib.hid hat5; obtain ⟨A5, n5, cap5, hv5⟩ : ∃ A n c, v5 = .slice A n c := (match hrow5.val with | ⟨_, _, hv⟩ => ⟨_, _, _, hv⟩); subst hv5; clear hrow5 hg5 hat5)
        have R2 : Hid (MkRel PairV 106 10 PairV.cells w1 w5 (.slice A5 n5 cap5) ((Pm.pairs L).take (j + 1))) := Lib.hid (R.out.grow ((Fr.refl [] wr).drew.alloc _) (by rw [HTK.out]; exact HR5.out) HG5.out HA5.out)
        go_roundw
        case rel => exact ⟨j + 1, N + 2, A5, n5, cap5, rfl, by go_num, Lib.hid (by have := HNJ.out; omega), by omega, HJ1, R2⟩
        case measure => simp [intOf]; omega
      · have hlt' : ¬ (N : Int) + 1 < (n : Int) := by omega
        have HR1 : Hid (MkRel PairV 106 10 PairV.cells w1 wr (.slice Ao no co) (Pm.pairs L)) := Lib.hid (by
          have h := R.out
          rwa [List.take_of_length_le (by have := HNJ.out; have := HN.out; omega)] at h)
        have HNO : Hid (no ≤ 100000) := Lib.hid (by have h := HR1.out.row.blk.1; rw [h, hpl]; have := HN.out; omega)
        have HB1 := Lib.hid (HB.out.fr0 HR1.out.fr)
        have HJC := Lib.hid (pjoin_any q c pb pa u v HU.out HV.out Ao no co (Pm.pairs L) wr HR1.out.row HNO.out (HPB.out.fr0 HR1.out.fr) (HPA.out.fr0 HR1.out.fr))
        have HE1 := HB1.out
        clear R HJ
        go_upto_region 9 with (first
          | (refine wpList_load_row rfl _ _ rfl w.heap.size rfl 78 _ (0, 0) _ HE1 Try.underlying78 rfl (by kernel_rfl) ?_)
          | (go_at_call 75; refine HJC.out.mono ?_; rintro e w4 ⟨A2, n2, c2, L2, k2, rfl, ho2, hj2, hl2, f2⟩; have HO2 := Lib.hid ho2; have HJ3 := Lib.hid hj2; have HL2 := Lib.hid hl2; have F2 := Lib.hid f2; clear ho2 hj2 hl2 f2))
        clear HE1 c0 hlt hlt' hn1 ht1
        have HNB : Hid (w.heap.size + 1 ∉ sliceB Ao ∧ w.heap.size + 1 + 1 ∉ sliceB Ao) := Lib.hid ⟨fun hm => by
            obtain ⟨ad, h1, h2⟩ := mem_sliceB.1 hm
            have := HR1.out.own _ (sliceB_own HR1.out.row h1)
            have := HS3.out
            omega, fun hm => by
            obtain ⟨ad, h1, h2⟩ := mem_sliceB.1 hm
            have := HR1.out.own _ (sliceB_own HR1.out.row h1)
            have := HS3.out
            omega⟩
        have hr4 := (HR.out.fr HR1.out.fr (by simp)).fr F2.out HNB.out.1
        have hz4 := (HZ.out.fr HR1.out.fr (by simp)).fr F2.out HNB.out.2
        have F14 : Fr [] w w4 := (F0.out.trans HR1.out.fr).trans' F2.out (fun i hi => by obtain ⟨ad, h1, h2⟩ := mem_sliceB.1 hi; have := HR1.out.own _ (sliceB_own HR1.out.row h1); have := HS3.out; exact .inr (by omega))
        have hfs : Fr [w.heap.size + 1] w4 (w4.setCell ⟨w.heap.size + 1, 0, none⟩ (.slice none 0 0)) := (Fr.refl _ _).setCell (.inl (by simp)) _
        have FL : Hid (FlRel w (w4.setCell ⟨w.heap.size + 1, 0, none⟩ (.slice none 0 0)) (w.heap.size + 1) (w.heap.size + 1 + 1) m f A2 n2 c2 L2 none 0 0 (Pm.flat (L2.take 0))) := Lib.hid ⟨OwnL.nil, HO2.out.fr hfs (fun g hg => by have := HO2.out.ne hr4 (by decide) hg; simpa using this), hr4.set_ 0 _, hz4.fr hfs (by simp), F14.trans' hfs (by simp), fun g hg => by simp [Value.ownBlock] at hg⟩
        have z0 := hr4.frozen 0
        have d0 : w4.cell? ⟨w.heap.size + 1, 0, none⟩ = some (.slice X n cap) := hr4.cell 0
        clear hr4 hz4 F14 hfs
        go_upto_region 10 with (fail)
        clear z0 d0
        generalize w4.setCell ⟨w.heap.size + 1, 0, none⟩ (.slice none 0 0) = w6 at *
        have HNN : Hid (n2 = L2.length) := Lib.hid HO2.out.blk.1
        have HB2 : Hid (2 * L2.length ≤ n + 2) := Lib.hid (by have := HL2.out; rw [hpl] at this; have := HN.out; omega)
        have hn2 : n2 ≤ 50000 := by have := HNN.out; have := HB2.out; omega
        obtain ⟨i1, TW⟩ := etRowP
        obtain ⟨wo, hwo⟩ : ∃ x, x = wr := ⟨_, rfl⟩
        subst hwo
        clear HJC HB1 HPA HPB
        go_wp2_with fail
        go_loopw [10, 51] (fun i10 i51 wr => ∃ (k : Nat) (A5 : Option Addr) (n5 c5 : Nat), i51 = .int .i64 k ∧ k ≤ n2 ∧ Hid (FlRel w wr (w.heap.size + 1) (w.heap.size + 1 + 1) m f A2 n2 c2 L2 A5 n5 c5 (Pm.flat (L2.take k)))) (fun i10 i51 _ => n2 - (intOf i51).toNat)
        case atStart => exact ⟨0, none, 0, 0, rfl, Nat.zero_le _, FL⟩
        case round =>
          clear FL
          obtain ⟨k, A5, n5, c5, rfl, hk, R⟩ := hrel
          by_cases hkn : k < n2
          · have hkl : k < L2.length := by have := HNN.out; omega
            have hpos : 0 < L2.length := by omega
            obtain ⟨g2, cap2, hv2, -, -, hlt2, hcell, -⟩ := R.out.prs.form PairV.cells_len hpos
            injection hv2 with e1 e2 e3
            subst e1
            have hck := Lib.hid (fun j (hj : j < 10) => hcell k hkl j hj)
            have HTK : Hid (Pm.flat (L2.take (k + 1)) = Pm.flat (L2.take k) ++ [L2[k].1, L2[k].2]) := Lib.hid (by rw [List.take_succ_eq_append_getElem hkl, flat_snoc])
            have HJB : Hid ((Pm.flat (L2.take k)).length + 2 ≤ 100010) := Lib.hid (by rw [flat_len2, List.length_take]; have := HB2.out; omega)
            clear hcell e2 e3 hpos hlt2
            generalize L2[k] = p at *
            clear hkl
            obtain ⟨⟨x0, x1, x2, x3, x4⟩, ⟨y0, y1, y2, y3, y4⟩⟩ := p
            have a0 : wr.cell? ⟨g2, k * 10, none⟩ = some (.int .i64 x0) := hck.out 0 (by decide)
            have a1 : wr.cell? ⟨g2, k * 10 + 1, none⟩ = some (.int .i64 x1) := hck.out 1 (by decide)
            have a2 : wr.cell? ⟨g2, k * 10 + 2, none⟩ = some (.int .i64 x2) := hck.out 2 (by decide)
            have a3 : wr.cell? ⟨g2, k * 10 + 3, none⟩ = some (.int .i64 x3) := hck.out 3 (by decide)
            have a4 : wr.cell? ⟨g2, k * 10 + 4, none⟩ = some (.int .i64 x4) := hck.out 4 (by decide)
            have a5 : wr.cell? ⟨g2, k * 10 + 5, none⟩ = some (.int .i64 y0) := hck.out 5 (by decide)
            have a6 : wr.cell? ⟨g2, k * 10 + 6, none⟩ = some (.int .i64 y1) := hck.out 6 (by decide)
            have a7 : wr.cell? ⟨g2, k * 10 + 7, none⟩ = some (.int .i64 y2) := hck.out 7 (by decide)
            have a8 : wr.cell? ⟨g2, k * 10 + 8, none⟩ = some (.int .i64 y3) := hck.out 8 (by decide)
            have a9 : wr.cell? ⟨g2, k * 10 + 9, none⟩ = some (.int .i64 y4) := hck.out 9 (by decide)
            have HBP : Hid (Blk (wr.alloc (.cells #[.int .i64 x0, .int .i64 x1, .int .i64 x2, .int .i64 x3, .int .i64 x4, .int .i64 y0, .int .i64 y1, .int .i64 y2, .int .i64 y3, .int .i64 y4] 106)) wr.heap.size 106 #[.int .i64 x0, .int .i64 x1, .int .i64 x2, .int .i64 x3, .int .i64 x4, .int .i64 y0, .int .i64 y1, .int .i64 y2, .int .i64 y3, .int .i64 y4]) := Lib.hid (Blk.new _ _ _)
            have FP : Hid (Fr [] wr (wr.alloc (.cells #[.int .i64 x0, .int .i64 x1, .int .i64 x2, .int .i64 x3, .int .i64 x4, .int .i64 y0, .int .i64 y1, .int .i64 y2, .int .i64 y3, .int .i64 y4] 106))) := Lib.hid ((Fr.refl _ _).alloc _)
            go_upto_region 13 with (fail)
            clear a0 a1 a2 a3 a4 a5 a6 a7 a8 a9 hck
            generalize wr.alloc (.cells #[.int .i64 x0, .int .i64 x1, .int .i64 x2, .int .i64 x3, .int .i64 x4, .int .i64 y0, .int .i64 y1, .int .i64 y2, .int .i64 y3, .int .i64 y4] 106) = wp at *
            have c0 : wp.cell? ⟨w.heap.size + 1, 0, none⟩ = some (.slice A5 n5 c5) := (R.out.res.fr FP.out (by simp)).cell 0
            have b0 : wp.cell? ⟨wr.heap.size, 0, none⟩ = some (.int .i64 x0) := HBP.out.cell 0
            have b1 : wp.cell? ⟨wr.heap.size, 1, none⟩ = some (.int .i64 x1) := HBP.out.cell 1
            have b2 : wp.cell? ⟨wr.heap.size, 2, none⟩ = some (.int .i64 x2) := HBP.out.cell 2
            have b3 : wp.cell? ⟨wr.heap.size, 3, none⟩ = some (.int .i64 x3) := HBP.out.cell 3
            have b4 : wp.cell? ⟨wr.heap.size, 4, none⟩ = some (.int .i64 x4) := HBP.out.cell 4
            have b5 : wp.cell? ⟨wr.heap.size, 5, none⟩ = some (.int .i64 y0) := HBP.out.cell 5
            have b6 : wp.cell? ⟨wr.heap.size, 6, none⟩ = some (.int .i64 y1) := HBP.out.cell 6
            have b7 : wp.cell? ⟨wr.heap.size, 7, none⟩ = some (.int .i64 y2) := HBP.out.cell 7
            have b8 : wp.cell? ⟨wr.heap.size, 8, none⟩ = some (.int .i64 y3) := HBP.out.cell 8
            have b9 : wp.cell? ⟨wr.heap.size, 9, none⟩ = some (.int .i64 y4) := HBP.out.cell 9
            have FQ : Hid (Fr [] wr (wp.alloc (.cells #[.int .i64 x0, .int .i64 x1, .int .i64 x2, .int .i64 x3, .int .i64 x4, .int .i64 y0, .int .i64 y1, .int .i64 y2, .int .i64 y3, .int .i64 y4] 57))) := Lib.hid (FP.out.alloc _)
            have HOA := Lib.hid (R.out.row.fr FQ.out (by simp))
            have HRD : Hid (Reads (wp.alloc (.cells #[.int .i64 x0, .int .i64 x1, .int .i64 x2, .int .i64 x3, .int .i64 x4, .int .i64 y0, .int .i64 y1, .int .i64 y2, .int .i64 y3, .int .i64 y4] 57)) (wp.alloc (.cells #[.int .i64 x0, .int .i64 x1, .int .i64 x2, .int .i64 x3, .int .i64 x4, .int .i64 y0, .int .i64 y1, .int .i64 y2, .int .i64 y3, .int .i64 y4] 57)).heap.size 5 (some ⟨wp.heap.size, 0, none⟩) 2 (([⟨x0, x1, x2, x3, x4⟩, ⟨y0, y1, y2, y3, y4⟩] : List RowV).flatMap RowV.cells)) := Lib.hid (reads_of_at RowV.cells_len (by decide) (AtL.of_blk (L := [⟨x0, x1, x2, x3, x4⟩, ⟨y0, y1, y2, y3, y4⟩]) RowV.cells_len (Blk.new wp 57 #[.int .i64 x0, .int .i64 x1, .int .i64 x2, .int .i64 x3, .int .i64 x4, .int .i64 y0, .int .i64 y1, .int .i64 y2, .int .i64 y3, .int .i64 y4]) (by simp [RowV.cells])))
            go_wp2_with (at_builtin; refine wpList_appendL rfl _ _ rfl TW RowV.cells_len RowV.cells_one rfl HOA.out _ _ _ _ ([⟨x0, x1, x2, x3, x4⟩, ⟨y0, y1, y2, y3, y4⟩] : List RowV) rfl rfl HRD.out (Nat.le_trans HJB.out (by decide)) (Nat.le_trans (Nat.mul_le_mul_right 40 HJB.out) (by decide)) ?_; intro v5 w5 hrow5 hg5 hat5; obtain ⟨A6, n6, c6, hv5⟩ : ∃ A n c, v5 = .slice A n c := (match hrow5.val with | ⟨_, _, hv⟩ => ⟨_, _, _, hv⟩); subst hv5; have HST := Lib.hid (R.out.step (A6 := A6) (n6 := n6) (c6 := c6) (w5 := w5) (R2 := Pm.flat (L2.take (k + 1))) (by omega) (by omega) FQ.out (by rw [HTK.out]; exact hrow5) hg5 hat5); have z0 := HST.out.1.frozen 0; have d0 : w5.cell? ⟨w.heap.size + 1, 0, none⟩ = some (.slice A5 n5 c5) := HST.out.1.cell 0; clear hrow5 hg5 hat5)
            go_roundw
            case rel => exact ⟨k + 1, A6, n6, c6, by go_num, by omega, Lib.hid HST.out.2⟩
            case measure => simp [intOf]; omega
          · obtain rfl : k = n2 := by omega
            have HLR : Hid (FlRel w wr (w.heap.size + 1) (w.heap.size + 1 + 1) m f A2 k c2 L2 A5 n5 c5 (Pm.flat L2)) := Lib.hid (by
              have h := R.out
              rwa [List.take_of_length_le (by have := HNN.out; omega)] at h)
            have HRR := Lib.hid HLR.out.res
            have HZZ := Lib.hid HLR.out.zer
            go_upto_region 15 with (fail)
            have HRF := HRR.out
            have HZF := HZZ.out
            go_wp2_with (first
              | (refine wpList_load_row rfl _ _ rfl (w.heap.size + 1) rfl 27 _ (0, 0) _ HRF Try.underlying27 rfl (by kernel_rfl) ?_)
              | (refine wpList_store_blk rfl _ _ _ rfl (w.heap.size + 1 + 1) #[.slice A5 n5 c5, .int .i64 m, .bool f] rfl rfl 27 _ HZF (by kernel_rfl) rfl rfl ?_; intro w9 hb9 hf9; have HB9 := Lib.hid hb9; have HF9 := Lib.hid hf9; clear hb9 hf9))
            have q0 := HB9.out.cell 0
            have q1 := HB9.out.cell 1
            have q2 := HB9.out.cell 2
            refine bodyPost_ret (v := .tuple #[.agg #[.slice A5 n5 c5, .int .i64 m, .bool f], .bool k2]) (by simp [results, Try.results60, go_sem, q0, q1, q2]) rfl ⟨_, _, _, _, rfl, fun h => ?_, fun h => ?_, HLR.out.fr.trans' HF9.out (fun i hi => .inr (by rw [List.mem_singleton] at hi; omega))⟩
            · have ho9 := HLR.out.row.fr HF9.out (fun g hg => by have := HLR.out.row.ne HLR.out.zer (by decide) hg; simpa using this)
              refine ⟨Pm.flat L2, by rw [HJ2.out, HJ3.out, if_pos h]; rfl, (ho9.at1 RowV.cells_len).1, (ho9.at1 RowV.cells_len).2, ?_⟩
              rw [(ho9.at1 RowV.cells_len).2, flat_len2]
              exact HB2.out
            · rw [HJ2.out, HJ3.out, if_neg (by rw [h]; simp)]
              rfl
end Go.Proofs.Ytjiikpmkedkbkaa
