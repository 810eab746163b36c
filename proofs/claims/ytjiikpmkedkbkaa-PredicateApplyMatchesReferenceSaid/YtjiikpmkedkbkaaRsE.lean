/-
  Reference 07: other.
-/
import Derived.Test.YtjiikpmkedkbkaaRsB
import Derived.Test.YtjiikpmkedkbkaaGbc
import Derived.Test.YtjiikpmkedkbkaaGac
import Derived.Deep.CutBlock
namespace Go.Proofs.Ytjiikpmkedkbkaa
open Go.RowKit

/-- A row that has been made since wb, while the blocks S were written. -/
structure LoRel (S : List Nat) (wb wr : World) (v : Value) (R : List RowV) : Prop where
  row : RowsOwn wr v R
  fr : Fr S wb wr
  own : ∀ g, v.ownBlock = some g → wb.heap.size ≤ g
theorem LoRel.start (S : List Nat) (w : World) : LoRel S w w (.slice none 0 0) [] := ⟨OwnL.nil, Fr.refl _ _, fun g hg => by simp [Value.ownBlock] at hg⟩
theorem LoRel.fr0 {S : List Nat} {wb wr w' : World} {v : Value} {R : List RowV} (h : LoRel S wb wr v R) (hf : Fr [] wr w') : LoRel S wb w' v R := ⟨h.row.fr hf (by simp), h.fr.trans (hf.mono (by simp)), h.own⟩
theorem LoRel.grow {S : List Nat} {wb wr W w5 : World} {v v5 : Value} {R R2 : List RowV} (h : LoRel S wb wr v R) (hf : Fr [] wr W) (hr : RowsOwn w5 v5 R2) (hg : W.grownBy w5 v.ownBlock) (ha : v5.ownBlock = v.ownBlock ∨ v5.ownBlock = some W.heap.size) : LoRel S wb w5 v5 R2 :=
  ⟨hr, (h.fr.trans (hf.mono (by simp))).grown hg (fun g hg => .inr (h.own g hg)), fun g hg => by
    rcases ha with h1 | h1
    · exact h.own g (h1 ▸ hg)
    · rw [h1] at hg
      injection hg with hg
      have := h.fr.size
      have := hf.size
      omega⟩
namespace Pm
/-- What becomes of a pair. -/
def oth (c : Chg) (p : RowV × RowV) : List RowV := if p.2.k = c.k then (if c.has = true then [p.1, rowA c] else []) else [p.1, p.2]
theorem flat_other (c : Chg) (l : List (RowV × RowV)) : flat (other l c) = l.flatMap (oth c) := by
  unfold other aft
  cases h : c.has with
  | false =>
    rw [if_neg (by simp)]
    dsimp only
    induction l with
    | nil => rfl
    | cons p l ih =>
      rw [List.flatMap_cons, ← ih]
      unfold oth
      by_cases e : p.2.k = c.k
      · rw [List.filter_cons_of_neg (by simp [e]), if_pos e, h, if_neg (by simp)]
        rfl
      · rw [List.filter_cons_of_pos (by simp [e]), if_neg e]
        rfl
  | true =>
    rw [if_pos rfl]
    dsimp only
    induction l with
    | nil => rfl
    | cons p l ih =>
      rw [List.flatMap_cons, ← ih]
      unfold oth rowA
      by_cases e : p.2.k = c.k
      · rw [List.map_cons, if_pos e, if_pos e, h, if_pos rfl, if_pos rfl]
        rfl
      · rw [List.map_cons, if_neg e, if_neg e]
        rfl
theorem oth_len (c : Chg) (l : List (RowV × RowV)) : (l.flatMap (oth c)).length ≤ 2 * l.length := by
  induction l with
  | nil => simp
  | cons p l ih =>
    rw [List.flatMap_cons, List.length_append, List.length_cons]
    have : (oth c p).length ≤ 2 := by
      unfold oth
      repeat' split
      all_goals simp
    omega
end Pm

set_option maxRecDepth 100000 in
theorem rother_no (c : Chg) (hh : c.had = false) (A : Option Addr) (n cap : Nat) (w : World) : Calls Try.prog 35 #[.slice A n cap, c.val] w fun e w' => e = .returned (.tuple #[.slice none 0 0, .bool false]) ∧ Fr [] w w' := by
  have F0 : Hid (Fr [] w (w.alloc (.cells #[.int .i64 c.t, .int .i64 c.k, .bool c.had, .int .i64 c.o0, .int .i64 c.o1, .int .i64 c.o2, .bool c.has, .int .i64 c.n0, .int .i64 c.n1, .int .i64 c.n2] 30))) := Lib.hid ((Fr.refl _ _).alloc _)
  have BC : Blk (w.alloc (.cells #[.int .i64 c.t, .int .i64 c.k, .bool c.had, .int .i64 c.o0, .int .i64 c.o1, .int .i64 c.o2, .bool c.has, .int .i64 c.n0, .int .i64 c.n1, .int .i64 c.n2] 30)) w.heap.size 30 #[.int .i64 c.t, .int .i64 c.k, .bool c.had, .int .i64 c.o0, .int .i64 c.o1, .int .i64 c.o2, .bool c.has, .int .i64 c.n0, .int .i64 c.n1, .int .i64 c.n2] := Blk.new _ _ _
  have c2 : (w.alloc (.cells #[.int .i64 c.t, .int .i64 c.k, .bool c.had, .int .i64 c.o0, .int .i64 c.o1, .int .i64 c.o2, .bool c.has, .int .i64 c.n0, .int .i64 c.n1, .int .i64 c.n2] 30)).cell? ⟨w.heap.size, 2, none⟩ = some (.bool false) := by rw [← hh]; exact BC.cell 2
  clear BC
  have HH := Lib.hid hh
  clear hh
  go_enter Try.func35, Try.ntmps35
  go_upto_region 1 with (fail)
  generalize (w.alloc (.cells #[.int .i64 c.t, .int .i64 c.k, .bool c.had, .int .i64 c.o0, .int .i64 c.o1, .int .i64 c.o2, .bool c.has, .int .i64 c.n0, .int .i64 c.n1, .int .i64 c.n2] 30)) = w1 at *
  go_wp2_with fail
  go_ret2
  exact ⟨rfl, F0.out⟩
set_option maxRecDepth 100000 in
set_option maxHeartbeats 8000000 in
theorem rother_any (c : Chg) (hh : c.had = true) (X : Option Addr) (n cap : Nat) (L : List RowV) (w : World) (hx : AtL RowV.cells 5 w X L) (hn : n = L.length) (hl : n ≤ 50000) :
    Calls Try.prog 35 #[.slice X n cap, c.val] w fun e w' => ∃ A' n' c', e = .returned (.tuple #[.slice A' n' c', .bool true]) ∧ LoRel [] w w' (.slice A' n' c') (Pm.flat (Pm.other (Pm.pairs L) c)) := by
  have F0 : Hid (Fr [] w (w.alloc (.cells #[.int .i64 c.t, .int .i64 c.k, .bool c.had, .int .i64 c.o0, .int .i64 c.o1, .int .i64 c.o2, .bool c.has, .int .i64 c.n0, .int .i64 c.n1, .int .i64 c.n2] 30))) := Lib.hid ((Fr.refl _ _).alloc _)
  have hb : Blk (w.alloc (.cells #[.int .i64 c.t, .int .i64 c.k, .bool c.had, .int .i64 c.o0, .int .i64 c.o1, .int .i64 c.o2, .bool c.has, .int .i64 c.n0, .int .i64 c.n1, .int .i64 c.n2] 30)) w.heap.size 30 #[.int .i64 c.t, .int .i64 c.k, .bool c.had, .int .i64 c.o0, .int .i64 c.o1, .int .i64 c.o2, .bool c.has, .int .i64 c.n0, .int .i64 c.n1, .int .i64 c.n2] := Blk.new _ _ _
  have HB := Lib.hid hb
  have HH := Lib.hid hh
  have HX := Lib.hid (hx.fr0 F0.out)
  have HN := Lib.hid hn
  clear hb hh hx hn
  obtain ⟨RR, HRR⟩ : ∃ l, Hid (Pm.flat (Pm.other (Pm.pairs L) c) = l) := ⟨_, Lib.hid rfl⟩
  rw [HRR.out]
  obtain ⟨i0, TW⟩ := etRow
  go_enter Try.func35, Try.ntmps35
  go_upto_region 1 with (fail)
  generalize (w.alloc (.cells #[.int .i64 c.t, .int .i64 c.k, .bool c.had, .int .i64 c.o0, .int .i64 c.o1, .int .i64 c.o2, .bool c.has, .int .i64 c.n0, .int .i64 c.n1, .int .i64 c.n2] 30)) = w1 at *
  have c2 : w1.cell? ⟨w.heap.size, 2, none⟩ = some (.bool true) := by rw [← HH.out]; exact HB.out.cell 2
  go_upto_region 3 with (fail)
  clear c2
  have HC := Lib.hid (fun W => rhas_row c W)
  have hc := HB.out
  go_upto_region 4 with (first
    | (refine wpList_load_row rfl _ _ rfl w.heap.size rfl 30 _ (0, 0) _ hc Try.underlying30 rfl (by kernel_rfl) ?_)
    | (go_at_call 22; refine (HC.out _).mono ?_; rintro e w4 ⟨rfl, f3⟩; have F3 := Lib.hid f3; clear f3))
  clear hc HC
  have f5 := F3.out.alloc (.cells #[.int .i64 (Pm.rowA c).t, .int .i64 (Pm.rowA c).k, .int .i64 (Pm.rowA c).x, .int .i64 (Pm.rowA c).y, .int .i64 (Pm.rowA c).z] 57)
  have HY := Lib.hid (Blk.new w4 57 #[.int .i64 (Pm.rowA c).t, .int .i64 (Pm.rowA c).k, .int .i64 (Pm.rowA c).x, .int .i64 (Pm.rowA c).y, .int .i64 (Pm.rowA c).z])
  replace F0 := Lib.hid (F0.out.trans f5)
  replace HB := Lib.hid (HB.out.fr f5 (by simp))
  replace HX := Lib.hid (HX.out.fr0 f5)
  clear f5 F3
  generalize hw5 : w4.alloc (.cells #[.int .i64 (Pm.rowA c).t, .int .i64 (Pm.rowA c).k, .int .i64 (Pm.rowA c).x, .int .i64 (Pm.rowA c).y, .int .i64 (Pm.rowA c).z] 57) = wb at *
  clear hw5
  generalize w4.heap.size = ga at *
  have hpl := pairs_len L
  have HPL := Lib.hid hpl
  clear hpl
  obtain ⟨hs, HHS⟩ : ∃ b, Hid (c.has = b) := ⟨_, Lib.hid rfl⟩
  rw [HHS.out]
  go_wp2_with fail
  go_loopw [8, 9] (fun i8 i9 wr => ∃ (j N : Nat) (Ao : Option Addr) (no co : Nat), i8 = .slice Ao no co ∧ i9 = .int .i64 N ∧ Hid (N = 2 * j) ∧ N ≤ n + 1 ∧ Hid (j ≤ (Pm.pairs L).length) ∧ Hid (LoRel [] wb wr (.slice Ao no co) (((Pm.pairs L).take j).flatMap (Pm.oth c)))) (fun i8 i9 _ => n + 2 - (intOf i9).toNat)
  case atStart => exact ⟨0, 0, none, 0, 0, rfl, rfl, Lib.hid rfl, Nat.zero_le _, Lib.hid (Nat.zero_le _), Lib.hid (LoRel.start [] wb)⟩
  case round =>
    obtain ⟨j, N, Ao, no, co, rfl, rfl, HNJ, hN, HJ, R⟩ := hrel
    have hn1 : IntKind.i64.wrap ((N : Int) + 1) = (N : Int) + 1 := by rw [IntKind.wrap_i64]; omega
    have ht1 : ((N : Int) + 1).toNat = N + 1 := by omega
    by_cases hlt : N + 1 < n
    · have hlt' : (N : Int) + 1 < (n : Int) := by omega
      have hq0 : (0 : Int) ≤ (N : Int) := by omega
      have hq1 : (N : Int) < (n : Int) := by omega
      have hq2 : (0 : Int) ≤ (N : Int) + 1 := by omega
      have hj2 : 2 * j + 1 < L.length := by have := HNJ.out; have := HN.out; omega
      obtain ⟨b, off, rfl, hb, hcl⟩ := (HX.out.fr0 R.out.fr) (by omega)
      have hpg := pairs_get L j hj2
      have HTK : Hid (((Pm.pairs L).take (j + 1)).flatMap (Pm.oth c) = ((Pm.pairs L).take j).flatMap (Pm.oth c) ++ Pm.oth c (L[2 * j], L[2 * j + 1])) := Lib.hid (by
        have hjl : j < (Pm.pairs L).length := (List.getElem?_eq_some_iff.1 hpg).1
        rw [List.take_succ_eq_append_getElem hjl, (List.getElem?_eq_some_iff.1 hpg).2, List.flatMap_append]
        simp)
      have HJ1 : Hid (j + 1 ≤ (Pm.pairs L).length) := Lib.hid (List.getElem?_eq_some_iff.1 hpg).1
      have HJB : Hid ((((Pm.pairs L).take j).flatMap (Pm.oth c)).length + 2 ≤ 50002) := Lib.hid (by
        have h1 := Pm.oth_len c ((Pm.pairs L).take j)
        rw [List.length_take] at h1
        have := HPL.out
        have := HN.out
        omega)
      have HNJ2 : Hid (N + 2 = 2 * (j + 1)) := Lib.hid (by have := HNJ.out; omega)
      have HA : Hid (∀ W, Fr [] wr W → ∀ i, i < 5 → W.cell? ⟨b, off + N * 5 + i, none⟩ = (RowV.cells L[2 * j])[i]?) := Lib.hid (fun W hf i hi => (hf.rules.1 b _ hb).trans (by rw [HNJ.out]; exact hcl (2 * j) (by omega) i hi))
      have HD : Hid (∀ W, Fr [] wr W → ∀ i, i < 5 → W.cell? ⟨b, off + (N + 1) * 5 + i, none⟩ = (RowV.cells L[2 * j + 1])[i]?) := Lib.hid (fun W hf i hi => (hf.rules.1 b _ hb).trans (by rw [HNJ.out]; exact hcl (2 * j + 1) hj2 i hi))
      clear hcl hpg hlt
      generalize L[2 * j] = x at *
      generalize L[2 * j + 1] = y at *
      clear hj2
      obtain ⟨x0, x1, x2, x3, x4⟩ := x
      obtain ⟨y0, y1, y2, y3, y4⟩ := y
      have k1 : ∀ p : Later wr, p.w.cell? ⟨b, off + (N + 1) * 5 + 1, none⟩ = some (.int .i64 y1) := fun p => HD.out p.w p.fr 1 (by decide)
      have c1 : ∀ p : Later wr, p.w.cell? ⟨w.heap.size, 1, none⟩ = some (.int .i64 c.k) := fun p => p.cell (HB.out.fr R.out.fr (by simp)).lt ((HB.out.fr R.out.fr (by simp)).cell 1)
      have HOT : Hid (Pm.oth c (⟨x0, x1, x2, x3, x4⟩, ⟨y0, y1, y2, y3, y4⟩) = if y1 = c.k then (if c.has = true then [⟨x0, x1, x2, x3, x4⟩, Pm.rowA c] else []) else [⟨x0, x1, x2, x3, x4⟩, ⟨y0, y1, y2, y3, y4⟩]) := Lib.hid rfl
      by_cases e1 : y1 = c.k
      · have e1' : (y1 != c.k) = false := by simpa using e1
        replace HOT := Lib.hid (HOT.out.trans (if_pos e1))
        clear e1
        go_wp2_with fail
        refine wp_region_later (by kernel_rfl) (by kernel_rfl) ?_
        repeat (go_big_quiet_step (fail))
        refine wpQuiet_nil ?_
        rintro w' ⟨⟨wq, fq⟩, rfl⟩
        have R2 := Lib.hid (R.out.fr0 fq)
        have FQ := Lib.hid fq
        clear fq k1 c1 R
        cases hs
        · have HT2 : Hid (((Pm.pairs L).take (j + 1)).flatMap (Pm.oth c) = ((Pm.pairs L).take j).flatMap (Pm.oth c)) := Lib.hid (by rw [HTK.out, HOT.out, HHS.out, if_neg (by simp), List.append_nil])
          go_wp2_with fail
          go_roundw
          case rel => exact ⟨j + 1, N + 2, Ao, no, co, rfl, by go_num, HNJ2, by omega, HJ1, by rw [HT2.out]; exact R2⟩
          case measure => simp [intOf]; omega
        · obtain ⟨z, HZ⟩ : ∃ z, Hid (Pm.rowA c = z) := ⟨_, Lib.hid rfl⟩
          have HYW := Lib.hid (HY.out.fr R2.out.fr (by simp))
          rw [HZ.out] at HYW
          have HT2 : Hid (((Pm.pairs L).take (j + 1)).flatMap (Pm.oth c) = ((Pm.pairs L).take j).flatMap (Pm.oth c) ++ [⟨x0, x1, x2, x3, x4⟩, z]) := Lib.hid (by rw [HTK.out, HOT.out, HHS.out, if_pos rfl, HZ.out])
          clear HZ
          obtain ⟨z0, z1, z2, z3, z4⟩ := z
          dsimp only at HYW
          go_wp2_with fail
          have HOA : Hid (RowsOwn (w'.drew.alloc (.cells #[.int .i64 x0, .int .i64 x1, .int .i64 x2, .int .i64 x3, .int .i64 x4, .int .i64 z0, .int .i64 z1, .int .i64 z2, .int .i64 z3, .int .i64 z4] 57)) (.slice Ao no co) (((Pm.pairs L).take j).flatMap (Pm.oth c))) := Lib.hid (R2.out.row.fr ((Fr.refl [] w').drew.alloc _) (by simp))
          have HRD : Hid (Reads (w'.drew.alloc (.cells #[.int .i64 x0, .int .i64 x1, .int .i64 x2, .int .i64 x3, .int .i64 x4, .int .i64 z0, .int .i64 z1, .int .i64 z2, .int .i64 z3, .int .i64 z4] 57)) (w'.drew.alloc (.cells #[.int .i64 x0, .int .i64 x1, .int .i64 x2, .int .i64 x3, .int .i64 x4, .int .i64 z0, .int .i64 z1, .int .i64 z2, .int .i64 z3, .int .i64 z4] 57)).heap.size 5 (some ⟨w'.drew.heap.size, 0, none⟩) 2 (([⟨x0, x1, x2, x3, x4⟩, ⟨z0, z1, z2, z3, z4⟩] : List RowV).flatMap RowV.cells)) := Lib.hid (reads_of_at RowV.cells_len (by decide) (AtL.of_blk (L := [⟨x0, x1, x2, x3, x4⟩, ⟨z0, z1, z2, z3, z4⟩]) RowV.cells_len (Blk.new w'.drew 57 #[.int .i64 x0, .int .i64 x1, .int .i64 x2, .int .i64 x3, .int .i64 x4, .int .i64 z0, .int .i64 z1, .int .i64 z2, .int .i64 z3, .int .i64 z4]) (by simp [RowV.cells])))
          have HSW : Hid (∀ W, Fr [] w' W → W.cell? ⟨b, off + N * 5, none⟩ = some (.int .i64 x0) ∧ W.cell? ⟨b, off + N * 5 + 1, none⟩ = some (.int .i64 x1) ∧ W.cell? ⟨b, off + N * 5 + 2, none⟩ = some (.int .i64 x2) ∧ W.cell? ⟨b, off + N * 5 + 3, none⟩ = some (.int .i64 x3) ∧ W.cell? ⟨b, off + N * 5 + 4, none⟩ = some (.int .i64 x4) ∧ W.cell? ⟨ga, 0, none⟩ = some (.int .i64 z0) ∧ W.cell? ⟨ga, 1, none⟩ = some (.int .i64 z1) ∧ W.cell? ⟨ga, 2, none⟩ = some (.int .i64 z2) ∧ W.cell? ⟨ga, 3, none⟩ = some (.int .i64 z3) ∧ W.cell? ⟨ga, 4, none⟩ = some (.int .i64 z4)) := Lib.hid (fun W hf => ⟨HA.out W (FQ.out.trans hf) 0 (by decide), HA.out W (FQ.out.trans hf) 1 (by decide), HA.out W (FQ.out.trans hf) 2 (by decide), HA.out W (FQ.out.trans hf) 3 (by decide), HA.out W (FQ.out.trans hf) 4 (by decide), (HYW.out.fr hf (by simp)).cell 0, (HYW.out.fr hf (by simp)).cell 1, (HYW.out.fr hf (by simp)).cell 2, (HYW.out.fr hf (by simp)).cell 3, (HYW.out.fr hf (by simp)).cell 4⟩)
          refine wp_region_head (fun W => W.cell? ⟨b, off + N * 5, none⟩ = some (.int .i64 x0) ∧ W.cell? ⟨b, off + N * 5 + 1, none⟩ = some (.int .i64 x1) ∧ W.cell? ⟨b, off + N * 5 + 2, none⟩ = some (.int .i64 x2) ∧ W.cell? ⟨b, off + N * 5 + 3, none⟩ = some (.int .i64 x3) ∧ W.cell? ⟨b, off + N * 5 + 4, none⟩ = some (.int .i64 x4) ∧ W.cell? ⟨ga, 0, none⟩ = some (.int .i64 z0) ∧ W.cell? ⟨ga, 1, none⟩ = some (.int .i64 z1) ∧ W.cell? ⟨ga, 2, none⟩ = some (.int .i64 z2) ∧ W.cell? ⟨ga, 3, none⟩ = some (.int .i64 z3) ∧ W.cell? ⟨ga, 4, none⟩ = some (.int .i64 z4)) 7 (by kernel_rfl) (by kernel_rfl) (HSW.out _ (Fr.refl [] w').drew) (fun hHeld => ?_)
          refine wpHead_take (i := 0) (oi := ⟨some 47, _, _, _, _, _⟩) (v := ?_) rfl (by kernel_rfl) (fun _ _ _ h => h) (Or.inl ⟨by rfl, ?_⟩) hHeld ?_
          rotate_left
          · (intro w hSw; (try dsimp only at hSw); go_simp; try with_reducible rfl)
          try simp only [Act.put, List.setIfInBounds_toArray, List.set_cons_zero, List.set_cons_succ]
          refine wpHead_take (i := 1) (oi := ⟨some 48, _, _, _, _, _⟩) (v := ?_) rfl (by kernel_rfl) (fun _ _ _ h => h) (Or.inl ⟨by rfl, ?_⟩) hHeld ?_
          rotate_left
          · (intro w hSw; (try dsimp only at hSw); go_simp; try with_reducible rfl)
          try simp only [Act.put, List.setIfInBounds_toArray, List.set_cons_zero, List.set_cons_succ]
          refine wpHead_take (i := 2) (oi := ⟨some 49, _, _, _, _, _⟩) (v := ?_) rfl (by kernel_rfl) (fun _ _ _ h => h) (Or.inl ⟨by rfl, ?_⟩) hHeld ?_
          rotate_left
          · (intro w hSw; (try dsimp only at hSw); go_simp; try with_reducible rfl)
          try simp only [Act.put, List.setIfInBounds_toArray, List.set_cons_zero, List.set_cons_succ]
          refine wpHead_take (i := 3) (oi := ⟨some 50, _, _, _, _, _⟩) (v := ?_) rfl (by kernel_rfl) (fun _ _ _ h => h) (Or.inl ⟨by rfl, ?_⟩) hHeld ?_
          rotate_left
          · (intro w hSw; (try dsimp only at hSw); go_simp; try with_reducible rfl)
          try simp only [Act.put, List.setIfInBounds_toArray, List.set_cons_zero, List.set_cons_succ]
          refine wpHead_take (i := 4) (oi := ⟨some 51, _, _, _, _, _⟩) (v := ?_) rfl (by kernel_rfl) (fun _ _ _ h => h) (Or.inl ⟨by rfl, ?_⟩) hHeld ?_
          rotate_left
          · (intro w hSw; (try dsimp only at hSw); go_simp; try with_reducible rfl)
          try simp only [Act.put, List.setIfInBounds_toArray, List.set_cons_zero, List.set_cons_succ]
          refine wpHead_take (i := 5) (oi := ⟨some 52, _, _, _, _, _⟩) (v := ?_) rfl (by kernel_rfl) (fun _ _ _ h => h) (Or.inl ⟨by rfl, ?_⟩) hHeld ?_
          rotate_left
          · (intro w hSw; (try dsimp only at hSw); go_simp; try with_reducible rfl)
          try simp only [Act.put, List.setIfInBounds_toArray, List.set_cons_zero, List.set_cons_succ]
          refine wpHead_one (i := 6) (o := ⟨some 53, _, _, _, _, _⟩) rfl (by kernel_rfl) (by decide) (fun K hK => ?_)
          go_simp
          skip
          refine hK.out _ _ ?_ (fun hHeld => ?_)
          · exact HSW.out _ ((Fr.refl [] w').drew.alloc _)
          clear hK K
          try simp only [Act.put, List.setIfInBounds_toArray, List.set_cons_zero, List.set_cons_succ]
          refine wpHead_done (by kernel_rfl) ?_
          simp only [List.drop_succ_cons, List.drop_zero]
          clear HSW 
          go_wp2_with (at_builtin; refine wpList_appendL rfl _ _ rfl TW RowV.cells_len RowV.cells_one rfl HOA.out _ _ _ _ ([⟨x0, x1, x2, x3, x4⟩, ⟨z0, z1, z2, z3, z4⟩] : List RowV) rfl rfl HRD.out (Nat.le_trans HJB.out (by decide)) (Nat.le_trans (Nat.mul_le_mul_right 40 HJB.out) (by decide)) ?_; intro v5 w5 hrow5 hg5 hat5; have HR5 := Lib.hid hrow5; have HG5 := Lib.hid hg5; have HA5 := Lib.hid hat5; obtain ⟨A5, n5, cap5, hv5⟩ : ∃ A n c, v5 = .slice A n c := (match hrow5.val with | ⟨_, _, hv⟩ => ⟨_, _, _, hv⟩); subst hv5; clear hrow5 hg5 hat5)
          have R3 := Lib.hid (R2.out.grow (R2 := ((Pm.pairs L).take (j + 1)).flatMap (Pm.oth c)) ((Fr.refl [] w').drew.alloc _) (by rw [HT2.out]; exact HR5.out) HG5.out HA5.out)
          go_roundw
          case rel => exact ⟨j + 1, N + 2, A5, n5, cap5, rfl, by go_num, HNJ2, by omega, HJ1, R3⟩
          case measure => simp [intOf]; omega
      · have e1' : (y1 != c.k) = true := by simpa using e1
        replace HOT := Lib.hid (HOT.out.trans (if_neg e1))
        clear e1
        go_wp2_with fail
        refine wp_region_later (by kernel_rfl) (by kernel_rfl) ?_
        repeat (go_big_quiet_step (fail))
        refine wpQuiet_nil ?_
        rintro w' ⟨⟨wq, fq⟩, rfl⟩
        have R2 := Lib.hid (R.out.fr0 fq)
        have FQ := Lib.hid fq
        clear fq k1 c1 R
        have HT2 : Hid (((Pm.pairs L).take (j + 1)).flatMap (Pm.oth c) = ((Pm.pairs L).take j).flatMap (Pm.oth c) ++ [⟨x0, x1, x2, x3, x4⟩, ⟨y0, y1, y2, y3, y4⟩]) := Lib.hid (by rw [HTK.out, HOT.out])
        go_wp2_with fail
        have HOA : Hid (RowsOwn (w'.drew.alloc (.cells #[.int .i64 x0, .int .i64 x1, .int .i64 x2, .int .i64 x3, .int .i64 x4, .int .i64 y0, .int .i64 y1, .int .i64 y2, .int .i64 y3, .int .i64 y4] 57)) (.slice Ao no co) (((Pm.pairs L).take j).flatMap (Pm.oth c))) := Lib.hid (R2.out.row.fr ((Fr.refl [] w').drew.alloc _) (by simp))
        have HRD : Hid (Reads (w'.drew.alloc (.cells #[.int .i64 x0, .int .i64 x1, .int .i64 x2, .int .i64 x3, .int .i64 x4, .int .i64 y0, .int .i64 y1, .int .i64 y2, .int .i64 y3, .int .i64 y4] 57)) (w'.drew.alloc (.cells #[.int .i64 x0, .int .i64 x1, .int .i64 x2, .int .i64 x3, .int .i64 x4, .int .i64 y0, .int .i64 y1, .int .i64 y2, .int .i64 y3, .int .i64 y4] 57)).heap.size 5 (some ⟨w'.drew.heap.size, 0, none⟩) 2 (([⟨x0, x1, x2, x3, x4⟩, ⟨y0, y1, y2, y3, y4⟩] : List RowV).flatMap RowV.cells)) := Lib.hid (reads_of_at RowV.cells_len (by decide) (AtL.of_blk (L := [⟨x0, x1, x2, x3, x4⟩, ⟨y0, y1, y2, y3, y4⟩]) RowV.cells_len (Blk.new w'.drew 57 #[.int .i64 x0, .int .i64 x1, .int .i64 x2, .int .i64 x3, .int .i64 x4, .int .i64 y0, .int .i64 y1, .int .i64 y2, .int .i64 y3, .int .i64 y4]) (by simp [RowV.cells])))
        have HSW : Hid (∀ W, Fr [] w' W → W.cell? ⟨b, off + N * 5, none⟩ = some (.int .i64 x0) ∧ W.cell? ⟨b, off + N * 5 + 1, none⟩ = some (.int .i64 x1) ∧ W.cell? ⟨b, off + N * 5 + 2, none⟩ = some (.int .i64 x2) ∧ W.cell? ⟨b, off + N * 5 + 3, none⟩ = some (.int .i64 x3) ∧ W.cell? ⟨b, off + N * 5 + 4, none⟩ = some (.int .i64 x4) ∧ W.cell? ⟨b, off + (N + 1) * 5, none⟩ = some (.int .i64 y0) ∧ W.cell? ⟨b, off + (N + 1) * 5 + 1, none⟩ = some (.int .i64 y1) ∧ W.cell? ⟨b, off + (N + 1) * 5 + 2, none⟩ = some (.int .i64 y2) ∧ W.cell? ⟨b, off + (N + 1) * 5 + 3, none⟩ = some (.int .i64 y3) ∧ W.cell? ⟨b, off + (N + 1) * 5 + 4, none⟩ = some (.int .i64 y4)) := Lib.hid (fun W hf => ⟨HA.out W (FQ.out.trans hf) 0 (by decide), HA.out W (FQ.out.trans hf) 1 (by decide), HA.out W (FQ.out.trans hf) 2 (by decide), HA.out W (FQ.out.trans hf) 3 (by decide), HA.out W (FQ.out.trans hf) 4 (by decide), HD.out W (FQ.out.trans hf) 0 (by decide), HD.out W (FQ.out.trans hf) 1 (by decide), HD.out W (FQ.out.trans hf) 2 (by decide), HD.out W (FQ.out.trans hf) 3 (by decide), HD.out W (FQ.out.trans hf) 4 (by decide)⟩)
        refine wp_region_head (fun W => W.cell? ⟨b, off + N * 5, none⟩ = some (.int .i64 x0) ∧ W.cell? ⟨b, off + N * 5 + 1, none⟩ = some (.int .i64 x1) ∧ W.cell? ⟨b, off + N * 5 + 2, none⟩ = some (.int .i64 x2) ∧ W.cell? ⟨b, off + N * 5 + 3, none⟩ = some (.int .i64 x3) ∧ W.cell? ⟨b, off + N * 5 + 4, none⟩ = some (.int .i64 x4) ∧ W.cell? ⟨b, off + (N + 1) * 5, none⟩ = some (.int .i64 y0) ∧ W.cell? ⟨b, off + (N + 1) * 5 + 1, none⟩ = some (.int .i64 y1) ∧ W.cell? ⟨b, off + (N + 1) * 5 + 2, none⟩ = some (.int .i64 y2) ∧ W.cell? ⟨b, off + (N + 1) * 5 + 3, none⟩ = some (.int .i64 y3) ∧ W.cell? ⟨b, off + (N + 1) * 5 + 4, none⟩ = some (.int .i64 y4)) 11 (by kernel_rfl) (by kernel_rfl) (HSW.out _ (Fr.refl [] w').drew) (fun hHeld => ?_)
        refine wpHead_take (i := 0) (oi := ⟨some 34, _, _, _, _, _⟩) (v := ?_) rfl (by kernel_rfl) (fun _ _ _ h => h) (Or.inl ⟨by rfl, ?_⟩) hHeld ?_
        rotate_left
        · (intro w hSw; (try dsimp only at hSw); go_simp; try with_reducible rfl)
        try simp only [Act.put, List.setIfInBounds_toArray, List.set_cons_zero, List.set_cons_succ]
        refine wpHead_take (i := 1) (oi := ⟨some 35, _, _, _, _, _⟩) (v := ?_) rfl (by kernel_rfl) (fun _ _ _ h => h) (Or.inl ⟨by rfl, ?_⟩) hHeld ?_
        rotate_left
        · (intro w hSw; (try dsimp only at hSw); go_simp; try with_reducible rfl)
        try simp only [Act.put, List.setIfInBounds_toArray, List.set_cons_zero, List.set_cons_succ]
        refine wpHead_take (i := 2) (oi := ⟨some 36, _, _, _, _, _⟩) (v := ?_) rfl (by kernel_rfl) (fun _ _ _ h => h) (Or.inl ⟨by rfl, ?_⟩) hHeld ?_
        rotate_left
        · (intro w hSw; (try dsimp only at hSw); go_simp; try with_reducible rfl)
        try simp only [Act.put, List.setIfInBounds_toArray, List.set_cons_zero, List.set_cons_succ]
        refine wpHead_take (i := 3) (oi := ⟨some 37, _, _, _, _, _⟩) (v := ?_) rfl (by kernel_rfl) (fun _ _ _ h => h) (Or.inl ⟨by rfl, ?_⟩) hHeld ?_
        rotate_left
        · (intro w hSw; (try dsimp only at hSw); go_simp; try with_reducible rfl)
        try simp only [Act.put, List.setIfInBounds_toArray, List.set_cons_zero, List.set_cons_succ]
        refine wpHead_take (i := 4) (oi := ⟨some 38, _, _, _, _, _⟩) (v := ?_) rfl (by kernel_rfl) (fun _ _ _ h => h) (Or.inl ⟨by rfl, ?_⟩) hHeld ?_
        rotate_left
        · (intro w hSw; (try dsimp only at hSw); go_simp; try with_reducible rfl)
        try simp only [Act.put, List.setIfInBounds_toArray, List.set_cons_zero, List.set_cons_succ]
        refine wpHead_take (i := 5) (oi := ⟨some 39, _, _, _, _, _⟩) (v := ?_) rfl (by kernel_rfl) (fun _ _ _ h => h) (Or.inl ⟨by rfl, ?_⟩) hHeld ?_
        rotate_left
        · (intro w hSw; (try dsimp only at hSw); go_simp; try with_reducible rfl)
        try simp only [Act.put, List.setIfInBounds_toArray, List.set_cons_zero, List.set_cons_succ]
        refine wpHead_take (i := 6) (oi := ⟨some 40, _, _, _, _, _⟩) (v := ?_) rfl (by kernel_rfl) (fun _ _ _ h => h) (Or.inl ⟨by rfl, ?_⟩) hHeld ?_
        rotate_left
        · (intro w hSw; (try dsimp only at hSw); go_simp; try with_reducible rfl)
        try simp only [Act.put, List.setIfInBounds_toArray, List.set_cons_zero, List.set_cons_succ]
        refine wpHead_take (i := 7) (oi := ⟨some 41, _, _, _, _, _⟩) (v := ?_) rfl (by kernel_rfl) (fun _ _ _ h => h) (Or.inl ⟨by rfl, ?_⟩) hHeld ?_
        rotate_left
        · (intro w hSw; (try dsimp only at hSw); go_simp; try with_reducible rfl)
        try simp only [Act.put, List.setIfInBounds_toArray, List.set_cons_zero, List.set_cons_succ]
        refine wpHead_take (i := 8) (oi := ⟨some 42, _, _, _, _, _⟩) (v := ?_) rfl (by kernel_rfl) (fun _ _ _ h => h) (Or.inl ⟨by rfl, ?_⟩) hHeld ?_
        rotate_left
        · (intro w hSw; (try dsimp only at hSw); go_simp; try with_reducible rfl)
        try simp only [Act.put, List.setIfInBounds_toArray, List.set_cons_zero, List.set_cons_succ]
        refine wpHead_take (i := 9) (oi := ⟨some 43, _, _, _, _, _⟩) (v := ?_) rfl (by kernel_rfl) (fun _ _ _ h => h) (Or.inl ⟨by rfl, ?_⟩) hHeld ?_
        rotate_left
        · (intro w hSw; (try dsimp only at hSw); go_simp; try with_reducible rfl)
        try simp only [Act.put, List.setIfInBounds_toArray, List.set_cons_zero, List.set_cons_succ]
        refine wpHead_one (i := 10) (o := ⟨some 44, _, _, _, _, _⟩) rfl (by kernel_rfl) (by decide) (fun K hK => ?_)
        go_simp
        skip
        refine hK.out _ _ ?_ (fun hHeld => ?_)
        · exact HSW.out _ ((Fr.refl [] w').drew.alloc _)
        clear hK K
        try simp only [Act.put, List.setIfInBounds_toArray, List.set_cons_zero, List.set_cons_succ]
        refine wpHead_done (by kernel_rfl) ?_
        simp only [List.drop_succ_cons, List.drop_zero]
        clear HSW 
        go_wp2_with (at_builtin; refine wpList_appendL rfl _ _ rfl TW RowV.cells_len RowV.cells_one rfl HOA.out _ _ _ _ ([⟨x0, x1, x2, x3, x4⟩, ⟨y0, y1, y2, y3, y4⟩] : List RowV) rfl rfl HRD.out (Nat.le_trans HJB.out (by decide)) (Nat.le_trans (Nat.mul_le_mul_right 40 HJB.out) (by decide)) ?_; intro v5 w5 hrow5 hg5 hat5; have HR5 := Lib.hid hrow5; have HG5 := Lib.hid hg5; have HA5 := Lib.hid hat5; obtain ⟨A5, n5, cap5, hv5⟩ : ∃ A n c, v5 = .slice A n c := (match hrow5.val with | ⟨_, _, hv⟩ => ⟨_, _, _, hv⟩); subst hv5; clear hrow5 hg5 hat5)
        have R3 := Lib.hid (R2.out.grow (R2 := ((Pm.pairs L).take (j + 1)).flatMap (Pm.oth c)) ((Fr.refl [] w').drew.alloc _) (by rw [HT2.out]; exact HR5.out) HG5.out HA5.out)
        go_roundw
        case rel => exact ⟨j + 1, N + 2, A5, n5, cap5, rfl, by go_num, HNJ2, by omega, HJ1, R3⟩
        case measure => simp [intOf]; omega
    · have hlt' : ¬ (N : Int) + 1 < (n : Int) := by omega
      have HR1 : Hid (LoRel [] wb wr (.slice Ao no co) RR) := Lib.hid (by
        have h := R.out
        rwa [List.take_of_length_le (by have := HNJ.out; have := HN.out; have := HPL.out; omega), ← Pm.flat_other, HRR.out] at h)
      have hsz := F0.out.size
      have HSZ := Lib.hid hsz
      clear R hsz
      go_wp2_with fail
      go_ret2
      exact ⟨_, _, _, rfl, HR1.out.row, F0.out.trans HR1.out.fr, fun g hg => Nat.le_trans HSZ.out (HR1.out.own g hg)⟩
end Go.Proofs.Ytjiikpmkedkbkaa
