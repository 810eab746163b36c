/-
  GapPatched: the walk of the law.
-/
import Derived.Test.YthiaaminkfkjpaaGreatGpA
import Derived.Test.YthiaaminkfkjpaaGreatPure
import Derived.Test.YthiaaminkfkjpaaGreatGac
import Derived.Deep.DeepCutAuto
import Derived.Deep.RegionLaw
import Derived.Deep.RegionWith
import Derived.Deep.CutBlock
import Derived.StillTailTactics
namespace Go.Proofs.YthiaaminkfkjpaaGreat
open Go.RowKit

theorem blk_lit {w : World} {g ty k : Nat} (h : Blk w g ty #[.int .i64 2, .int .i64 3, .int .i64 4, .int .i64 5, .int .i64 6]) (hk : k < 5) : w.cell? ⟨g, k, none⟩ = some (.int .i64 ((k : Int) + 2)) := by
  have hx : k = 0 ∨ k = 1 ∨ k = 2 ∨ k = 3 ∨ k = 4 := by omega
  rcases hx with rfl | rfl | rfl | rfl | rfl <;> exact h.cell _
theorem QAt.z7 {w : World} {g : Nat} {q : Qry} (h : QAt w g q) (k : Nat) : w.frozen? ⟨g, k, none⟩ = false := Blk.frozen h k
theorem QAt.lay {w : World} {g : Nat} {q0 : Qry} (h : QAt w g q0) (q : Qry) :
    QAt (((((((w.setCell ⟨g, 0, none⟩ (.int .i64 q.kind)).setCell ⟨g, 1, none⟩ (.int .i64 q.table)).setCell ⟨g, 2, none⟩ (.int .i64 q.column)).setCell ⟨g, 3, none⟩ (.int .i64 q.low)).setCell ⟨g, 4, none⟩ (.int .i64 q.high)).setCell ⟨g, 5, none⟩ (.int .i64 q.by_)).setCell ⟨g, 6, none⟩ (.int .i64 q.other)) g q ∧
    Fr [g] w (((((((w.setCell ⟨g, 0, none⟩ (.int .i64 q.kind)).setCell ⟨g, 1, none⟩ (.int .i64 q.table)).setCell ⟨g, 2, none⟩ (.int .i64 q.column)).setCell ⟨g, 3, none⟩ (.int .i64 q.low)).setCell ⟨g, 4, none⟩ (.int .i64 q.high)).setCell ⟨g, 5, none⟩ (.int .i64 q.by_)).setCell ⟨g, 6, none⟩ (.int .i64 q.other)) := by
  unfold QAt at h ⊢
  have h2 := ((((((Blk.set_ h 0 (.int .i64 q.kind)).set_ 1 (.int .i64 q.table)).set_ 2 (.int .i64 q.column)).set_ 3 (.int .i64 q.low)).set_ 4 (.int .i64 q.high)).set_ 5 (.int .i64 q.by_)).set_ 6 (.int .i64 q.other)
  simp only [List.setIfInBounds_toArray, List.set_cons_zero, List.set_cons_succ] at h2
  have hm : ∀ {k : Nat}, (⟨g, k, none⟩ : Addr).block ∈ [g] ∨ w.heap.size ≤ (⟨g, k, none⟩ : Addr).block := .inl (List.mem_singleton.2 rfl)
  exact ⟨h2, (((((((Fr.refl [g] w).setCell hm _).setCell hm _).setCell hm _).setCell hm _).setCell hm _).setCell hm _).setCell hm _⟩

set_option maxRecDepth 100000 in
set_option maxHeartbeats 8000000 in
theorem gpat_walk (A : Option Addr) (n cap : Nat) (B : Option Addr) (no capo : Nat) (xs : List Int) (x0 x1 x2 x3 : Int) (w : World) (hn : n ≤ cap) (hcap : cap ≤ maxLen) (hx : n = 0 ∨ ∃ bx ox, A = some ⟨bx, ox, none⟩ ∧ SixAt w bx ox n)
    (hno : xs.length = no) (hmaxo : no ≤ maxLen) (hxo : no = 0 ∨ ∃ b off, B = some ⟨b, off, none⟩ ∧ IntsAt w b off xs) (o0 : okI x0) (o1 : okI x1) (o2 : okI x2) (o3 : okI x3) :
    Calls Tryz.prog 3 #[.slice A n cap, .slice B no capo, .agg #[.int .i64 x0, .int .i64 x1, .int .i64 x2, .int .i64 x3]] w fun e w' => e = .returned (.bool true) ∧ Below w.heap.size w w' := by
  have hb63 : cap < 9223372036854775808 := by simp only [maxLen] at hcap; omega
  have hno63 : no < 9223372036854775808 := by simp only [maxLen] at hmaxo; omega
  have F0 : Hid (Fr [] w (w.alloc (.cells #[.int .i64 x0, .int .i64 x1, .int .i64 x2, .int .i64 x3] 24))) := Lib.hid ((Fr.refl [] w).alloc _)
  have B4 : Hid (Box4 (w.alloc (.cells #[.int .i64 x0, .int .i64 x1, .int .i64 x2, .int .i64 x3] 24)) w.heap.size x0 x1 x2 x3) := Lib.hid (Blk.new w _ _)
  have HX := Lib.hid hx
  have HXO := Lib.hid hxo
  have HNO := Lib.hid hno
  obtain ⟨k0, hk0, HK0⟩ := gpick_is o0 (n := 5) (by decide) (by decide)
  obtain ⟨k1, hk1, HK1⟩ := gpick_is o1 (n := 3) (by decide) (by decide)
  obtain ⟨kc, hkc, HKC⟩ := gpick_is (okI_tdiv o1 (n := 3) (by decide)) (n := 4) (by decide) (by decide)
  obtain ⟨kl, hkl, HK2⟩ := gpick_is o2 (n := 12) (by decide) (by decide)
  obtain ⟨kh, hkh, HKH⟩ := gpick_is o3 (n := 12) (by decide) (by decide)
  obtain ⟨kb, hkb, HKB⟩ := gpick_is (okI_tdiv o3 (n := 12) (by decide)) (n := 3) (by decide) (by decide)
  have HWT : Hid (IntKind.i64.wrap (x1.tdiv 3) = x1.tdiv 3) := Lib.hid (IntWalk.i64_in _ (okI_bounds (okI_tdiv o1 (n := 3) (by decide))))
  have HWB : Hid (IntKind.i64.wrap (x3.tdiv 12) = x3.tdiv 12) := Lib.hid (IntWalk.i64_in _ (okI_bounds (okI_tdiv o3 (n := 12) (by decide))))
  have HB : Hid (k0 < 5 ∧ k1 < 3 ∧ kc < 4 ∧ kl < 12 ∧ kh < 12 ∧ kb < 3) := Lib.hid ⟨hk0, hk1, hkc, hkl, hkh, hkb⟩
  clear hx hxo hno hmaxo o0 o1 o2 o3 hk0 hk1 hkc hkl hkh hkb
  go_enter Tryz.func3, Tryz.ntmps3
  go_upto_region 2 with (go_at_call 4; refine (sane_any _).mono ?_; rintro e w1 ⟨rfl, f1⟩; have F1 := Lib.hid f1; clear f1)
  replace B4 := Lib.hid (B4.out.fr F1.out (by simp))
  replace F0 := Lib.hid (F0.out.trans F1.out)
  clear F1
  have HLG := Lib.hid (fun (mN : Nat) (h1 : mN ≤ 25) (h2 : mN ≤ n) => log_any A mN cap w1 (by omega) (by
    rcases HX.out with h0 | ⟨bx, ox, h1', h2'⟩
    · exact .inl (by omega)
    · exact .inr ⟨bx, ox, h1', (h2'.le h2).fr0 F0.out⟩))
  go_cut [8] (fun v wn => ∃ (A2 : Option Addr) (n2 c2 : Nat) (l : List Rec), v = .slice A2 n2 c2 ∧ n2 ≤ 25 ∧ Hid (OwnR wn (.slice A2 n2 c2) l) ∧ Hid (Lg.Ok l) ∧ Hid (n2 = l.length) ∧ Hid (Fr [] w1 wn))
  case first =>
    go_wp2_with fail
    all_goals
      first
        | (with_reducible refine (HLG.out 25 (by omega) (by omega)).mono ?_)
        | (with_reducible refine (HLG.out n (by omega) (by omega)).mono ?_)
        | (obtain ⟨mN, hmN⟩ : ∃ m : Nat, (min (n : Int) 25).toNat = m := ⟨_, rfl⟩; rw [hmN]; have hm1 : mN ≤ 25 ∧ mN ≤ n := (by omega); (with_reducible refine (HLG.out mN hm1.1 hm1.2).mono ?_))
      rintro e w2 ⟨vl, l, rfl, hor, hok, hll, f2, hvo⟩
      obtain ⟨A2, n2, c2, hv⟩ : ∃ A n c, vl = .slice A n c := by
        obtain ⟨us, hus, _⟩ := hor
        obtain ⟨A2, cap2, hv⟩ := hus.val
        exact ⟨_, _, _, hv⟩
      subst hv
      have hn2 := hor.recs.2
      have HOR := Lib.hid hor
      have HOK := Lib.hid hok
      have HN2 := Lib.hid hn2
      have F2 := Lib.hid f2
      have hn12 : n2 ≤ 25 := by omega
      clear hor hok hn2 f2 hvo hll
      go_wp2_with fail
      go_meet
      exact ⟨A2, n2, c2, l, rfl, hn12, HOR, HOK, HN2, F2⟩
  case rest =>
  clear HLG
  obtain ⟨A2, n2, c2, l, rfl, hnM, HROW, HOK, HN2, F2⟩ := hcut
  obtain ⟨w2, hw2⟩ : ∃ x, x = wc := ⟨_, rfl⟩
  subst hw2
  replace B4 := Lib.hid (B4.out.fr F2.out (by simp))
  replace F0 := Lib.hid (F0.out.trans F2.out)
  clear F2 HX hn hb63 hcap
  have a2 : w2.cell? ⟨w.heap.size, 2, none⟩ = some (.int .i64 x2) := B4.out.cell 2
  go_upto_region 4 with (go_at_call 6; refine (HK2.out _).mono ?_; rintro e w' ⟨rfl, rfl⟩)
  have HSW : Hid (∀ W, Fr [] w2 W → W.cell? ⟨w.heap.size, 0, none⟩ = some (.int .i64 x0) ∧ W.cell? ⟨w.heap.size, 1, none⟩ = some (.int .i64 x1) ∧ W.cell? ⟨w.heap.size, 2, none⟩ = some (.int .i64 x2) ∧ W.cell? ⟨w.heap.size, 3, none⟩ = some (.int .i64 x3)) := Lib.hid (fun W hf => ⟨(B4.out.fr hf (by simp)).cell 0, (B4.out.fr hf (by simp)).cell 1, (B4.out.fr hf (by simp)).cell 2, (B4.out.fr hf (by simp)).cell 3⟩)
  clear a2 HK2
  go_cut [10] (fun v wn => ∃ gq, v = .pointer (some ⟨gq, 0, none⟩) ∧ Hid (w2.heap.size ≤ gq) ∧ Hid (QAt wn gq ⟨(k0 : Int) + 2, k1, kc, kl, (kl : Int) + (kh : Int), 0, 0⟩) ∧ Hid (Fr [] w2 wn))
  case first =>
    have hwt := HWT.out
    have hw1 : IntKind.i64.wrap ((kl : Int) + (kh : Int)) = (kl : Int) + (kh : Int) := IntWalk.i64_in _ (by have := HB.out; omega)
    have HB0 := Lib.hid HB.out.1
    have hk05 : (k0 : Int) < 5 := by have := HB.out; omega
    have hk00 : (0 : Int) ≤ (k0 : Int) := by omega
    refine wp_region_head (fun W => W.cell? ⟨w.heap.size, 0, none⟩ = some (.int .i64 x0) ∧ W.cell? ⟨w.heap.size, 1, none⟩ = some (.int .i64 x1) ∧ W.cell? ⟨w.heap.size, 2, none⟩ = some (.int .i64 x2) ∧ W.cell? ⟨w.heap.size, 3, none⟩ = some (.int .i64 x3)) 21 (by kernel_rfl) (by kernel_rfl) (HSW.out _ (Fr.refl [] w2).drew) (fun hHeld => ?_)
    refine wpHead_take (i := 1) (oi := ⟨some 34, _, _, _, _, _⟩) (v := ?_) rfl (by kernel_rfl) (fun _ _ _ h => h) (Or.inl ⟨by rfl, ?_⟩) hHeld ?_
    rotate_left
    · (intro w hSw; (try dsimp only at hSw); go_simp; try with_reducible rfl)
    try simp only [Act.put, List.setIfInBounds_toArray, List.set_cons_zero, List.set_cons_succ]
    refine wpHead_take (i := 2) (oi := ⟨some 35, _, _, _, _, _⟩) (v := ?_) rfl (by kernel_rfl) (fun _ _ _ h => h) (Or.inl ⟨by rfl, ?_⟩) hHeld ?_
    rotate_left
    · (intro w hSw; (try dsimp only at hSw); go_simp; try with_reducible rfl)
    try simp only [Act.put, List.setIfInBounds_toArray, List.set_cons_zero, List.set_cons_succ]
    refine wpHead_call (i := 3) (oi := ⟨some 36, _, _, _, _, _⟩) (v := .int .i64 (k0 : Nat)) rfl (by kernel_rfl) (fun _ _ _ h => h) (CallIf.of (f := 6) (args := #[.int .i64 x0, .int .i64 5]) (by rfl) (fun w hSw => ?_) (fun w _ => HK0.out w)) hHeld ?_
    · (try dsimp only at hSw); go_simp
    try simp only [Act.put, List.setIfInBounds_toArray, List.set_cons_zero, List.set_cons_succ]
    refine wpHead_take (i := 6) (oi := ⟨some 39, _, _, _, _, _⟩) (v := ?_) rfl (by kernel_rfl) (fun _ _ _ h => h) (Or.inl ⟨by rfl, ?_⟩) hHeld ?_
    rotate_left
    · (intro w hSw; (try dsimp only at hSw); go_simp; try with_reducible rfl)
    try simp only [Act.put, List.setIfInBounds_toArray, List.set_cons_zero, List.set_cons_succ]
    refine wpHead_take (i := 7) (oi := ⟨some 40, _, _, _, _, _⟩) (v := ?_) rfl (by kernel_rfl) (fun _ _ _ h => h) (Or.inl ⟨by rfl, ?_⟩) hHeld ?_
    rotate_left
    · (intro w hSw; (try dsimp only at hSw); go_simp; try with_reducible rfl)
    try simp only [Act.put, List.setIfInBounds_toArray, List.set_cons_zero, List.set_cons_succ]
    refine wpHead_call (i := 8) (oi := ⟨some 41, _, _, _, _, _⟩) (v := .int .i64 (k1 : Nat)) rfl (by kernel_rfl) (fun _ _ _ h => h) (CallIf.of (f := 6) (args := #[.int .i64 x1, .int .i64 3]) (by rfl) (fun w hSw => ?_) (fun w _ => HK1.out w)) hHeld ?_
    · (try dsimp only at hSw); go_simp
    try simp only [Act.put, List.setIfInBounds_toArray, List.set_cons_zero, List.set_cons_succ]
    refine wpHead_take (i := 9) (oi := ⟨some 42, _, _, _, _, _⟩) (v := ?_) rfl (by kernel_rfl) (fun _ _ _ h => h) (Or.inl ⟨by rfl, ?_⟩) hHeld ?_
    rotate_left
    · (intro w hSw; (try dsimp only at hSw); go_simp; try with_reducible rfl)
    try simp only [Act.put, List.setIfInBounds_toArray, List.set_cons_zero, List.set_cons_succ]
    refine wpHead_take (i := 10) (oi := ⟨some 43, _, _, _, _, _⟩) (v := ?_) rfl (by kernel_rfl) (fun _ _ _ h => h) (Or.inl ⟨by rfl, ?_⟩) hHeld ?_
    rotate_left
    · (intro w hSw; (try dsimp only at hSw); go_simp; try with_reducible rfl)
    try simp only [Act.put, List.setIfInBounds_toArray, List.set_cons_zero, List.set_cons_succ]
    refine wpHead_take (i := 11) (oi := ⟨some 44, _, _, _, _, _⟩) (v := ?_) rfl (by kernel_rfl) (fun _ _ _ h => h) (Or.inl ⟨by rfl, ?_⟩) hHeld ?_
    rotate_left
    · (intro w hSw; (try dsimp only at hSw); go_simp; try with_reducible rfl)
    try simp only [Act.put, List.setIfInBounds_toArray, List.set_cons_zero, List.set_cons_succ]
    refine wpHead_call (i := 12) (oi := ⟨some 45, _, _, _, _, _⟩) (v := .int .i64 (kc : Nat)) rfl (by kernel_rfl) (fun _ _ _ h => h) (CallIf.of (f := 6) (args := #[.int .i64 (x1.tdiv 3), .int .i64 4]) (by rfl) (fun w hSw => ?_) (fun w _ => HKC.out w)) hHeld ?_
    · (try dsimp only at hSw); go_simp
    try simp only [Act.put, List.setIfInBounds_toArray, List.set_cons_zero, List.set_cons_succ]
    refine wpHead_take (i := 13) (oi := ⟨some 46, _, _, _, _, _⟩) (v := ?_) rfl (by kernel_rfl) (fun _ _ _ h => h) (Or.inl ⟨by rfl, ?_⟩) hHeld ?_
    rotate_left
    · (intro w hSw; (try dsimp only at hSw); go_simp; try with_reducible rfl)
    try simp only [Act.put, List.setIfInBounds_toArray, List.set_cons_zero, List.set_cons_succ]
    refine wpHead_take (i := 14) (oi := ⟨some 47, _, _, _, _, _⟩) (v := ?_) rfl (by kernel_rfl) (fun _ _ _ h => h) (Or.inl ⟨by rfl, ?_⟩) hHeld ?_
    rotate_left
    · (intro w hSw; (try dsimp only at hSw); go_simp; try with_reducible rfl)
    try simp only [Act.put, List.setIfInBounds_toArray, List.set_cons_zero, List.set_cons_succ]
    refine wpHead_take (i := 15) (oi := ⟨some 48, _, _, _, _, _⟩) (v := ?_) rfl (by kernel_rfl) (fun _ _ _ h => h) (Or.inl ⟨by rfl, ?_⟩) hHeld ?_
    rotate_left
    · (intro w hSw; (try dsimp only at hSw); go_simp; try with_reducible rfl)
    try simp only [Act.put, List.setIfInBounds_toArray, List.set_cons_zero, List.set_cons_succ]
    refine wpHead_take (i := 16) (oi := ⟨some 49, _, _, _, _, _⟩) (v := ?_) rfl (by kernel_rfl) (fun _ _ _ h => h) (Or.inl ⟨by rfl, ?_⟩) hHeld ?_
    rotate_left
    · (intro w hSw; (try dsimp only at hSw); go_simp; try with_reducible rfl)
    try simp only [Act.put, List.setIfInBounds_toArray, List.set_cons_zero, List.set_cons_succ]
    refine wpHead_call (i := 17) (oi := ⟨some 50, _, _, _, _, _⟩) (v := .int .i64 (kh : Nat)) rfl (by kernel_rfl) (fun _ _ _ h => h) (CallIf.of (f := 6) (args := #[.int .i64 x3, .int .i64 12]) (by rfl) (fun w hSw => ?_) (fun w _ => HKH.out w)) hHeld ?_
    · (try dsimp only at hSw); go_simp
    try simp only [Act.put, List.setIfInBounds_toArray, List.set_cons_zero, List.set_cons_succ]
    refine wpHead_take (i := 18) (oi := ⟨some 51, _, _, _, _, _⟩) (v := ?_) rfl (by kernel_rfl) (fun _ _ _ h => h) (Or.inl ⟨by rfl, ?_⟩) hHeld ?_
    rotate_left
    · (intro w hSw; (try dsimp only at hSw); go_simp; try with_reducible rfl)
    try simp only [Act.put, List.setIfInBounds_toArray, List.set_cons_zero, List.set_cons_succ]
    have FZ : Hid (Fr [] w2 w2.drew) := Lib.hid (Fr.refl _ _).drew
    have HSZ : Hid (w2.heap.size ≤ w2.drew.heap.size) := Lib.hid (Nat.le_refl _)
    generalize w2.drew = V0 at *
    refine wpHead_two (i := 0) (j := 20) (oi := ⟨some 33, _, _, _, _, _⟩) (oj := ⟨some 10, _, _, _, _, _⟩) rfl rfl (by kernel_rfl) (by decide) (by decide) ?_ ?_
    · refine fun K hK => ?_
      go_simp
      refine hK.out _ _ ?_ (fun hHeld => ?_)
      · exact HSW.out _ (FZ.out.alloc _)
      clear hK K
      try simp only [Act.put, List.setIfInBounds_toArray, List.set_cons_zero, List.set_cons_succ]
      have hsl := Blk.new V0 3 #[.int .i64 2, .int .i64 3, .int .i64 4, .int .i64 5, .int .i64 6]
      have hlit := blk_lit (k := k0) hsl HB0.out
      refine wpHead_more (fun W => (W.cell? ⟨w.heap.size, 0, none⟩ = some (.int .i64 x0) ∧ W.cell? ⟨w.heap.size, 1, none⟩ = some (.int .i64 x1) ∧ W.cell? ⟨w.heap.size, 2, none⟩ = some (.int .i64 x2) ∧ W.cell? ⟨w.heap.size, 3, none⟩ = some (.int .i64 x3)) ∧ W.cell? ⟨V0.heap.size, k0, none⟩ = some (.int .i64 ((k0 : Int) + 2))) (fun _ h => h.1) ?_
      replace hHeld := And.intro hHeld hlit
      clear hlit hsl
      have F1 := Lib.hid (FZ.out.alloc (.cells #[.int .i64 2, .int .i64 3, .int .i64 4, .int .i64 5, .int .i64 6] 3))
      generalize hV1 : V0.alloc (.cells #[.int .i64 2, .int .i64 3, .int .i64 4, .int .i64 5, .int .i64 6] 3) = V1 at *
      clear hV1
      generalize V0.heap.size = gs at *
      refine wpHead_take (i := 4) (oi := ⟨some 37, _, _, _, _, _⟩) (v := ?_) rfl (by kernel_rfl) (fun _ _ _ h => h) (Or.inl ⟨by rfl, ?_⟩) hHeld ?_
      rotate_left
      · (intro w hSw; (try dsimp only at hSw); go_simp; try with_reducible rfl)
      try simp only [Act.put, List.setIfInBounds_toArray, List.set_cons_zero, List.set_cons_succ]
      refine wpHead_take (i := 5) (oi := ⟨some 38, _, _, _, _, _⟩) (v := ?_) rfl (by kernel_rfl) (fun _ _ _ h => h) (Or.inl ⟨by rfl, ?_⟩) hHeld ?_
      rotate_left
      · (intro w hSw; (try dsimp only at hSw); go_simp; try with_reducible rfl)
      try simp only [Act.put, List.setIfInBounds_toArray, List.set_cons_zero, List.set_cons_succ]
      refine wpHead_take (i := 19) (oi := ⟨some 52, _, _, _, _, _⟩) (v := ?_) rfl (by kernel_rfl) (fun _ _ _ h => h) (Or.inl ⟨by rfl, ?_⟩) hHeld ?_
      rotate_left
      · (intro w hSw; (try dsimp only at hSw); go_simp; try with_reducible rfl)
      try simp only [Act.put, List.setIfInBounds_toArray, List.set_cons_zero, List.set_cons_succ]
      refine wpHead_one (i := 20) (o := ⟨some 10, _, _, _, _, _⟩) rfl (by kernel_rfl) (by decide) (fun K hK => ?_)
      go_simp
      refine hK.out _ _ ?_ (fun hHeld => ?_)
      · exact ⟨HSW.out _ (F1.out.alloc _), Go.Lib.cell?_alloc_some _ hHeld.2⟩
      clear hK K
      try simp only [Act.put, List.setIfInBounds_toArray, List.set_cons_zero, List.set_cons_succ]
      refine wpHead_done (by kernel_rfl) ?_
      simp only [List.drop_succ_cons, List.drop_zero]
      go_wp2_with fail
      go_meet
      exact ⟨V1.heap.size, rfl, Lib.hid F1.out.size, Lib.hid (QAt.new V1 ⟨(k0 : Int) + 2, k1, kc, kl, (kl : Int) + (kh : Int), 0, 0⟩), Lib.hid (F1.out.alloc _)⟩
    · refine fun K hK => ?_
      go_simp
      refine hK.out _ _ ?_ (fun hHeld => ?_)
      · exact HSW.out _ (FZ.out.alloc _)
      clear hK K
      try simp only [Act.put, List.setIfInBounds_toArray, List.set_cons_zero, List.set_cons_succ]
      have hbz := QAt.new V0 ⟨0, 0, 0, 0, 0, 0, 0⟩
      have F1 := Lib.hid (FZ.out.alloc (.cells #[.int .i64 0, .int .i64 0, .int .i64 0, .int .i64 0, .int .i64 0, .int .i64 0, .int .i64 0] 30))
      generalize hV1 : V0.alloc (.cells #[.int .i64 0, .int .i64 0, .int .i64 0, .int .i64 0, .int .i64 0, .int .i64 0, .int .i64 0] 30) = V1 at *
      clear hV1
      generalize V0.heap.size = gz at *
      refine wpHead_one (i := 0) (o := ⟨some 33, _, _, _, _, _⟩) rfl (by kernel_rfl) (by decide) (fun K hK => ?_)
      go_simp
      refine hK.out _ _ ?_ (fun hHeld => ?_)
      · exact HSW.out _ (F1.out.alloc _)
      clear hK K
      try simp only [Act.put, List.setIfInBounds_toArray, List.set_cons_zero, List.set_cons_succ]
      have hsl := Blk.new V1 3 #[.int .i64 2, .int .i64 3, .int .i64 4, .int .i64 5, .int .i64 6]
      have hlit := blk_lit (k := k0) hsl HB0.out
      refine wpHead_more (fun W => (W.cell? ⟨w.heap.size, 0, none⟩ = some (.int .i64 x0) ∧ W.cell? ⟨w.heap.size, 1, none⟩ = some (.int .i64 x1) ∧ W.cell? ⟨w.heap.size, 2, none⟩ = some (.int .i64 x2) ∧ W.cell? ⟨w.heap.size, 3, none⟩ = some (.int .i64 x3)) ∧ W.cell? ⟨V1.heap.size, k0, none⟩ = some (.int .i64 ((k0 : Int) + 2))) (fun _ h => h.1) ?_
      replace hHeld := And.intro hHeld hlit
      clear hlit hsl
      have F2x := Lib.hid (F1.out.alloc (.cells #[.int .i64 2, .int .i64 3, .int .i64 4, .int .i64 5, .int .i64 6] 3))
      replace hbz := QAt.fr hbz ((Fr.refl [] V1).alloc (.cells #[.int .i64 2, .int .i64 3, .int .i64 4, .int .i64 5, .int .i64 6] 3)) (by simp)
      generalize hV2 : V1.alloc (.cells #[.int .i64 2, .int .i64 3, .int .i64 4, .int .i64 5, .int .i64 6] 3) = V2 at *
      clear hV2
      generalize V1.heap.size = gs at *
      refine wpHead_take (i := 4) (oi := ⟨some 37, _, _, _, _, _⟩) (v := ?_) rfl (by kernel_rfl) (fun _ _ _ h => h) (Or.inl ⟨by rfl, ?_⟩) hHeld ?_
      rotate_left
      · (intro w hSw; (try dsimp only at hSw); go_simp; try with_reducible rfl)
      try simp only [Act.put, List.setIfInBounds_toArray, List.set_cons_zero, List.set_cons_succ]
      refine wpHead_take (i := 5) (oi := ⟨some 38, _, _, _, _, _⟩) (v := ?_) rfl (by kernel_rfl) (fun _ _ _ h => h) (Or.inl ⟨by rfl, ?_⟩) hHeld ?_
      rotate_left
      · (intro w hSw; (try dsimp only at hSw); go_simp; try with_reducible rfl)
      try simp only [Act.put, List.setIfInBounds_toArray, List.set_cons_zero, List.set_cons_succ]
      refine wpHead_take (i := 19) (oi := ⟨some 52, _, _, _, _, _⟩) (v := ?_) rfl (by kernel_rfl) (fun _ _ _ h => h) (Or.inl ⟨by rfl, ?_⟩) hHeld ?_
      rotate_left
      · (intro w hSw; (try dsimp only at hSw); go_simp; try with_reducible rfl)
      try simp only [Act.put, List.setIfInBounds_toArray, List.set_cons_zero, List.set_cons_succ]
      refine wpHead_done (by kernel_rfl) ?_
      simp only [List.drop_succ_cons, List.drop_zero]
      have z0 := QAt.z7 hbz 0
      have y0 := Blk.cell hbz 0
      have z1 := QAt.z7 hbz 1
      have y1 := Blk.cell hbz 1
      have z2 := QAt.z7 hbz 2
      have y2 := Blk.cell hbz 2
      have z3 := QAt.z7 hbz 3
      have y3 := Blk.cell hbz 3
      have z4 := QAt.z7 hbz 4
      have y4 := Blk.cell hbz 4
      have z5 := QAt.z7 hbz 5
      have y5 := Blk.cell hbz 5
      have z6 := QAt.z7 hbz 6
      have y6 := Blk.cell hbz 6
      go_wp2_with fail
      go_meet
      exact ⟨gz, rfl, Lib.hid HSZ.out, Lib.hid (QAt.lay hbz ⟨(k0 : Int) + 2, k1, kc, kl, (kl : Int) + (kh : Int), 0, 0⟩).1, Lib.hid (F2x.out.trans' (QAt.lay hbz ⟨(k0 : Int) + 2, k1, kc, kl, (kl : Int) + (kh : Int), 0, 0⟩).2 (fun x hx => .inr (by rw [List.mem_singleton] at hx; subst hx; exact HSZ.out)))⟩
  case rest =>
  clear HSW HK0 HK1 HKC HKH HWT
  obtain ⟨gq, rfl, HGQ, HBQ, F3⟩ := hcut
  obtain ⟨w3, hw3⟩ : ∃ x, x = wc := ⟨_, rfl⟩
  subst hw3
  have HGQ2 : Hid (w.heap.size + 1 ≤ gq) := Lib.hid (by have h1 := F0.out.size; have h2 := HGQ.out; have h3 := B4.out.lt; omega)
  replace B4 := Lib.hid (B4.out.fr F3.out (by simp))
  replace F0 := Lib.hid (F0.out.trans F3.out)
  replace HROW := Lib.hid (HROW.out.keep0 F3.out)
  clear F3 HGQ
  have q0 : w3.cell? ⟨gq, 0, none⟩ = some (.int .i64 ((k0 : Int) + 2)) := HBQ.out.c0
  have q5 : w3.cell? ⟨gq, 5, none⟩ = some (.int .i64 0) := HBQ.out.c5
  have z5 := QAt.z7 HBQ.out 5
  have b3 : w3.cell? ⟨w.heap.size, 3, none⟩ = some (.int .i64 x3) := B4.out.cell 3
  go_upto_if 55 with (fail)
  go_cut [] (fun wn => ∃ b : Int, Hid (((k0 : Int) + 2 < 4 → b = 0) ∧ (4 ≤ (k0 : Int) + 2 → 1 ≤ b ∧ b ≤ 3)) ∧ Hid (QAt wn gq ⟨(k0 : Int) + 2, k1, kc, kl, (kl : Int) + (kh : Int), b, 0⟩) ∧ Hid (Fr [gq] w3 wn))
  case first =>
    by_cases h4 : 4 ≤ (k0 : Int) + 2
    · have H4 := Lib.hid h4
      have h4' : ¬ ((k0 : Int) + 2 < 4) := by omega
      have hwb := HWB.out
      have hw1 : IntKind.i64.wrap (1 + (kb : Int)) = 1 + (kb : Int) := IntWalk.i64_in _ (by have := HB.out; omega)
      go_wp2_with (go_at_call 6; refine (HKB.out _).mono ?_; rintro e w' ⟨rfl, rfl⟩)
      go_meet
      exact ⟨1 + (kb : Int), Lib.hid ⟨fun h => absurd h (by have := H4.out; omega), fun _ => by have := HB.out; omega⟩, Lib.hid (Blk.set_ HBQ.out 5 _), Lib.hid ((Fr.refl _ _).setCell (.inl (by simp)) _)⟩
    · have H4 : Hid ((k0 : Int) + 2 < 4) := Lib.hid (by omega)
      have h4' : (k0 : Int) + 2 < 4 := H4.out
      go_wp2_with fail
      go_meet
      exact ⟨0, Lib.hid ⟨fun _ => rfl, fun h => absurd h (by have := H4.out; omega)⟩, HBQ, Lib.hid (Fr.refl _ _)⟩
  case rest =>
  obtain ⟨b, HBY, HBQ2, F4⟩ := hcut
  obtain ⟨w4, hw4⟩ : ∃ x, x = wc := ⟨_, rfl⟩
  subst hw4
  clear q0 q5 z5 b3
  replace HROW := Lib.hid (OwnR.frQ HROW.out HBQ.out F4.out)
  replace F0 := Lib.hid (F0.out.trans' F4.out (fun x hx => .inr (by rw [List.mem_singleton] at hx; subst hx; have := HGQ2.out; omega)))
  obtain ⟨q, hq⟩ : ∃ q : Qry, q = ⟨(k0 : Int) + 2, k1, kc, kl, (kl : Int) + (kh : Int), b, 0⟩ := ⟨_, rfl⟩
  rw [← hq] at HBQ2
  have HV : Hid (Em.valid q = true) := Lib.hid (by
    have h1 := HB.out
    rw [hq]
    exact gq_valid (by omega) (by omega) (by omega) (by omega) HBY.out)
  have HOKI : Hid (okI q.kind) := Lib.hid (by
    have h1 := HB.out
    rw [hq]
    exact okI_mk (by dsimp only; omega) (by dsimp only; omega))
  clear hq HBQ F4 HBY B4 HKB HWB HB
  have HBQ := HBQ2
  clear HBQ2
  go_upto_region 9 with (first
    | (go_at_call 7; refine (gnew_any 0 _ (by decide) (by decide)).mono ?_; rintro e w5 ⟨rfl, hr5, f5⟩; have HR5 := Lib.hid hr5; have F5 := Lib.hid f5; clear hr5 f5)
    | (go_at_call 8; refine (snew_any _).mono ?_; rintro e w6 ⟨rfl, hs6, f6⟩; have HS6 := Lib.hid hs6; have F6 := Lib.hid f6; clear hs6 f6))
  have F56 := Lib.hid (F5.out.trans F6.out)
  have HL4 : Hid (w.heap.size ≤ w4.heap.size ∧ w.heap.size ≤ w5.heap.size) := Lib.hid (by have h1 := F0.out.size; have h2 := F5.out.size; omega)
  have hrun0 : Sm.new = Lg.run (l.take 0) := rfl
  rw [hrun0] at HS6
  have HNE : Hid (w4.heap.size ≠ w5.heap.size) := Lib.hid (by have h1 := HR5.out.lt; omega)
  have PG : Hid (PgAt w w6 (w5.heap.size + 1) w5.heap.size gq l A2 n2 c2 q (Lg.run (l.take 0))) := Lib.hid ⟨HS6.out, HROW.out.keep0 F56.out, QAt.fr HBQ.out F56.out (by simp), F0.out.trans F56.out, by have := HL4.out; omega⟩
  have GX : Hid (GxAt w w6 (w4.heap.size + 1) w4.heap.size w5.heap.size l A2 n2 c2 (Gm.new 0) (l.take 0)) := Lib.hid ⟨HR5.out.fr0 F6.out, HROW.out.keep0 F56.out, Gc.new l, by have := HL4.out; omega, HNE.out⟩
  clear hrun0 HS6 HR5 F5 F6 F56 HL4 HNE HROW HBQ F0 HGQ2
  generalize w4.heap.size + 1 = bx at *
  generalize w4.heap.size = mx at *
  generalize w5.heap.size + 1 = bs at *
  generalize w5.heap.size = ms at *
  have HSO0 := Lib.hid (Lg.run_ok (l.take 0))
  have HSS0 := Lib.hid (Lg.run_sound (l.take 0))
  have HW0 := Lib.hid PG.out.fr.size
  obtain ⟨Ra, HRRa⟩ : ∃ R, Hid (Em.of (Lg.run (l.take 0)) q = R) := ⟨_, Lib.hid rfl⟩
  have HBa := Lib.hid (Em.of_bounds HSO0.out HSS0.out q)
  have HOF := Lib.hid (PG.out.of HSS0.out HV.out)
  rw [HRRa.out] at HBa HOF
  have hbq : Blk w6 gq 30 #[.int .i64 q.kind, .int .i64 q.table, .int .i64 q.column, .int .i64 q.low, .int .i64 q.high, .int .i64 q.by_, .int .i64 q.other] := PG.out.q
  go_upto_region 10 with (first
    | (refine wpList_load_row rfl _ _ rfl gq rfl 30 _ (0, 0) _ hbq Tryz.underlying30 rfl (by kernel_rfl) ?_)
    | (go_at_call 9; refine HOF.out.mono ?_; rintro e wx ⟨Aa, na, ca, rfl, hrw⟩; have RW := Lib.hid hrw; clear hrw))
  clear hbq HOF
  have RVa := Lib.hid (RvAt.of (c := ca) RW.out)
  have Fa := Lib.hid (RW.out.fr.trans ((Fr.refl [] wx).alloc (.cells #[.slice Aa na ca, .int .i64 Ra.value, .bool Ra.found] 37)))
  replace PG := Lib.hid (PG.out.fr0 Fa.out)
  have HGX := Lib.hid RW.out.fr.size
  clear RW
  have HGa : Hid (w6.heap.size ≤ wx.heap.size) := Lib.hid HGX.out
  clear HGX
  generalize hw5 : wx.alloc (.cells #[.slice Aa na ca, .int .i64 Ra.value, .bool Ra.found] 37) = wa at *
  clear hw5
  generalize wx.heap.size = ga at *
  have HGA0 : Hid (w.heap.size ≤ ga) := Lib.hid (Nat.le_trans HW0.out HGa.out)
  replace GX := Lib.hid (GX.out.fr0 Fa.out)
  clear Fa HBa HSO0 HSS0 HGa HW0
  go_wp2_with fail
  go_loopw [15] (fun i wr => ∃ (ko j : Nat) (c : Gm.Rcv) (Ra : Res) (Aa : Option Addr) (na ca : Nat), i = .int .i64 ko ∧ ko ≤ no ∧ Hid (j ≤ l.length) ∧ Hid (Em.of (Lg.run (l.take j)) q = Ra) ∧ Hid (PgAt w wr bs ms gq l A2 n2 c2 q (Lg.run (l.take j))) ∧ Hid (GxAt w wr bx mx ms l A2 n2 c2 c (l.take j)) ∧ Hid (RvAt wr ga Aa na ca Ra)) (fun i _ => no - (intOf i).toNat)
  case atStart => exact ⟨0, 0, _, Ra, Aa, na, ca, rfl, Nat.zero_le _, Lib.hid (Nat.zero_le _), HRRa, PG, GX, RVa⟩
  case round =>
    clear PG RVa HRRa GX
    obtain ⟨ko, j, c, Ra, Aa, na, ca, rfl, hko, HJ, HRRa, PG, GX, RVa⟩ := hrel
    obtain ⟨w7, hw7⟩ : ∃ x, x = wr := ⟨_, rfl⟩
    subst hw7
    by_cases hlt : ko < no ∧ ko < 60 ∧ 0 < n2
    · obtain ⟨hl1, hl2, hl3⟩ := hlt
      obtain ⟨bo, oo, rfl, hz⟩ := HXO.out.resolve_left (by omega)
      have hkx : ko < xs.length := by rw [HNO.out]; exact hl1
      have c0 := (hz.fr PG.out.fr).cell ko hkx
      have hwf := hz.wf _ (List.getElem_mem hkx)
      generalize xs[ko] = y at c0 hwf
      obtain ⟨kq, hkq, HKQ⟩ := gpick_is hwf (n := n2) hl3 (by omega)
      clear hz hwf hkx
      have hql : kq < l.length := by rw [← HN2.out]; exact hkq
      obtain ⟨bb, off, Ak, ck, hA, hbb, hc0, hc1, hhc, hl8⟩ := PG.out.open_ hql
      subst hA
      obtain ⟨p, HP⟩ : ∃ p, Hid (p = l[kq].p) := ⟨_, Lib.hid rfl⟩
      obtain ⟨n1, HN1⟩ : ∃ n1, Hid (n1 = l[kq].cs.length) := ⟨_, Lib.hid rfl⟩
      rw [← HP.out] at hc0
      rw [← HN1.out] at hc1
      have HRC := Lib.hid (GX.out.receive HOK.out (by rw [← HN2.out]; omega) hql Ak n1 ck p hhc hl8 HN1.out HP.out)
      clear hhc hl8
      go_upto_region 16 with (first
        | (go_at_call 6; refine (HKQ.out _).mono ?_; rintro e w' ⟨rfl, rfl⟩)
        | (go_at_call 10; refine HRC.out.mono ?_; rintro e w8 ⟨bo', c', rfl, hgx, hfx⟩; have GX2 := Lib.hid hgx; have FX := Lib.hid hfx; clear hgx hfx))
      clear hc0 hc1 c0 HRC HKQ HP HN1 hql hkq
      replace PG := Lib.hid (PG.out.frX GX.out FX.out)
      replace RVa := Lib.hid (RVa.out.frX GX.out.rcv FX.out)
      clear GX FX
      have HTK := Lib.hid (GX2.out.take HOK.out)
      go_upto_region 17 with (go_at_call 11; refine HTK.out.mono ?_; rintro e w9 ⟨A6, n6, c6, got, c7, rfl, hog, hgx, hfx⟩; have HOG := Lib.hid hog; have GX := Lib.hid hgx; have FX := Lib.hid hfx; clear hog hgx hfx)
      replace PG := Lib.hid (PG.out.frX GX2.out FX.out)
      replace RVa := Lib.hid (RVa.out.frX GX2.out.rcv FX.out)
      have HN6 : Hid (n6 = got.length) := Lib.hid HOG.out.recs.2
      obtain ⟨-, -, hp7, hle7, happ, hgot⟩ := Gc.got GX2.out.gc GX.out.gc
      rw [happ] at GX
      have hjl : (l.take j).length = j := by rw [List.length_take]; have := HJ.out; omega
      rw [hjl] at hp7 hle7 hgot GX
      rw [← HN6.out] at hp7 hle7 GX
      have HP7 := Lib.hid hp7
      have HLE := Lib.hid hle7
      have HGOT := Lib.hid hgot
      replace PG := Lib.hid (PG.out.row_ HOG.out)
      have hn6 : n6 ≤ 25 := by have := HLE.out; have := HN2.out; omega
      clear hp7 hle7 hgot happ hjl GX2 FX HTK HOG
      go_wp2_with fail
      go_loopw [17] (fun i wr => ∃ (k : Nat) (Ra : Res) (Aa : Option Addr) (na ca : Nat), i = .int .i64 k ∧ k ≤ n6 ∧ Hid (Em.of (Lg.run (l.take (j + k))) q = Ra) ∧ Hid (PgAt w wr bs ms gq got A6 n6 c6 q (Lg.run (l.take (j + k)))) ∧ Hid (GxAt w wr bx mx ms l (some ⟨bb, off, none⟩) n2 c2 c7 (l.take (j + n6))) ∧ Hid (RvAt wr ga Aa na ca Ra)) (fun i _ => n6 - (intOf i).toNat)
      case atStart => exact ⟨0, Ra, Aa, na, ca, rfl, Nat.zero_le _, HRRa, PG, GX, RVa⟩
      case round =>
        clear PG RVa HRRa GX
        obtain ⟨k, Ra, Aa, na, ca, rfl, hk, HRRa, PG, GX, RVa⟩ := hrel
        by_cases hlt : k < n6
        · have hkl : k < got.length := by rw [← HN6.out]; exact hlt
          obtain ⟨hjk, hgk⟩ := HGOT.out k hkl
          have HFIT := Lib.hid (HOK.out.fits (j + k) hjk)
          have HSO := Lib.hid (Lg.run_ok (l.take (j + k)))
          have HSS := Lib.hid (Lg.run_sound (l.take (j + k)))
          have HSO' := Lib.hid (Lg.run_ok (l.take (j + k + 1)))
          have HSS' := Lib.hid (Lg.run_sound (l.take (j + k + 1)))
          have HRUN := Lib.hid (Lg.run_succ l hjk)
          rw [HRUN.out] at HSS' HSO'
          obtain ⟨s, HS⟩ : ∃ s, Hid (Lg.run (l.take (j + k)) = s) := ⟨_, Lib.hid rfl⟩
          obtain ⟨r, HR⟩ : ∃ r, Hid (got[k] = r) := ⟨_, Lib.hid rfl⟩
          rw [← hgk, HR.out] at HFIT HSS' HSO' HRUN
          rw [HS.out] at HFIT HSO HSS HSS' HSO' PG HRUN HRRa
          have HBa := Lib.hid (Em.of_bounds HSO.out HSS.out q)
          rw [HRRa.out] at HBa
          clear hgk
          obtain ⟨bg, og, Ak, ck, hA, hbb, hc0, hc1, hhc, hl8⟩ := PG.out.open_ hkl
          subst hA
          rw [HR.out] at hc0 hc1 hhc hl8
          obtain ⟨nk, hnk⟩ : ∃ n, n = r.cs.length := ⟨_, rfl⟩
          rw [← hnk] at hc1 hl8
          have HNK := Lib.hid hnk
          obtain ⟨pk, hpk⟩ : ∃ n, n = r.p := ⟨_, rfl⟩
          rw [← hpk] at hc0
          have HPK := Lib.hid hpk
          clear hnk hpk
          clear hc0 hc1 hhc
          go_upto_region 20 with (fail)
          obtain ⟨bb', off', Ak', ck', hA', hbb2, hc0, hc1, hhc, _⟩ := PG.out.open_ hkl
          rw [HR.out] at hc0 hc1 hhc
          rw [← HNK.out] at hc1
          rw [← HPK.out] at hc0
          have eA : bb' = bg ∧ off' = og := by
            injection hA' with hA'
            injection hA' with h1 h2
            exact ⟨h1.symm, h2.symm⟩
          obtain ⟨rfl, rfl⟩ := eA
          clear hA'
          have HSW : Hid (∀ w', Fr [] wr w' → Blk w' gq 30 #[.int .i64 q.kind, .int .i64 q.table, .int .i64 q.column, .int .i64 q.low, .int .i64 q.high, .int .i64 q.by_, .int .i64 q.other] ∧ Blk w' ga 37 #[.slice Aa na ca, .int .i64 Ra.value, .bool Ra.found] ∧ w'.cell? ⟨bb', off' + k * 2, none⟩ = some (.int .i64 pk) ∧ w'.cell? ⟨bb', off' + k * 2 + 1, none⟩ = some (.slice Ak' nk ck')) := Lib.hid (fun w' hf => ⟨(PG.out.fr0 hf).q, (RVa.out.fr0 hf).blk, (hf.rules.1 bb' _ hbb2).trans hc0, (hf.rules.1 bb' _ hbb2).trans hc1⟩)
          have HAR : Hid (∀ w1, Fr [] wr w1 → Calls Tryz.prog 12 #[q.val, .agg #[.slice Aa na ca, .int .i64 Ra.value, .bool Ra.found], .agg #[.int .i64 pk, .slice Ak' nk ck']] w1 fun e w' => ∃ (r' : Res) (A' : Option Addr) (n' c' : Nat) (t k : Bool), e = .returned (.tuple #[.agg #[.slice A' n' c', .int .i64 r'.value, .bool r'.found], .bool t, .bool k]) ∧ ApAt w1 w' (Pm.apply q Ra r.cs) A' n' r' t k (na + 2 * nk) ∧ Fr [] wr w') := Lib.hid (fun w1 hf => (apply_rv HOKI.out (RVa.out.fr0 hf) (Nat.le_trans HBa.out.1 (by decide)) (by have := HBa.out.2; omega) (ck := ck') (p := pk) (hhc.fr hf NoC.nil).1 hl8 HNK.out).mono (fun e w' ⟨r', A', n', c', t, k, h1, h2⟩ => ⟨r', A', n', c', t, k, h1, h2, hf.trans h2.fr⟩))
          have s0 := HSW.out _ (Fr.refl [] _)
          clear hc0 hc1 hhc
          go_cut [18, 19, 20] (fun vp vt vk wn => ∃ (gg : Nat) (Rg : Res) (Ag : Option Addr) (ng cg : Nat) (tg kg : Bool), vp = .pointer (some ⟨gg, 0, none⟩) ∧ vt = .bool tg ∧ vk = .bool kg ∧ Hid (AOut (Pm.apply q Ra r.cs) Rg tg kg) ∧ Hid (RvAt wn gg Ag ng cg Rg) ∧ Hid (Fr [] wr wn) ∧ Hid (wr.heap.size ≤ gg))
          case first =>
            refine wp_region_head (fun W => Blk W gq 30 #[.int .i64 q.kind, .int .i64 q.table, .int .i64 q.column, .int .i64 q.low, .int .i64 q.high, .int .i64 q.by_, .int .i64 q.other] ∧ Blk W ga 37 #[.slice Aa na ca, .int .i64 Ra.value, .bool Ra.found] ∧ W.cell? ⟨bb', off' + k * 2, none⟩ = some (.int .i64 pk) ∧ W.cell? ⟨bb', off' + k * 2 + 1, none⟩ = some (.slice Ak' nk ck')) 14 (by kernel_rfl) (by kernel_rfl) (HSW.out _ (Fr.refl [] wr).drew) (fun hHeld => ?_)
            refine wpHead_take (i := 0) (oi := ⟨some 112, _, _, _, _, _⟩) (v := .agg (#[.int .i64 q.kind, .int .i64 q.table, .int .i64 q.column, .int .i64 q.low, .int .i64 q.high, .int .i64 q.by_, .int .i64 q.other])) rfl (by kernel_rfl) (fun _ _ _ h => h) (yieldsIf_load_blk (by rfl) _ _ rfl gq rfl 30 (#[.int .i64 q.kind, .int .i64 q.table, .int .i64 q.column, .int .i64 q.low, .int .i64 q.high, .int .i64 q.by_, .int .i64 q.other]) _ (fun _ h => h.1) Tryz.underlying30 rfl (by kernel_rfl)) hHeld ?_
            try simp only [Act.put, List.setIfInBounds_toArray, List.set_cons_zero, List.set_cons_succ]
            refine wpHead_take (i := 1) (oi := ⟨some 113, _, _, _, _, _⟩) (v := .agg (#[.slice Aa na ca, .int .i64 Ra.value, .bool Ra.found])) rfl (by kernel_rfl) (fun _ _ _ h => h) (yieldsIf_load_blk (by rfl) _ _ rfl ga rfl 37 (#[.slice Aa na ca, .int .i64 Ra.value, .bool Ra.found]) _ (fun _ h => h.2.1) Tryz.underlying37 rfl (by kernel_rfl)) hHeld ?_
            try simp only [Act.put, List.setIfInBounds_toArray, List.set_cons_zero, List.set_cons_succ]
            refine wpHead_take (i := 2) (oi := ⟨some 114, _, _, _, _, _⟩) (v := ?_) rfl (by kernel_rfl) (fun _ _ _ h => h) (Or.inl ⟨by rfl, ?_⟩) hHeld ?_
            rotate_left
            · (intro w hSw; (try dsimp only at hSw); go_simp; try with_reducible rfl)
            try simp only [Act.put, List.setIfInBounds_toArray, List.set_cons_zero, List.set_cons_succ]
            refine wpHead_take (i := 3) (oi := ⟨some 115, _, _, _, _, _⟩) (v := ?_) rfl (by kernel_rfl) (fun _ _ _ h => h) (Or.inl ⟨by rfl, ?_⟩) hHeld ?_
            rotate_left
            · (intro w hSw; (try dsimp only at hSw); go_simp; try with_reducible rfl)
            try simp only [Act.put, List.setIfInBounds_toArray, List.set_cons_zero, List.set_cons_succ]
            refine wpHead_take (i := 4) (oi := ⟨some 116, _, _, _, _, _⟩) (v := ?_) rfl (by kernel_rfl) (fun _ _ _ h => h) (Or.inl ⟨by rfl, ?_⟩) hHeld ?_
            rotate_left
            · (intro w hSw; (try dsimp only at hSw); go_simp; try with_reducible rfl)
            try simp only [Act.put, List.setIfInBounds_toArray, List.set_cons_zero, List.set_cons_succ]
            refine wpHead_take (i := 5) (oi := ⟨some 117, _, _, _, _, _⟩) (v := ?_) rfl (by kernel_rfl) (fun _ _ _ h => h) (Or.inl ⟨by rfl, ?_⟩) hHeld ?_
            rotate_left
            · (intro w hSw; (try dsimp only at hSw); go_simp; try with_reducible rfl)
            try simp only [Act.put, List.setIfInBounds_toArray, List.set_cons_zero, List.set_cons_succ]
            refine wpHead_two (i := 6) (j := 11) (oi := ⟨some 118, _, _, _, _, _⟩) (oj := ⟨some 18, _, _, _, _, _⟩) rfl rfl (by kernel_rfl) (by decide) (by decide) ?_ ?_
            · refine fun K hK => ?_
              go_simp
              refine (HAR.out _ (Fr.refl [] wr).drew).mono ?_
              rintro e wz ⟨Rg, Ag, ng, cg, tg, kg, rfl, hap, hfz⟩
              have AP := Lib.hid hap
              have FZ := Lib.hid hfz
              refine hK.out _ _ ?_ (fun hHeld => ?_)
              · exact HSW.out _ FZ.out
              clear hK K
              try simp only [Act.put, List.setIfInBounds_toArray, List.set_cons_zero, List.set_cons_succ]
              clear hap hfz
              refine wpHead_take (i := 7) (oi := ⟨some 111, _, _, _, _, _⟩) (v := ?_) rfl (by kernel_rfl) (fun _ _ _ h => h) (Or.inl ⟨by rfl, ?_⟩) hHeld ?_
              rotate_left
              · (intro w hSw; (try dsimp only at hSw); go_simp; try with_reducible rfl)
              try simp only [Act.put, List.setIfInBounds_toArray, List.set_cons_zero, List.set_cons_succ]
              refine wpHead_take (i := 8) (oi := ⟨some 119, _, _, _, _, _⟩) (v := ?_) rfl (by kernel_rfl) (fun _ _ _ h => h) (Or.inl ⟨by rfl, ?_⟩) hHeld ?_
              rotate_left
              · (intro w hSw; (try dsimp only at hSw); go_simp; try with_reducible rfl)
              try simp only [Act.put, List.setIfInBounds_toArray, List.set_cons_zero, List.set_cons_succ]
              refine wpHead_take (i := 9) (oi := ⟨some 120, _, _, _, _, _⟩) (v := ?_) rfl (by kernel_rfl) (fun _ _ _ h => h) (Or.inl ⟨by rfl, ?_⟩) hHeld ?_
              rotate_left
              · (intro w hSw; (try dsimp only at hSw); go_simp; try with_reducible rfl)
              try simp only [Act.put, List.setIfInBounds_toArray, List.set_cons_zero, List.set_cons_succ]
              refine wpHead_take (i := 10) (oi := ⟨some 121, _, _, _, _, _⟩) (v := ?_) rfl (by kernel_rfl) (fun _ _ _ h => h) (Or.inl ⟨by rfl, ?_⟩) hHeld ?_
              rotate_left
              · (intro w hSw; (try dsimp only at hSw); go_simp; try with_reducible rfl)
              try simp only [Act.put, List.setIfInBounds_toArray, List.set_cons_zero, List.set_cons_succ]
              refine wpHead_one (i := 11) (o := ⟨some 18, _, _, _, _, _⟩) rfl (by kernel_rfl) (by decide) (fun K hK => ?_)
              go_simp
              skip
              refine hK.out _ _ ?_ (fun hHeld => ?_)
              · exact HSW.out _ (FZ.out.alloc _)
              clear hK K
              try simp only [Act.put, List.setIfInBounds_toArray, List.set_cons_zero, List.set_cons_succ]
              refine wpHead_one (i := 12) (o := ⟨none, _, _, _, _, _⟩) rfl (by kernel_rfl) (by decide) (fun K hK => ?_)
              go_simp
              skip
              refine hK.out _ _ ?_ (fun hHeld => ?_)
              · exact HSW.out _ (FZ.out.alloc _)
              clear hK K
              try simp only [Act.put, List.setIfInBounds_toArray, List.set_cons_zero, List.set_cons_succ]
              refine wpHead_take (i := 13) (oi := ⟨some 19, _, _, _, _, _⟩) (v := ?_) rfl (by kernel_rfl) (fun _ _ _ h => h) (Or.inl ⟨by rfl, ?_⟩) hHeld ?_
              rotate_left
              · (intro w hSw; (try dsimp only at hSw); go_simp; try with_reducible rfl)
              try simp only [Act.put, List.setIfInBounds_toArray, List.set_cons_zero, List.set_cons_succ]
              refine wpHead_done (by kernel_rfl) ?_
              simp only [List.drop_succ_cons, List.drop_zero]
              go_wp2_with fail
              go_meet
              exact ⟨wz.heap.size, Rg, Ag, ng, cg, tg, kg, rfl, rfl, rfl, Lib.hid AP.out.out, Lib.hid (RvAt.ofA AP.out), Lib.hid (FZ.out.alloc _), Lib.hid FZ.out.size⟩

            · refine fun K hK => ?_
              go_simp
              skip
              refine hK.out _ _ ?_ (fun hHeld => ?_)
              · exact HSW.out _ ((Fr.refl [] wr).drew.alloc _)
              clear hK K
              try simp only [Act.put, List.setIfInBounds_toArray, List.set_cons_zero, List.set_cons_succ]
              refine wpHead_one (i := 6) (o := ⟨some 118, _, _, _, _, _⟩) rfl (by kernel_rfl) (by decide) (fun K hK => ?_)
              go_simp
              refine (HAR.out _ ((Fr.refl [] wr).drew.alloc _)).mono ?_
              rintro e wz ⟨Rg, Ag, ng, cg, tg, kg, rfl, hap, hfz⟩
              have AP := Lib.hid hap
              have FZ := Lib.hid hfz
              have hbz := Blk.fr (w := _) (g := wr.heap.size) (t := 37) (cs := #[.slice none 0 0, .int .i64 0, .bool false]) (Blk.new wr.drew _ _) hap.fr (by simp)
              have z0 := hbz.frozen 0
              have z1 := hbz.frozen 1
              have z2 := hbz.frozen 2
              have u0 := hbz.cell 0
              have u1 := hbz.cell 1
              have u2 := hbz.cell 2
              have HBZ := Lib.hid hbz
              clear hbz hap hfz
              refine hK.out _ _ ?_ (fun hHeld => ?_)
              · exact HSW.out _ FZ.out
              clear hK K
              try simp only [Act.put, List.setIfInBounds_toArray, List.set_cons_zero, List.set_cons_succ]
              refine wpHead_take (i := 7) (oi := ⟨some 111, _, _, _, _, _⟩) (v := ?_) rfl (by kernel_rfl) (fun _ _ _ h => h) (Or.inl ⟨by rfl, ?_⟩) hHeld ?_
              rotate_left
              · (intro w hSw; (try dsimp only at hSw); go_simp; try with_reducible rfl)
              try simp only [Act.put, List.setIfInBounds_toArray, List.set_cons_zero, List.set_cons_succ]
              refine wpHead_take (i := 8) (oi := ⟨some 119, _, _, _, _, _⟩) (v := ?_) rfl (by kernel_rfl) (fun _ _ _ h => h) (Or.inl ⟨by rfl, ?_⟩) hHeld ?_
              rotate_left
              · (intro w hSw; (try dsimp only at hSw); go_simp; try with_reducible rfl)
              try simp only [Act.put, List.setIfInBounds_toArray, List.set_cons_zero, List.set_cons_succ]
              refine wpHead_take (i := 9) (oi := ⟨some 120, _, _, _, _, _⟩) (v := ?_) rfl (by kernel_rfl) (fun _ _ _ h => h) (Or.inl ⟨by rfl, ?_⟩) hHeld ?_
              rotate_left
              · (intro w hSw; (try dsimp only at hSw); go_simp; try with_reducible rfl)
              try simp only [Act.put, List.setIfInBounds_toArray, List.set_cons_zero, List.set_cons_succ]
              refine wpHead_take (i := 10) (oi := ⟨some 121, _, _, _, _, _⟩) (v := ?_) rfl (by kernel_rfl) (fun _ _ _ h => h) (Or.inl ⟨by rfl, ?_⟩) hHeld ?_
              rotate_left
              · (intro w hSw; (try dsimp only at hSw); go_simp; try with_reducible rfl)
              try simp only [Act.put, List.setIfInBounds_toArray, List.set_cons_zero, List.set_cons_succ]
              refine wpHead_one (i := 12) (o := ⟨none, _, _, _, _, _⟩) rfl (by kernel_rfl) (by decide) (fun K hK => ?_)
              go_simp
              skip
              refine hK.out _ _ ?_ (fun hHeld => ?_)
              · exact HSW.out _ (((FZ.out.setCell (.inr (Nat.le_refl _)) _).setCell (.inr (Nat.le_refl _)) _).setCell (.inr (Nat.le_refl _)) _)
              clear hK K
              try simp only [Act.put, List.setIfInBounds_toArray, List.set_cons_zero, List.set_cons_succ]
              refine wpHead_take (i := 13) (oi := ⟨some 19, _, _, _, _, _⟩) (v := ?_) rfl (by kernel_rfl) (fun _ _ _ h => h) (Or.inl ⟨by rfl, ?_⟩) hHeld ?_
              rotate_left
              · (intro w hSw; (try dsimp only at hSw); go_simp; try with_reducible rfl)
              try simp only [Act.put, List.setIfInBounds_toArray, List.set_cons_zero, List.set_cons_succ]
              refine wpHead_done (by kernel_rfl) ?_
              simp only [List.drop_succ_cons, List.drop_zero]
              go_wp2_with fail
              go_meet
              exact ⟨wr.heap.size, Rg, Ag, ng, cg, tg, kg, rfl, rfl, rfl, Lib.hid AP.out.out, Lib.hid (RvAt.ofB AP.out HBZ.out).1, Lib.hid (((FZ.out.setCell (.inr (Nat.le_refl _)) _).setCell (.inr (Nat.le_refl _)) _).setCell (.inr (Nat.le_refl _)) _), Lib.hid (Nat.le_refl _)⟩

          case rest =>
          clear HSW HAR s0
          obtain ⟨gg, Rg, Ag, ng, cg, tg, kg, rfl, rfl, rfl, HAO, RVg, Fg, HGg⟩ := hcut
          replace PG := Lib.hid (PG.out.fr0 Fg.out)
          replace GX := Lib.hid (GX.out.fr0 Fg.out)
          replace RVa := Lib.hid (RVa.out.fr0 Fg.out)
          clear Fg HGg
          obtain ⟨wn, hwn⟩ : ∃ x, x = wc := ⟨_, rfl⟩
          subst hwn
          obtain ⟨bb2', off2', Ak', ck', hA', hbb2, hc0, hc1, hhc, _⟩ := PG.out.open_ hkl
          rw [HR.out] at hc0 hc1 hhc
          rw [← HNK.out] at hc1
          rw [← HPK.out] at hc0
          have eA : bb2' = bb' ∧ off2' = off' := by
            injection hA' with hA'
            injection hA' with h1 h2
            exact ⟨h1.symm, h2.symm⟩
          obtain ⟨rfl, rfl⟩ := eA
          clear hA'
          have HAP := Lib.hid (PG.out.apply (cap := ck') hhc (by rw [← HNK.out]; exact hl8) HNK.out HPK.out HFIT.out)
          go_upto_region 23 with (go_at_call 13; refine HAP.out.mono ?_; rintro e wy ⟨rfl, hpg, fS⟩; have PG2 := Lib.hid hpg; have FS := Lib.hid fS; clear hpg fS)
          replace RVa := Lib.hid (RVa.out.frS PG.out.sta FS.out)
          replace RVg := Lib.hid (RVg.out.frS PG.out.sta FS.out)
          replace GX := Lib.hid (GX.out.frS PG.out.sta FS.out)
          clear hc0 hc1 hhc HAP PG FS
          have PG := PG2
          clear PG2
          have HLA := Lib.hid (Blk.lt RVa.out.blk)
          have HLG := Lib.hid (Blk.lt RVg.out.blk)
          obtain ⟨Rb, HRRb⟩ : ∃ R, Hid (Em.of (Sm.apply s r) q = R) := ⟨_, Lib.hid rfl⟩
          have HBb := Lib.hid (Em.of_bounds HSO'.out HSS'.out q)
          have HOF := Lib.hid (PG.out.of HSS'.out HV.out)
          rw [HRRb.out] at HBb HOF
          have hbq : Blk wy gq 30 #[.int .i64 q.kind, .int .i64 q.table, .int .i64 q.column, .int .i64 q.low, .int .i64 q.high, .int .i64 q.by_, .int .i64 q.other] := PG.out.q
          go_upto_region 24 with (first
            | (refine wpList_load_row rfl _ _ rfl gq rfl 30 _ (0, 0) _ hbq Tryz.underlying30 rfl (by kernel_rfl) ?_)
            | (go_at_call 9; refine HOF.out.mono ?_; rintro e wx ⟨Ab, nb, cb, rfl, hrw⟩; have RW := Lib.hid hrw; clear hrw))
          clear hbq HOF
          have RVb := Lib.hid (RvAt.of (c := cb) RW.out)
          have Fb := Lib.hid (RW.out.fr.trans ((Fr.refl [] wx).alloc (.cells #[.slice Ab nb cb, .int .i64 Rb.value, .bool Rb.found] 37)))
          replace PG := Lib.hid (PG.out.fr0 Fb.out)
          have HGX := Lib.hid RW.out.fr.size
          clear RW
          have HGb : Hid (wy.heap.size ≤ wx.heap.size) := Lib.hid HGX.out
          clear HGX
          generalize hw5 : wx.alloc (.cells #[.slice Ab nb cb, .int .i64 Rb.value, .bool Rb.found] 37) = wb at *
          clear hw5
          generalize wx.heap.size = gb at *
          replace RVa := Lib.hid (RVa.out.fr0 Fb.out)
          replace RVg := Lib.hid (RVg.out.fr0 Fb.out)
          replace GX := Lib.hid (GX.out.fr0 Fb.out)
          have HNB : Hid (ga ≠ gb) := Lib.hid (by have := HLA.out; have := HGb.out; omega)
          have HPT := Lib.hid (Pm.patched HV.out HSO.out HFIT.out HRRa.out HRRb.out HAO.out)
          clear HRRa HAO Fb HLA HLG HGb
          rw [← HRUN.out] at PG HRRb
          cases kg
          · clear HPT
            have hg : Blk wb gb 37 #[.slice Ab nb cb, .int .i64 Rb.value, .bool Rb.found] := RVb.out.blk
            have z0 := RVa.out.blk.z 0
            have z1 := RVa.out.blk.z 1
            have z2 := RVa.out.blk.z 2
            have u0 := RVa.out.blk.c0
            have u1 := RVa.out.blk.c1
            have u2 := RVa.out.blk.c2
            have h3 := RvAt.put RVa.out RVb.out
            have RV3 := Lib.hid h3.1
            have PG3 := Lib.hid (PG.out.frR RVa.out.blk h3.2 HGA0.out)
            have GX3 := Lib.hid (GX.out.frR RVa.out.blk h3.2)
            clear h3
            go_wp2_with (refine wpList_load_row rfl _ _ rfl gb rfl 37 _ (0, 0) _ hg Tryz.underlying37 rfl (by kernel_rfl) ?_)
            go_roundw
            case rel => exact ⟨k + 1, Rb, _, _, _, by go_num, by omega, HRRb, PG3, GX3, RV3⟩
            case measure => simp [intOf]; omega
          · have HEQ := HPT.out.1 rfl
            clear HPT
            rw [HEQ] at RVg
            clear HEQ
            have g0 := RVg.out.blk.c0
            have g1 := RVg.out.blk.c1
            have g2 := RVg.out.blk.c2
            have b0 := RVb.out.blk.c0
            have b1 := RVb.out.blk.c1
            have b2 := RVb.out.blk.c2
            have HSM := Lib.hid (gsame_rv RVg.out RVb.out HBb.out.1 HBb.out.1 (decide_eq_true rfl))
            go_upto_region 26 with (go_at_call 14; refine HSM.out.mono ?_; rintro e w10 ⟨rfl, f9⟩; have F9 := Lib.hid f9; clear f9)
            clear HSM g0 g1 g2 b0 b1 b2
            replace RVb := Lib.hid (RVb.out.fr0 F9.out)
            replace RVa := Lib.hid (RVa.out.fr0 F9.out)
            replace PG := Lib.hid (PG.out.fr0 F9.out)
            replace GX := Lib.hid (GX.out.fr0 F9.out)
            have hg : Blk w10 gb 37 #[.slice Ab nb cb, .int .i64 Rb.value, .bool Rb.found] := RVb.out.blk
            have z0 := RVa.out.blk.z 0
            have z1 := RVa.out.blk.z 1
            have z2 := RVa.out.blk.z 2
            have u0 := RVa.out.blk.c0
            have u1 := RVa.out.blk.c1
            have u2 := RVa.out.blk.c2
            have h3 := RvAt.put RVa.out RVb.out
            have RV3 := Lib.hid h3.1
            have PG3 := Lib.hid (PG.out.frR RVa.out.blk h3.2 HGA0.out)
            have GX3 := Lib.hid (GX.out.frR RVa.out.blk h3.2)
            clear h3
            go_wp2_with (refine wpList_load_row rfl _ _ rfl gb rfl 37 _ (0, 0) _ hg Tryz.underlying37 rfl (by kernel_rfl) ?_)
            go_roundw
            case rel => exact ⟨k + 1, Rb, _, _, _, by go_num, by omega, HRRb, PG3, GX3, RV3⟩
            case measure => simp [intOf]; omega
        · have hkn : k = n6 := by omega
          subst hkn
          have hsp := sposition_any bs ms _ wr PG.out.sta
          rw [HOK.out.pos (j + k) HLE.out] at hsp
          have HSP := Lib.hid hsp
          have hxp := position_any bx mx c7 wr GX.out.rcv
          rw [HP7.out] at hxp
          have HXP := Lib.hid hxp
          clear hsp hxp
          go_wp2_with (first
            | (go_at_call 15; refine HSP.out.mono ?_; rintro e w' ⟨rfl, rfl⟩)
            | (go_at_call 16; refine HXP.out.mono ?_; rintro e w' ⟨rfl, rfl⟩))
          go_roundw
          case rel => exact ⟨ko + 1, j + k, c7, Ra, Aa, na, ca, by go_num, by omega, HLE, HRRa, Lib.hid (PG.out.row_ GX.out.log), GX, RVa⟩
          case measure => simp [intOf]; omega
    · go_wp2_with fail
      all_goals
        go_ret
        exact ⟨rfl, PG.out.fr.below⟩
end Go.Proofs.YthiaaminkfkjpaaGreat
