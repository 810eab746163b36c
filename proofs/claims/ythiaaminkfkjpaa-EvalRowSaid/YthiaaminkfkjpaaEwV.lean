/-
  EvalRow: the walk of the law.
-/
import Derived.Test.YthiaaminkfkjpaaEbl
import Derived.Test.YthiaaminkfkjpaaEas
namespace Go.Proofs.Ythiaaminkfkjpaa
open Go.RowKit

set_option maxRecDepth 100000 in
set_option maxHeartbeats 8000000 in
theorem row_walk (A : Option Addr) (n cap : Nat) (x0 x1 x2 x3 v0 v1 v2 : Int) (w : World) (hn : n ≤ cap) (hcap : cap ≤ maxLen) (hx : Fours w A n) (o0 : okI x0) (o1 : okI x1) (o2 : okI x2) (o3 : okI x3) (y0 : okI v0) (y1 : okI v1) (y2 : okI v2) :
    Calls Try.prog 3 #[.slice A n cap, .agg #[.int .i64 x0, .int .i64 x1, .int .i64 x2, .int .i64 x3], .agg #[.int .i64 v0, .int .i64 v1, .int .i64 v2]] w fun e w' => e = .returned (.bool true) ∧ Below w.heap.size w w' := by
  have F0 := ((Fr.refl [] w).alloc (.cells #[.int .i64 x0, .int .i64 x1, .int .i64 x2, .int .i64 x3] 23)).alloc (.cells #[.int .i64 v0, .int .i64 v1, .int .i64 v2] 24)
  have HX := Lib.hid (hx.fr0 F0)
  have H4 : Hid (Four ((w.alloc (.cells #[.int .i64 x0, .int .i64 x1, .int .i64 x2, .int .i64 x3] 23)).alloc (.cells #[.int .i64 v0, .int .i64 v1, .int .i64 v2] 24)) w.heap.size x0 x1 x2 x3) := Lib.hid (Blk.alloc (Blk.new _ _ _) _)
  have HF0 := Lib.hid F0
  have h3 := Blk.new (w.alloc (.cells #[.int .i64 x0, .int .i64 x1, .int .i64 x2, .int .i64 x3] 23)) 24 #[.int .i64 v0, .int .i64 v1, .int .i64 v2]
  rw [World.size_alloc] at h3
  have H3 := Lib.hid h3
  clear h3
  obtain ⟨p0, b0, -, K0⟩ := pick_is2 y0 (n := 20) (by decide) (by decide)
  obtain ⟨p1, b1, -, K1⟩ := pick_is2 y1 (n := 14) (by decide) (by decide)
  obtain ⟨p2, b2, -, K2⟩ := pick_is2 y2 (n := 40) (by decide) (by decide)
  have HW2 : Hid (IntKind.i64.wrap (p2 - 10) = p2 - 10) := Lib.hid (IntWalk.i64_in _ ⟨by omega, by omega⟩)
  clear y0 y1 y2
  have O0 := Lib.hid o0
  have O1 := Lib.hid o1
  have O2 := Lib.hid o2
  have O3 := Lib.hid o3
  clear hx o0 o1 o2 o3 F0
  go_enter Try.func3, Try.ntmps3
  go_upto_region 4 with (first
    | (go_at_call 4; refine (sane6_any _).mono ?_; rintro e wa ⟨rfl, fa⟩; have FA := Lib.hid fa; clear fa)
    | (go_at_call 5; refine (changes_any A n cap _ hn hcap (HX.out.fr0 FA.out)).mono ?_; rintro e wb ⟨A2, n2, c2, out, rfl, hown, hn2, hok, hol, fb, -⟩; have HN2 := Lib.hid hn2; have HRA0 := Lib.hid hown.recs.1; have HCAP : Hid (n2 ≤ c2) := Lib.hid (by rw [hn2] at hown ⊢; exact hown.cap); have HCG := Lib.hid hok; have HOL := Lib.hid hol; have FB := Lib.hid (FA.out.trans fb); have H4b := Lib.hid (H4.out.fr FB.out (by simp)); have H3b := Lib.hid (H3.out.fr FB.out (by simp)); have g0 := H4b.out.cells.1; have g1 := H4b.out.cells.2.1; have g2 := H4b.out.cells.2.2.1; have g3 := H4b.out.cells.2.2.2; clear hown hn2 hok hol fb)
    | (go_at_call 6; refine (query6_any _ x1 x2 x3 _ (by first | exact O0.out | exact okI_wrap64 _ | exact okI_wrap _) O1.out O2.out O3.out).mono ?_; rintro e w1 ⟨⟨qk, qt, qc, ql, qh, qb, qo⟩, rfl, hq, f1⟩; have HQ := Lib.hid hq; have F1 := Lib.hid f1; clear hq f1))
  clear g0 g1 g2 g3 H4 HX
  have HRA := Lib.hid (HRA0.out.fr0 F1.out)
  have FW := Lib.hid ((HF0.out.trans FB.out).trans F1.out)
  have SN0 : Hid (Sn w1 (w1.alloc (.cells #[.int .i64 qk, .int .i64 qt, .int .i64 qc, .int .i64 ql, .int .i64 qh, .int .i64 qb, .int .i64 qo] 29)) w1.heap.size ⟨qk, qt, qc, ql, qh, qb, qo⟩) := Lib.hid ⟨(Fr.refl _ _).alloc _, QAt.new w1 ⟨qk, qt, qc, ql, qh, qb, qo⟩, Nat.le_refl _⟩
  have H3c := Lib.hid ((H3b.out.fr F1.out (by simp)).fr SN0.out.fr (by simp))
  clear HRA0 FB F1 H3 H3b H4b FA HF0 O0 O1 O2 O3
  generalize hwa : w1.alloc (.cells #[.int .i64 qk, .int .i64 qt, .int .i64 qc, .int .i64 ql, .int .i64 qh, .int .i64 qb, .int .i64 qo] 29) = wa0 at *
  clear hwa
  obtain ⟨gq, hgq⟩ : ∃ g, w1.heap.size = g := ⟨_, rfl⟩
  rw [hgq] at SN0 ⊢
  have HGQ : Hid (w1.heap.size ≤ gq) := Lib.hid (Nat.le_of_eq hgq)
  clear hgq
  have HQB := HQ.out
  have hqk := HQB.k
  have hqt := HQB.t
  have hqc := HQB.c
  have hql := HQB.lo
  have hqo := HQB.o
  have hqb := HQB.b
  dsimp only at hqk hqt hqc hql hqo hqb
  clear HQB
  have a0 : wa0.cell? ⟨w.heap.size + 1, 0, none⟩ = some (.int .i64 v0) := H3c.out.cell 0
  have a1 : wa0.cell? ⟨w.heap.size + 1, 1, none⟩ = some (.int .i64 v1) := H3c.out.cell 1
  have a2 : wa0.cell? ⟨w.heap.size + 1, 2, none⟩ = some (.int .i64 v2) := H3c.out.cell 2
  have c1 := SN0.out.q.c1
  dsimp only at c1
  go_cut [10] (fun v wc => v = .pointer (some ⟨wa0.heap.size, 0, none⟩) ∧ Hid (Blk wc wa0.heap.size 33 #[.int .i64 qt, .int .i64 500, .int .i64 p0, .int .i64 p1, .int .i64 (p2 - 10)]) ∧ Hid (Fr [] wa0 wc))
  case first =>
    go_region_held3 (fun w' => w'.cell? ⟨gq, 1, none⟩ = some (.int .i64 qt) ∧ w'.cell? ⟨w.heap.size + 1, 0, none⟩ = some (.int .i64 v0) ∧ w'.cell? ⟨w.heap.size + 1, 1, none⟩ = some (.int .i64 v1) ∧ w'.cell? ⟨w.heap.size + 1, 2, none⟩ = some (.int .i64 v2))
      (first | exact ⟨c1, a0, a1, a2⟩ | go_keep)
      (first
        | (go_at_call 7; (with_reducible refine (K0.out _).mono ?_); rintro e w' ⟨rfl, rfl⟩)
        | (go_at_call 7; (with_reducible refine (K1.out _).mono ?_); rintro e w' ⟨rfl, rfl⟩)
        | (go_at_call 7; (with_reducible refine (K2.out _).mono ?_); rintro e w' ⟨rfl, rfl⟩))
    all_goals
      go_wp2_with fail
      go_meet
      rw [HW2.out]
      have hn := Blk.new wa0 33 #[.int .i64 qt, .int .i64 500, .int .i64 p0, .int .i64 p1, .int .i64 (p2 - 10)]
      exact ⟨rfl, Lib.hid (hn.fr (Fr.refl [] _).drew (by simp)), Lib.hid ((Fr.refl [] wa0).alloc _).drew⟩
  case rest =>
  obtain ⟨rfl, BR, FR⟩ := hcut
  obtain ⟨wr4, hwr4⟩ : ∃ x, x = wc := ⟨_, rfl⟩
  subst hwr4
  clear a0 a1 a2 c1 K0 K1 K2 H3c HW2
  have HRC := Lib.hid ((HRA.out.fr0 SN0.out.fr).fr0 FR.out)
  have SN1 := Lib.hid (SN0.out.fr0 FR.out)
  clear HRA SN0 FR
  generalize wa0.heap.size = gr at *
  obtain ⟨us, hus, husr, hush⟩ := HRC.out
  have HUS := Lib.hid (And.intro husr hush)
  have HNU : Hid (n2 = us.length) := Lib.hid (by rw [HN2.out, ← husr, List.length_map])
  have HRD : Hid (∀ W, Fr [] wr4 W → Reads W W.heap.size 2 A2 n2 (us.flatMap WRec.cells)) := Lib.hid (fun W hf => by rw [HNU.out]; exact reads_of_recs (hus.fr0 hf))
  clear hus husr hush
  obtain ⟨i0, TR⟩ := etRec
  have hn40 : n2 ≤ 40 := by rw [HN2.out]; exact HOL.out
  have HL1 : Hid (([] : List WRec).length + us.length ≤ maxLen) := Lib.hid (by rw [← HNU.out]; simp only [maxLen, List.length_nil]; omega)
  have HL2 : Hid ((([] : List WRec).length + us.length) * 32 ≤ 140737488355328) := Lib.hid (by rw [← HNU.out]; simp only [List.length_nil]; omega)
  have HL3 : Hid ((([] : List WRec) ++ us).length + 1 ≤ maxLen) := Lib.hid (by rw [List.nil_append, ← HNU.out]; simp only [maxLen]; omega)
  have HL4 : Hid (((([] : List WRec) ++ us).length + 1) * 32 ≤ 140737488355328) := Lib.hid (by rw [List.nil_append, ← HNU.out]; omega)
  have HN40 := Lib.hid hn40
  clear hn40
  have r0 : wr4.cell? ⟨gr, 0, none⟩ = some (.int .i64 qt) := BR.out.cell 0
  have r1 : wr4.cell? ⟨gr, 1, none⟩ = some (.int .i64 500) := BR.out.cell 1
  have r2 : wr4.cell? ⟨gr, 2, none⟩ = some (.int .i64 p0) := BR.out.cell 2
  have r3 : wr4.cell? ⟨gr, 3, none⟩ = some (.int .i64 p1) := BR.out.cell 3
  have r4 : wr4.cell? ⟨gr, 4, none⟩ = some (.int .i64 (p2 - 10)) := BR.out.cell 4
  have HSW : Hid (∀ W, Fr [] wr4 W → W.cell? ⟨gr, 0, none⟩ = some (.int .i64 qt) ∧ W.cell? ⟨gr, 1, none⟩ = some (.int .i64 500) ∧ W.cell? ⟨gr, 2, none⟩ = some (.int .i64 p0) ∧ W.cell? ⟨gr, 3, none⟩ = some (.int .i64 p1) ∧ W.cell? ⟨gr, 4, none⟩ = some (.int .i64 (p2 - 10))) := Lib.hid (fun W hf => ⟨(BR.out.fr hf (by simp)).cell 0, (BR.out.fr hf (by simp)).cell 1, (BR.out.fr hf (by simp)).cell 2, (BR.out.fr hf (by simp)).cell 3, (BR.out.fr hf (by simp)).cell 4⟩)
  go_upto_region 5 with (fail)
  go_cut [11] (fun v wn => ∃ A3 n3 c3, v = .slice A3 n3 c3 ∧ n3 = out.length + 1 ∧ n3 ≤ c3 ∧ Hid (RecsAt wn A3 (out ++ [⟨n2 + 1, [Em.addC qt 500 p0 p1 (p2 - 10)]⟩])) ∧ Hid (Fr [] wr4 wn))
  case first =>
    have hw1 : IntKind.i64.wrap ((n2 : Int) + 1) = (n2 : Int) + 1 := IntWalk.i64_in _ (by have := HN40.out; omega)
    refine wp_region_head (fun W => W.cell? ⟨gr, 0, none⟩ = some (.int .i64 qt) ∧ W.cell? ⟨gr, 1, none⟩ = some (.int .i64 500) ∧ W.cell? ⟨gr, 2, none⟩ = some (.int .i64 p0) ∧ W.cell? ⟨gr, 3, none⟩ = some (.int .i64 p1) ∧ W.cell? ⟨gr, 4, none⟩ = some (.int .i64 (p2 - 10))) 16 (by kernel_rfl) (by kernel_rfl) (HSW.out _ (Fr.refl [] wr4).drew) (fun hHeld => ?_)
    refine wpHead_take (i := 1) (oi := ⟨some 47, _, _, _, _, _⟩) (v := ?_) rfl (by kernel_rfl) (fun _ _ _ h => h) (Or.inl ⟨by rfl, ?_⟩) hHeld ?_
    rotate_left
    · (intro w hSw; (try dsimp only at hSw); go_simp; try with_reducible rfl)
    try simp only [Act.put, List.setIfInBounds_toArray, List.set_cons_zero, List.set_cons_succ]
    refine wpHead_take (i := 3) (oi := ⟨some 49, _, _, _, _, _⟩) (v := ?_) rfl (by kernel_rfl) (fun _ _ _ h => h) (Or.inl ⟨by rfl, ?_⟩) hHeld ?_
    rotate_left
    · (intro w hSw; (try dsimp only at hSw); go_simp; try with_reducible rfl)
    try simp only [Act.put, List.setIfInBounds_toArray, List.set_cons_zero, List.set_cons_succ]
    refine wpHead_take (i := 4) (oi := ⟨some 50, _, _, _, _, _⟩) (v := ?_) rfl (by kernel_rfl) (fun _ _ _ h => h) (Or.inl ⟨by rfl, ?_⟩) hHeld ?_
    rotate_left
    · (intro w hSw; (try dsimp only at hSw); go_simp; try with_reducible rfl)
    try simp only [Act.put, List.setIfInBounds_toArray, List.set_cons_zero, List.set_cons_succ]
    refine wpHead_take (i := 5) (oi := ⟨some 51, _, _, _, _, _⟩) (v := ?_) rfl (by kernel_rfl) (fun _ _ _ h => h) (Or.inl ⟨by rfl, ?_⟩) hHeld ?_
    rotate_left
    · (intro w hSw; (try dsimp only at hSw); go_simp; try with_reducible rfl)
    try simp only [Act.put, List.setIfInBounds_toArray, List.set_cons_zero, List.set_cons_succ]
    refine wpHead_take (i := 6) (oi := ⟨some 52, _, _, _, _, _⟩) (v := ?_) rfl (by kernel_rfl) (fun _ _ _ h => h) (Or.inl ⟨by rfl, ?_⟩) hHeld ?_
    rotate_left
    · (intro w hSw; (try dsimp only at hSw); go_simp; try with_reducible rfl)
    try simp only [Act.put, List.setIfInBounds_toArray, List.set_cons_zero, List.set_cons_succ]
    refine wpHead_take (i := 7) (oi := ⟨some 53, _, _, _, _, _⟩) (v := ?_) rfl (by kernel_rfl) (fun _ _ _ h => h) (Or.inl ⟨by rfl, ?_⟩) hHeld ?_
    rotate_left
    · (intro w hSw; (try dsimp only at hSw); go_simp; try with_reducible rfl)
    try simp only [Act.put, List.setIfInBounds_toArray, List.set_cons_zero, List.set_cons_succ]
    refine wpHead_take (i := 8) (oi := ⟨some 54, _, _, _, _, _⟩) (v := ?_) rfl (by kernel_rfl) (fun _ _ _ h => h) (Or.inl ⟨by rfl, ?_⟩) hHeld ?_
    rotate_left
    · (intro w hSw; (try dsimp only at hSw); go_simp; try with_reducible rfl)
    try simp only [Act.put, List.setIfInBounds_toArray, List.set_cons_zero, List.set_cons_succ]
    refine wpHead_take (i := 9) (oi := ⟨some 55, _, _, _, _, _⟩) (v := ?_) rfl (by kernel_rfl) (fun _ _ _ h => h) (Or.inl ⟨by rfl, ?_⟩) hHeld ?_
    rotate_left
    · (intro w hSw; (try dsimp only at hSw); go_simp; try with_reducible rfl)
    try simp only [Act.put, List.setIfInBounds_toArray, List.set_cons_zero, List.set_cons_succ]
    refine wpHead_take (i := 10) (oi := ⟨some 56, _, _, _, _, _⟩) (v := ?_) rfl (by kernel_rfl) (fun _ _ _ h => h) (Or.inl ⟨by rfl, ?_⟩) hHeld ?_
    rotate_left
    · (intro w hSw; (try dsimp only at hSw); go_simp; try with_reducible rfl)
    try simp only [Act.put, List.setIfInBounds_toArray, List.set_cons_zero, List.set_cons_succ]
    refine wpHead_take (i := 11) (oi := ⟨some 57, _, _, _, _, _⟩) (v := ?_) rfl (by kernel_rfl) (fun _ _ _ h => h) (Or.inl ⟨by rfl, ?_⟩) hHeld ?_
    rotate_left
    · (intro w hSw; (try dsimp only at hSw); go_simp; try with_reducible rfl)
    try simp only [Act.put, List.setIfInBounds_toArray, List.set_cons_zero, List.set_cons_succ]
    refine wpHead_take (i := 12) (oi := ⟨some 58, _, _, _, _, _⟩) (v := ?_) rfl (by kernel_rfl) (fun _ _ _ h => h) (Or.inl ⟨by rfl, ?_⟩) hHeld ?_
    rotate_left
    · (intro w hSw; (try dsimp only at hSw); go_simp; try with_reducible rfl)
    try simp only [Act.put, List.setIfInBounds_toArray, List.set_cons_zero, List.set_cons_succ]
    have FZ : Hid (Fr [] wr4 wr4.drew) := Lib.hid (Fr.refl _ _).drew
    clear r0 r1 r2 r3 r4
    generalize wr4.drew = V0 at *
    refine wpHead_two (i := 0) (j := 13) (oi := ⟨some 46, _, _, _, _, _⟩) (oj := ⟨some 59, _, _, _, _, _⟩) rfl rfl (by kernel_rfl) (by decide) (by decide) ?_ ?_
    · refine fun K hK => ?_
      go_simp
      refine hK.out _ _ ?_ (fun hHeld => ?_)
      · exact HSW.out _ (FZ.out.alloc _)
      clear hK K
      try simp only [Act.put, List.setIfInBounds_toArray, List.set_cons_zero, List.set_cons_succ]
      have f1 : Fr [] V0 (V0.alloc (.cells #[] 38)) := (Fr.refl _ _).alloc _
      have OE : Hid (OwnL 38 2 WRec.cells (V0.alloc (.cells #[] 38)) (.slice (some ⟨V0.heap.size, 0, none⟩) 0 0) ([] : List WRec)) := Lib.hid (own_emptyG rfl)
      have HGE : Hid (wr4.heap.size ≤ V0.heap.size) := Lib.hid FZ.out.size
      replace FZ := Lib.hid (FZ.out.trans f1)
      clear f1
      generalize V0.alloc (.cells #[] 38) = V1 at *
      generalize V0.heap.size = ge at *
      refine wpHead_two (i := 2) (j := 13) (oi := ⟨some 48, _, _, _, _, _⟩) (oj := ⟨some 59, _, _, _, _, _⟩) rfl rfl (by kernel_rfl) (by decide) (by decide) ?_ ?_
      · refine fun K hK => ?_
        refine step_appendL rfl _ _ rfl TR WRec.len WRec.one rfl OE.out _ _ _ _ us rfl HNU.out (HRD.out _ FZ.out) HL1.out HL2.out ?_
        intro v5 V2 hown5 hg5 hat5
        have AP := Lib.hid (ap1 (wc := wr4) FZ.out HGE.out hg5 hat5)
        have O5 := Lib.hid hown5
        have N5 : Hid (∀ g, v5.ownBlock = some g → wr4.heap.size ≤ g) := Lib.hid (fun g hg => by rcases AP.out.nb g hg with h | h; (· rw [h]; exact HGE.out); (· rw [h]; exact FZ.out.size))
        clear hown5 hg5 hat5
        refine hK.out _ _ ?_ (fun hHeld => ?_)
        · exact HSW.out _ AP.out.fr
        clear hK K
        try simp only [Act.put, List.setIfInBounds_toArray, List.set_cons_zero, List.set_cons_succ]
        replace FZ := Lib.hid AP.out.fr
        clear AP OE HGE
        replace N5 : Hid (∀ g, v5.ownBlock = some g → wr4.heap.size ≤ g ∧ True) := Lib.hid (fun g hg => ⟨N5.out g hg, trivial⟩)
        refine wpHead_one (i := 13) (o := ⟨some 59, _, _, _, _, _⟩) rfl (by kernel_rfl) (by decide) (fun K hK => ?_)
        go_simp
        refine hK.out _ _ ?_ (fun hHeld => ?_)
        · exact HSW.out _ (FZ.out.alloc _)
        clear hK K
        try simp only [Act.put, List.setIfInBounds_toArray, List.set_cons_zero, List.set_cons_succ]
        have f1 : Fr [] V2 (V2.alloc (.cells #[.int .i64 qt, .int .i64 500, .bool false, .int .i64 0, .int .i64 0, .int .i64 0, .bool true, .int .i64 p0, .int .i64 p1, .int .i64 (p2 - 10)] 35)) := (Fr.refl _ _).alloc _
        replace N5 : Hid (∀ g, v5.ownBlock = some g → wr4.heap.size ≤ g ∧ g ≠ V2.heap.size) := Lib.hid (fun g hg => ⟨(N5.out g hg).1, Nat.ne_of_lt (OwnL.lt O5.out hg)⟩)
        replace O5 := Lib.hid (O5.out.fr f1 (by simp))
        have BC : Hid (Blk (V2.alloc (.cells #[.int .i64 qt, .int .i64 500, .bool false, .int .i64 0, .int .i64 0, .int .i64 0, .bool true, .int .i64 p0, .int .i64 p1, .int .i64 (p2 - 10)] 35)) V2.heap.size 35 #[.int .i64 qt, .int .i64 500, .bool false, .int .i64 0, .int .i64 0, .int .i64 0, .bool true, .int .i64 p0, .int .i64 p1, .int .i64 (p2 - 10)]) := Lib.hid (Blk.newG rfl)
        replace FZ := Lib.hid (FZ.out.trans f1)
        clear f1
        generalize V2.alloc (.cells #[.int .i64 qt, .int .i64 500, .bool false, .int .i64 0, .int .i64 0, .int .i64 0, .bool true, .int .i64 p0, .int .i64 p1, .int .i64 (p2 - 10)] 35) = V3 at *
        generalize V2.heap.size = gc at *
        refine wpHead_take (i := 14) (oi := ⟨some 60, _, _, _, _, _⟩) (v := ?_) rfl (by kernel_rfl) (fun _ _ _ h => h) (Or.inl ⟨by rfl, ?_⟩) hHeld ?_
        rotate_left
        · (intro w hSw; (try dsimp only at hSw); go_simp; try with_reducible rfl)
        try simp only [Act.put, List.setIfInBounds_toArray, List.set_cons_zero, List.set_cons_succ]
        refine wpHead_one (i := 15) (o := ⟨some 61, _, _, _, _, _⟩) rfl (by kernel_rfl) (by decide) (fun K hK => ?_)
        go_simp
        refine hK.out _ _ ?_ (fun hHeld => ?_)
        · exact HSW.out _ (FZ.out.alloc _)
        clear hK K
        try simp only [Act.put, List.setIfInBounds_toArray, List.set_cons_zero, List.set_cons_succ]
        have f1 : Fr [] V3 (V3.alloc (.cells #[.int .i64 ((n2 : Int) + 1), .slice (some ⟨gc, 0, none⟩) 1 1] 38)) := (Fr.refl _ _).alloc _
        replace O5 := Lib.hid (O5.out.fr f1 (by simp))
        replace BC := Lib.hid (BC.out.fr f1 (by simp))
        have BR2 : Hid (Blk (V3.alloc (.cells #[.int .i64 ((n2 : Int) + 1), .slice (some ⟨gc, 0, none⟩) 1 1] 38)) V3.heap.size 38 #[.int .i64 ((n2 : Int) + 1), .slice (some ⟨gc, 0, none⟩) 1 1]) := Lib.hid (Blk.newG rfl)
        replace FZ := Lib.hid (FZ.out.trans f1)
        clear f1
        generalize V3.alloc (.cells #[.int .i64 ((n2 : Int) + 1), .slice (some ⟨gc, 0, none⟩) 1 1] 38) = V4 at *
        generalize V3.heap.size = gR at *
        as_aux_lemma =>
        refine wpHead_done (by kernel_rfl) ?_
        simp only [List.drop_succ_cons, List.drop_zero]
        go_wp2_with (at_builtin; refine wpList_appendL rfl _ _ rfl TR WRec.len WRec.one rfl (L := [] ++ us) O5.out _ _ _ _ [(⟨⟨(n2 : Int) + 1, [Em.addC qt 500 p0 p1 (p2 - 10)]⟩, some ⟨gc, 0, none⟩, 1⟩ : WRec)] rfl rfl (reads_rec1 BR2.out rfl) HL3.out HL4.out ?_; intro v6 w6 hown6 hg6 hat6; obtain ⟨A6, m6, c6, hv6, hm6, hmc6, hr6, hf6⟩ := ap2 HUS.out.1 HUS.out.2 (u := (⟨⟨(n2 : Int) + 1, [Em.addC qt 500 p0 p1 (p2 - 10)]⟩, some ⟨gc, 0, none⟩, 1⟩ : WRec)) hown6 rfl (by show 1 ≤ 8; omega) BC.out rfl FZ.out N5.out hg6; subst hv6; have HR6 := Lib.hid hr6; have HF6 := Lib.hid hf6; clear hown6 hg6 hat6 hr6 hf6)
        go_meet
        exact ⟨A6, out.length + 1, c6, rfl, rfl, by omega, HR6, HF6⟩
      · refine fun K hK => ?_
        go_simp
        refine hK.out _ _ ?_ (fun hHeld => ?_)
        · exact HSW.out _ (FZ.out.alloc _)
        clear hK K
        try simp only [Act.put, List.setIfInBounds_toArray, List.set_cons_zero, List.set_cons_succ]
        have f1 : Fr [] V1 (V1.alloc (.cells #[.int .i64 qt, .int .i64 500, .bool false, .int .i64 0, .int .i64 0, .int .i64 0, .bool true, .int .i64 p0, .int .i64 p1, .int .i64 (p2 - 10)] 35)) := (Fr.refl _ _).alloc _
        have NEC : Hid (V1.heap.size ≠ ge) := Lib.hid (Nat.ne_of_gt (OwnL.lt OE.out rfl))
        replace OE := Lib.hid (OE.out.fr f1 (by simp))
        have BC : Hid (Blk (V1.alloc (.cells #[.int .i64 qt, .int .i64 500, .bool false, .int .i64 0, .int .i64 0, .int .i64 0, .bool true, .int .i64 p0, .int .i64 p1, .int .i64 (p2 - 10)] 35)) V1.heap.size 35 #[.int .i64 qt, .int .i64 500, .bool false, .int .i64 0, .int .i64 0, .int .i64 0, .bool true, .int .i64 p0, .int .i64 p1, .int .i64 (p2 - 10)]) := Lib.hid (Blk.newG rfl)
        replace FZ := Lib.hid (FZ.out.trans f1)
        clear f1
        generalize V1.alloc (.cells #[.int .i64 qt, .int .i64 500, .bool false, .int .i64 0, .int .i64 0, .int .i64 0, .bool true, .int .i64 p0, .int .i64 p1, .int .i64 (p2 - 10)] 35) = V2 at *
        generalize V1.heap.size = gc at *
        refine wpHead_take (i := 14) (oi := ⟨some 60, _, _, _, _, _⟩) (v := ?_) rfl (by kernel_rfl) (fun _ _ _ h => h) (Or.inl ⟨by rfl, ?_⟩) hHeld ?_
        rotate_left
        · (intro w hSw; (try dsimp only at hSw); go_simp; try with_reducible rfl)
        try simp only [Act.put, List.setIfInBounds_toArray, List.set_cons_zero, List.set_cons_succ]
        refine wpHead_two (i := 2) (j := 15) (oi := ⟨some 48, _, _, _, _, _⟩) (oj := ⟨some 61, _, _, _, _, _⟩) rfl rfl (by kernel_rfl) (by decide) (by decide) ?_ ?_
        · refine fun K hK => ?_
          refine step_appendL rfl _ _ rfl TR WRec.len WRec.one rfl OE.out _ _ _ _ us rfl HNU.out (HRD.out _ FZ.out) HL1.out HL2.out ?_
          intro v5 V3 hown5 hg5 hat5
          have AP := Lib.hid (ap1 (wc := wr4) FZ.out HGE.out hg5 hat5)
          have O5 := Lib.hid hown5
          have N5 : Hid (∀ g, v5.ownBlock = some g → wr4.heap.size ≤ g ∧ g ≠ gc) := Lib.hid (fun g hg => ⟨by rcases AP.out.nb g hg with h | h; (· rw [h]; exact HGE.out); (· rw [h]; exact FZ.out.size), by rcases AP.out.nb g hg with h | h; (· rw [h]; exact fun e => NEC.out e.symm); (· rw [h]; exact Nat.ne_of_gt BC.out.lt)⟩)
          replace BC := Lib.hid (AP.out.blk _ _ _ NEC.out BC.out)
          clear hown5 hg5 hat5
          refine hK.out _ _ ?_ (fun hHeld => ?_)
          · exact HSW.out _ AP.out.fr
          clear hK K
          try simp only [Act.put, List.setIfInBounds_toArray, List.set_cons_zero, List.set_cons_succ]
          replace FZ := Lib.hid AP.out.fr
          clear AP OE HGE
          refine wpHead_one (i := 15) (o := ⟨some 61, _, _, _, _, _⟩) rfl (by kernel_rfl) (by decide) (fun K hK => ?_)
          go_simp
          refine hK.out _ _ ?_ (fun hHeld => ?_)
          · exact HSW.out _ (FZ.out.alloc _)
          clear hK K
          try simp only [Act.put, List.setIfInBounds_toArray, List.set_cons_zero, List.set_cons_succ]
          have f1 : Fr [] V3 (V3.alloc (.cells #[.int .i64 ((n2 : Int) + 1), .slice (some ⟨gc, 0, none⟩) 1 1] 38)) := (Fr.refl _ _).alloc _
          replace O5 := Lib.hid (O5.out.fr f1 (by simp))
          replace BC := Lib.hid (BC.out.fr f1 (by simp))
          have BR2 : Hid (Blk (V3.alloc (.cells #[.int .i64 ((n2 : Int) + 1), .slice (some ⟨gc, 0, none⟩) 1 1] 38)) V3.heap.size 38 #[.int .i64 ((n2 : Int) + 1), .slice (some ⟨gc, 0, none⟩) 1 1]) := Lib.hid (Blk.newG rfl)
          replace FZ := Lib.hid (FZ.out.trans f1)
          clear f1
          generalize V3.alloc (.cells #[.int .i64 ((n2 : Int) + 1), .slice (some ⟨gc, 0, none⟩) 1 1] 38) = V4 at *
          generalize V3.heap.size = gR at *
          as_aux_lemma =>
          refine wpHead_done (by kernel_rfl) ?_
          simp only [List.drop_succ_cons, List.drop_zero]
          go_wp2_with (at_builtin; refine wpList_appendL rfl _ _ rfl TR WRec.len WRec.one rfl (L := [] ++ us) O5.out _ _ _ _ [(⟨⟨(n2 : Int) + 1, [Em.addC qt 500 p0 p1 (p2 - 10)]⟩, some ⟨gc, 0, none⟩, 1⟩ : WRec)] rfl rfl (reads_rec1 BR2.out rfl) HL3.out HL4.out ?_; intro v6 w6 hown6 hg6 hat6; obtain ⟨A6, m6, c6, hv6, hm6, hmc6, hr6, hf6⟩ := ap2 HUS.out.1 HUS.out.2 (u := (⟨⟨(n2 : Int) + 1, [Em.addC qt 500 p0 p1 (p2 - 10)]⟩, some ⟨gc, 0, none⟩, 1⟩ : WRec)) hown6 rfl (by show 1 ≤ 8; omega) BC.out rfl FZ.out N5.out hg6; subst hv6; have HR6 := Lib.hid hr6; have HF6 := Lib.hid hf6; clear hown6 hg6 hat6 hr6 hf6)
          go_meet
          exact ⟨A6, out.length + 1, c6, rfl, rfl, by omega, HR6, HF6⟩
        · refine fun K hK => ?_
          go_simp
          refine hK.out _ _ ?_ (fun hHeld => ?_)
          · exact HSW.out _ (FZ.out.alloc _)
          clear hK K
          try simp only [Act.put, List.setIfInBounds_toArray, List.set_cons_zero, List.set_cons_succ]
          have f1 : Fr [] V2 (V2.alloc (.cells #[.int .i64 ((n2 : Int) + 1), .slice (some ⟨gc, 0, none⟩) 1 1] 38)) := (Fr.refl _ _).alloc _
          have NER : Hid (V2.heap.size ≠ ge) := Lib.hid (Nat.ne_of_gt (OwnL.lt OE.out rfl))
          replace OE := Lib.hid (OE.out.fr f1 (by simp))
          replace BC := Lib.hid (BC.out.fr f1 (by simp))
          have BR2 : Hid (Blk (V2.alloc (.cells #[.int .i64 ((n2 : Int) + 1), .slice (some ⟨gc, 0, none⟩) 1 1] 38)) V2.heap.size 38 #[.int .i64 ((n2 : Int) + 1), .slice (some ⟨gc, 0, none⟩) 1 1]) := Lib.hid (Blk.newG rfl)
          replace FZ := Lib.hid (FZ.out.trans f1)
          clear f1
          generalize V2.alloc (.cells #[.int .i64 ((n2 : Int) + 1), .slice (some ⟨gc, 0, none⟩) 1 1] 38) = V3 at *
          generalize V2.heap.size = gR at *
          refine wpHead_one (i := 2) (o := ⟨some 48, _, _, _, _, _⟩) rfl (by kernel_rfl) (by decide) (fun K hK => ?_)
          refine step_appendL rfl _ _ rfl TR WRec.len WRec.one rfl OE.out _ _ _ _ us rfl HNU.out (HRD.out _ FZ.out) HL1.out HL2.out ?_
          intro v5 V4 hown5 hg5 hat5
          have AP := Lib.hid (ap1 (wc := wr4) FZ.out HGE.out hg5 hat5)
          have O5 := Lib.hid hown5
          have N5 : Hid (∀ g, v5.ownBlock = some g → wr4.heap.size ≤ g ∧ g ≠ gc) := Lib.hid (fun g hg => ⟨by rcases AP.out.nb g hg with h | h; (· rw [h]; exact HGE.out); (· rw [h]; exact FZ.out.size), by rcases AP.out.nb g hg with h | h; (· rw [h]; exact fun e => NEC.out e.symm); (· rw [h]; exact Nat.ne_of_gt BC.out.lt)⟩)
          replace BC := Lib.hid (AP.out.blk _ _ _ NEC.out BC.out)
          replace BR2 := Lib.hid (AP.out.blk _ _ _ NER.out BR2.out)
          clear hown5 hg5 hat5
          refine hK.out _ _ ?_ (fun hHeld => ?_)
          · exact HSW.out _ AP.out.fr
          clear hK K
          try simp only [Act.put, List.setIfInBounds_toArray, List.set_cons_zero, List.set_cons_succ]
          replace FZ := Lib.hid AP.out.fr
          clear AP OE HGE
          as_aux_lemma =>
          refine wpHead_done (by kernel_rfl) ?_
          simp only [List.drop_succ_cons, List.drop_zero]
          go_wp2_with (at_builtin; refine wpList_appendL rfl _ _ rfl TR WRec.len WRec.one rfl (L := [] ++ us) O5.out _ _ _ _ [(⟨⟨(n2 : Int) + 1, [Em.addC qt 500 p0 p1 (p2 - 10)]⟩, some ⟨gc, 0, none⟩, 1⟩ : WRec)] rfl rfl (reads_rec1 BR2.out rfl) HL3.out HL4.out ?_; intro v6 w6 hown6 hg6 hat6; obtain ⟨A6, m6, c6, hv6, hm6, hmc6, hr6, hf6⟩ := ap2 HUS.out.1 HUS.out.2 (u := (⟨⟨(n2 : Int) + 1, [Em.addC qt 500 p0 p1 (p2 - 10)]⟩, some ⟨gc, 0, none⟩, 1⟩ : WRec)) hown6 rfl (by show 1 ≤ 8; omega) BC.out rfl FZ.out N5.out hg6; subst hv6; have HR6 := Lib.hid hr6; have HF6 := Lib.hid hf6; clear hown6 hg6 hat6 hr6 hf6)
          go_meet
          exact ⟨A6, out.length + 1, c6, rfl, rfl, by omega, HR6, HF6⟩
    · refine fun K hK => ?_
      go_simp
      refine hK.out _ _ ?_ (fun hHeld => ?_)
      · exact HSW.out _ (FZ.out.alloc _)
      clear hK K
      try simp only [Act.put, List.setIfInBounds_toArray, List.set_cons_zero, List.set_cons_succ]
      have f1 : Fr [] V0 (V0.alloc (.cells #[.int .i64 qt, .int .i64 500, .bool false, .int .i64 0, .int .i64 0, .int .i64 0, .bool true, .int .i64 p0, .int .i64 p1, .int .i64 (p2 - 10)] 35)) := (Fr.refl _ _).alloc _
      have BC : Hid (Blk (V0.alloc (.cells #[.int .i64 qt, .int .i64 500, .bool false, .int .i64 0, .int .i64 0, .int .i64 0, .bool true, .int .i64 p0, .int .i64 p1, .int .i64 (p2 - 10)] 35)) V0.heap.size 35 #[.int .i64 qt, .int .i64 500, .bool false, .int .i64 0, .int .i64 0, .int .i64 0, .bool true, .int .i64 p0, .int .i64 p1, .int .i64 (p2 - 10)]) := Lib.hid (Blk.newG rfl)
      replace FZ := Lib.hid (FZ.out.trans f1)
      clear f1
      generalize V0.alloc (.cells #[.int .i64 qt, .int .i64 500, .bool false, .int .i64 0, .int .i64 0, .int .i64 0, .bool true, .int .i64 p0, .int .i64 p1, .int .i64 (p2 - 10)] 35) = V1 at *
      generalize V0.heap.size = gc at *
      refine wpHead_take (i := 14) (oi := ⟨some 60, _, _, _, _, _⟩) (v := ?_) rfl (by kernel_rfl) (fun _ _ _ h => h) (Or.inl ⟨by rfl, ?_⟩) hHeld ?_
      rotate_left
      · (intro w hSw; (try dsimp only at hSw); go_simp; try with_reducible rfl)
      try simp only [Act.put, List.setIfInBounds_toArray, List.set_cons_zero, List.set_cons_succ]
      refine wpHead_two (i := 0) (j := 15) (oi := ⟨some 46, _, _, _, _, _⟩) (oj := ⟨some 61, _, _, _, _, _⟩) rfl rfl (by kernel_rfl) (by decide) (by decide) ?_ ?_
      · refine fun K hK => ?_
        go_simp
        refine hK.out _ _ ?_ (fun hHeld => ?_)
        · exact HSW.out _ (FZ.out.alloc _)
        clear hK K
        try simp only [Act.put, List.setIfInBounds_toArray, List.set_cons_zero, List.set_cons_succ]
        have f1 : Fr [] V1 (V1.alloc (.cells #[] 38)) := (Fr.refl _ _).alloc _
        have NEC : Hid (gc ≠ V1.heap.size) := Lib.hid (Nat.ne_of_lt BC.out.lt)
        replace BC := Lib.hid (BC.out.fr f1 (by simp))
        have OE : Hid (OwnL 38 2 WRec.cells (V1.alloc (.cells #[] 38)) (.slice (some ⟨V1.heap.size, 0, none⟩) 0 0) ([] : List WRec)) := Lib.hid (own_emptyG rfl)
        have HGE : Hid (wr4.heap.size ≤ V1.heap.size) := Lib.hid FZ.out.size
        replace FZ := Lib.hid (FZ.out.trans f1)
        clear f1
        generalize V1.alloc (.cells #[] 38) = V2 at *
        generalize V1.heap.size = ge at *
        refine wpHead_two (i := 2) (j := 15) (oi := ⟨some 48, _, _, _, _, _⟩) (oj := ⟨some 61, _, _, _, _, _⟩) rfl rfl (by kernel_rfl) (by decide) (by decide) ?_ ?_
        · refine fun K hK => ?_
          refine step_appendL rfl _ _ rfl TR WRec.len WRec.one rfl OE.out _ _ _ _ us rfl HNU.out (HRD.out _ FZ.out) HL1.out HL2.out ?_
          intro v5 V3 hown5 hg5 hat5
          have AP := Lib.hid (ap1 (wc := wr4) FZ.out HGE.out hg5 hat5)
          have O5 := Lib.hid hown5
          have N5 : Hid (∀ g, v5.ownBlock = some g → wr4.heap.size ≤ g ∧ g ≠ gc) := Lib.hid (fun g hg => ⟨by rcases AP.out.nb g hg with h | h; (· rw [h]; exact HGE.out); (· rw [h]; exact FZ.out.size), by rcases AP.out.nb g hg with h | h; (· rw [h]; exact fun e => NEC.out e.symm); (· rw [h]; exact Nat.ne_of_gt BC.out.lt)⟩)
          replace BC := Lib.hid (AP.out.blk _ _ _ NEC.out BC.out)
          clear hown5 hg5 hat5
          refine hK.out _ _ ?_ (fun hHeld => ?_)
          · exact HSW.out _ AP.out.fr
          clear hK K
          try simp only [Act.put, List.setIfInBounds_toArray, List.set_cons_zero, List.set_cons_succ]
          replace FZ := Lib.hid AP.out.fr
          clear AP OE HGE
          refine wpHead_one (i := 15) (o := ⟨some 61, _, _, _, _, _⟩) rfl (by kernel_rfl) (by decide) (fun K hK => ?_)
          go_simp
          refine hK.out _ _ ?_ (fun hHeld => ?_)
          · exact HSW.out _ (FZ.out.alloc _)
          clear hK K
          try simp only [Act.put, List.setIfInBounds_toArray, List.set_cons_zero, List.set_cons_succ]
          have f1 : Fr [] V3 (V3.alloc (.cells #[.int .i64 ((n2 : Int) + 1), .slice (some ⟨gc, 0, none⟩) 1 1] 38)) := (Fr.refl _ _).alloc _
          replace O5 := Lib.hid (O5.out.fr f1 (by simp))
          replace BC := Lib.hid (BC.out.fr f1 (by simp))
          have BR2 : Hid (Blk (V3.alloc (.cells #[.int .i64 ((n2 : Int) + 1), .slice (some ⟨gc, 0, none⟩) 1 1] 38)) V3.heap.size 38 #[.int .i64 ((n2 : Int) + 1), .slice (some ⟨gc, 0, none⟩) 1 1]) := Lib.hid (Blk.newG rfl)
          replace FZ := Lib.hid (FZ.out.trans f1)
          clear f1
          generalize V3.alloc (.cells #[.int .i64 ((n2 : Int) + 1), .slice (some ⟨gc, 0, none⟩) 1 1] 38) = V4 at *
          generalize V3.heap.size = gR at *
          as_aux_lemma =>
          refine wpHead_done (by kernel_rfl) ?_
          simp only [List.drop_succ_cons, List.drop_zero]
          go_wp2_with (at_builtin; refine wpList_appendL rfl _ _ rfl TR WRec.len WRec.one rfl (L := [] ++ us) O5.out _ _ _ _ [(⟨⟨(n2 : Int) + 1, [Em.addC qt 500 p0 p1 (p2 - 10)]⟩, some ⟨gc, 0, none⟩, 1⟩ : WRec)] rfl rfl (reads_rec1 BR2.out rfl) HL3.out HL4.out ?_; intro v6 w6 hown6 hg6 hat6; obtain ⟨A6, m6, c6, hv6, hm6, hmc6, hr6, hf6⟩ := ap2 HUS.out.1 HUS.out.2 (u := (⟨⟨(n2 : Int) + 1, [Em.addC qt 500 p0 p1 (p2 - 10)]⟩, some ⟨gc, 0, none⟩, 1⟩ : WRec)) hown6 rfl (by show 1 ≤ 8; omega) BC.out rfl FZ.out N5.out hg6; subst hv6; have HR6 := Lib.hid hr6; have HF6 := Lib.hid hf6; clear hown6 hg6 hat6 hr6 hf6)
          go_meet
          exact ⟨A6, out.length + 1, c6, rfl, rfl, by omega, HR6, HF6⟩
        · refine fun K hK => ?_
          go_simp
          refine hK.out _ _ ?_ (fun hHeld => ?_)
          · exact HSW.out _ (FZ.out.alloc _)
          clear hK K
          try simp only [Act.put, List.setIfInBounds_toArray, List.set_cons_zero, List.set_cons_succ]
          have f1 : Fr [] V2 (V2.alloc (.cells #[.int .i64 ((n2 : Int) + 1), .slice (some ⟨gc, 0, none⟩) 1 1] 38)) := (Fr.refl _ _).alloc _
          have NER : Hid (V2.heap.size ≠ ge) := Lib.hid (Nat.ne_of_gt (OwnL.lt OE.out rfl))
          replace OE := Lib.hid (OE.out.fr f1 (by simp))
          replace BC := Lib.hid (BC.out.fr f1 (by simp))
          have BR2 : Hid (Blk (V2.alloc (.cells #[.int .i64 ((n2 : Int) + 1), .slice (some ⟨gc, 0, none⟩) 1 1] 38)) V2.heap.size 38 #[.int .i64 ((n2 : Int) + 1), .slice (some ⟨gc, 0, none⟩) 1 1]) := Lib.hid (Blk.newG rfl)
          replace FZ := Lib.hid (FZ.out.trans f1)
          clear f1
          generalize V2.alloc (.cells #[.int .i64 ((n2 : Int) + 1), .slice (some ⟨gc, 0, none⟩) 1 1] 38) = V3 at *
          generalize V2.heap.size = gR at *
          refine wpHead_one (i := 2) (o := ⟨some 48, _, _, _, _, _⟩) rfl (by kernel_rfl) (by decide) (fun K hK => ?_)
          refine step_appendL rfl _ _ rfl TR WRec.len WRec.one rfl OE.out _ _ _ _ us rfl HNU.out (HRD.out _ FZ.out) HL1.out HL2.out ?_
          intro v5 V4 hown5 hg5 hat5
          have AP := Lib.hid (ap1 (wc := wr4) FZ.out HGE.out hg5 hat5)
          have O5 := Lib.hid hown5
          have N5 : Hid (∀ g, v5.ownBlock = some g → wr4.heap.size ≤ g ∧ g ≠ gc) := Lib.hid (fun g hg => ⟨by rcases AP.out.nb g hg with h | h; (· rw [h]; exact HGE.out); (· rw [h]; exact FZ.out.size), by rcases AP.out.nb g hg with h | h; (· rw [h]; exact fun e => NEC.out e.symm); (· rw [h]; exact Nat.ne_of_gt BC.out.lt)⟩)
          replace BC := Lib.hid (AP.out.blk _ _ _ NEC.out BC.out)
          replace BR2 := Lib.hid (AP.out.blk _ _ _ NER.out BR2.out)
          clear hown5 hg5 hat5
          refine hK.out _ _ ?_ (fun hHeld => ?_)
          · exact HSW.out _ AP.out.fr
          clear hK K
          try simp only [Act.put, List.setIfInBounds_toArray, List.set_cons_zero, List.set_cons_succ]
          replace FZ := Lib.hid AP.out.fr
          clear AP OE HGE
          as_aux_lemma =>
          refine wpHead_done (by kernel_rfl) ?_
          simp only [List.drop_succ_cons, List.drop_zero]
          go_wp2_with (at_builtin; refine wpList_appendL rfl _ _ rfl TR WRec.len WRec.one rfl (L := [] ++ us) O5.out _ _ _ _ [(⟨⟨(n2 : Int) + 1, [Em.addC qt 500 p0 p1 (p2 - 10)]⟩, some ⟨gc, 0, none⟩, 1⟩ : WRec)] rfl rfl (reads_rec1 BR2.out rfl) HL3.out HL4.out ?_; intro v6 w6 hown6 hg6 hat6; obtain ⟨A6, m6, c6, hv6, hm6, hmc6, hr6, hf6⟩ := ap2 HUS.out.1 HUS.out.2 (u := (⟨⟨(n2 : Int) + 1, [Em.addC qt 500 p0 p1 (p2 - 10)]⟩, some ⟨gc, 0, none⟩, 1⟩ : WRec)) hown6 rfl (by show 1 ≤ 8; omega) BC.out rfl FZ.out N5.out hg6; subst hv6; have HR6 := Lib.hid hr6; have HF6 := Lib.hid hf6; clear hown6 hg6 hat6 hr6 hf6)
          go_meet
          exact ⟨A6, out.length + 1, c6, rfl, rfl, by omega, HR6, HF6⟩
      · refine fun K hK => ?_
        go_simp
        refine hK.out _ _ ?_ (fun hHeld => ?_)
        · exact HSW.out _ (FZ.out.alloc _)
        clear hK K
        try simp only [Act.put, List.setIfInBounds_toArray, List.set_cons_zero, List.set_cons_succ]
        have f1 : Fr [] V1 (V1.alloc (.cells #[.int .i64 ((n2 : Int) + 1), .slice (some ⟨gc, 0, none⟩) 1 1] 38)) := (Fr.refl _ _).alloc _
        replace BC := Lib.hid (BC.out.fr f1 (by simp))
        have BR2 : Hid (Blk (V1.alloc (.cells #[.int .i64 ((n2 : Int) + 1), .slice (some ⟨gc, 0, none⟩) 1 1] 38)) V1.heap.size 38 #[.int .i64 ((n2 : Int) + 1), .slice (some ⟨gc, 0, none⟩) 1 1]) := Lib.hid (Blk.newG rfl)
        replace FZ := Lib.hid (FZ.out.trans f1)
        clear f1
        generalize V1.alloc (.cells #[.int .i64 ((n2 : Int) + 1), .slice (some ⟨gc, 0, none⟩) 1 1] 38) = V2 at *
        generalize V1.heap.size = gR at *
        refine wpHead_one (i := 0) (o := ⟨some 46, _, _, _, _, _⟩) rfl (by kernel_rfl) (by decide) (fun K hK => ?_)
        go_simp
        refine hK.out _ _ ?_ (fun hHeld => ?_)
        · exact HSW.out _ (FZ.out.alloc _)
        clear hK K
        try simp only [Act.put, List.setIfInBounds_toArray, List.set_cons_zero, List.set_cons_succ]
        have f1 : Fr [] V2 (V2.alloc (.cells #[] 38)) := (Fr.refl _ _).alloc _
        have NEC : Hid (gc ≠ V2.heap.size) := Lib.hid (Nat.ne_of_lt BC.out.lt)
        have NER : Hid (gR ≠ V2.heap.size) := Lib.hid (Nat.ne_of_lt BR2.out.lt)
        replace BC := Lib.hid (BC.out.fr f1 (by simp))
        replace BR2 := Lib.hid (BR2.out.fr f1 (by simp))
        have OE : Hid (OwnL 38 2 WRec.cells (V2.alloc (.cells #[] 38)) (.slice (some ⟨V2.heap.size, 0, none⟩) 0 0) ([] : List WRec)) := Lib.hid (own_emptyG rfl)
        have HGE : Hid (wr4.heap.size ≤ V2.heap.size) := Lib.hid FZ.out.size
        replace FZ := Lib.hid (FZ.out.trans f1)
        clear f1
        generalize V2.alloc (.cells #[] 38) = V3 at *
        generalize V2.heap.size = ge at *
        refine wpHead_one (i := 2) (o := ⟨some 48, _, _, _, _, _⟩) rfl (by kernel_rfl) (by decide) (fun K hK => ?_)
        refine step_appendL rfl _ _ rfl TR WRec.len WRec.one rfl OE.out _ _ _ _ us rfl HNU.out (HRD.out _ FZ.out) HL1.out HL2.out ?_
        intro v5 V4 hown5 hg5 hat5
        have AP := Lib.hid (ap1 (wc := wr4) FZ.out HGE.out hg5 hat5)
        have O5 := Lib.hid hown5
        have N5 : Hid (∀ g, v5.ownBlock = some g → wr4.heap.size ≤ g ∧ g ≠ gc) := Lib.hid (fun g hg => ⟨by rcases AP.out.nb g hg with h | h; (· rw [h]; exact HGE.out); (· rw [h]; exact FZ.out.size), by rcases AP.out.nb g hg with h | h; (· rw [h]; exact fun e => NEC.out e.symm); (· rw [h]; exact Nat.ne_of_gt BC.out.lt)⟩)
        replace BC := Lib.hid (AP.out.blk _ _ _ NEC.out BC.out)
        replace BR2 := Lib.hid (AP.out.blk _ _ _ NER.out BR2.out)
        clear hown5 hg5 hat5
        refine hK.out _ _ ?_ (fun hHeld => ?_)
        · exact HSW.out _ AP.out.fr
        clear hK K
        try simp only [Act.put, List.setIfInBounds_toArray, List.set_cons_zero, List.set_cons_succ]
        replace FZ := Lib.hid AP.out.fr
        clear AP OE HGE
        as_aux_lemma =>
        refine wpHead_done (by kernel_rfl) ?_
        simp only [List.drop_succ_cons, List.drop_zero]
        go_wp2_with (at_builtin; refine wpList_appendL rfl _ _ rfl TR WRec.len WRec.one rfl (L := [] ++ us) O5.out _ _ _ _ [(⟨⟨(n2 : Int) + 1, [Em.addC qt 500 p0 p1 (p2 - 10)]⟩, some ⟨gc, 0, none⟩, 1⟩ : WRec)] rfl rfl (reads_rec1 BR2.out rfl) HL3.out HL4.out ?_; intro v6 w6 hown6 hg6 hat6; obtain ⟨A6, m6, c6, hv6, hm6, hmc6, hr6, hf6⟩ := ap2 HUS.out.1 HUS.out.2 (u := (⟨⟨(n2 : Int) + 1, [Em.addC qt 500 p0 p1 (p2 - 10)]⟩, some ⟨gc, 0, none⟩, 1⟩ : WRec)) hown6 rfl (by show 1 ≤ 8; omega) BC.out rfl FZ.out N5.out hg6; subst hv6; have HR6 := Lib.hid hr6; have HF6 := Lib.hid hf6; clear hown6 hg6 hat6 hr6 hf6)
        go_meet
        exact ⟨A6, out.length + 1, c6, rfl, rfl, by omega, HR6, HF6⟩
  case rest =>
  as_aux_lemma =>
  obtain ⟨A3, n3, c3', rfl, hn3, hnc3, HRM, FM⟩ := hcut
  obtain ⟨w5, hw5⟩ : ∃ x, x = wc := ⟨_, rfl⟩
  subst hw5
  have SN2 := Lib.hid (SN1.out.fr0 FM.out)
  have BR2 := Lib.hid (BR.out.fr FM.out (by simp))
  have HRC2 := Lib.hid (HRC.out.fr0 FM.out)
  clear r0 r1 r2 r3 r4 HSW HL1 HL2 HL3 HL4 HRD HNU HUS SN1 BR HRC FM
  have en : ((n2 : Int) + 1) = (out.length : Int) + 1 := by rw [HN2.out]
  rw [en] at HRM
  clear en
  have hqo2 := HQ.out.o
  have hqt2 := HQ.out.t
  dsimp only at hqo2 hqt2
  have HVQ : Hid (Em.valid ⟨qk, qt, qc, ql, qh, qb, qo⟩ = true) := Lib.hid HQ.out.valid
  obtain ⟨hadd, _, _⟩ := Em.add_fits HCG.out HOL.out (t := qt) (a := p0) (b := p1) (c := p2 - 10) (by omega) (by omega) (by omega) (by omega)
  have HFO := Lib.hid (Em.fits_snoc HCG.out.fits hadd)
  have HRUN : Hid (Lg.run (out ++ [(⟨(out.length : Int) + 1, [Em.addC qt 500 p0 p1 (p2 - 10)]⟩ : Rec)]) = Sm.apply (Lg.run out) (⟨(out.length : Int) + 1, [Em.addC qt 500 p0 p1 (p2 - 10)]⟩ : Rec)) := Lib.hid (Lg.run_snoc _ _)
  have HPB : Hid ((0 ≤ p0 ∧ p0 ≤ 19) ∧ (0 ≤ p1 ∧ p1 ≤ 13) ∧ (-10 ≤ p2 - 10 ∧ p2 - 10 ≤ 29)) := Lib.hid (by omega)
  clear hadd
  have HA1 := Lib.hid (fun W (hf : Fr [] w5 W) => sat_n A2 n2 c2 out (n2 : Int) n2 W (HRC2.out.fr0 hf) HN2.out (by have := HOL.out; omega) rfl (Nat.le_of_eq HN2.out) HCAP.out HCG.out.fits)
  have e1 : out.take n2 = out := List.take_of_length_le (Nat.le_of_eq HN2.out.symm)
  rw [e1] at HA1
  clear e1
  have HN3 : Hid (n3 = (out ++ [(⟨(out.length : Int) + 1, [Em.addC qt 500 p0 p1 (p2 - 10)]⟩ : Rec)]).length) := Lib.hid (by rw [hn3]; simp)
  have HA2 := Lib.hid (fun W (hf : Fr [] w5 W) => sat_n A3 n3 c3' (out ++ [(⟨(out.length : Int) + 1, [Em.addC qt 500 p0 p1 (p2 - 10)]⟩ : Rec)]) (n3 : Int) n3 W (HRM.out.fr0 hf) HN3.out (by have := HOL.out; rw [List.length_append, List.length_singleton]; omega) rfl (Nat.le_of_eq HN3.out) hnc3 HFO.out)
  have e2 : (out ++ [(⟨(out.length : Int) + 1, [Em.addC qt 500 p0 p1 (p2 - 10)]⟩ : Rec)]).take n3 = out ++ [(⟨(out.length : Int) + 1, [Em.addC qt 500 p0 p1 (p2 - 10)]⟩ : Rec)] := List.take_of_length_le (Nat.le_of_eq HN3.out.symm)
  rw [e2, HRUN.out] at HA2
  have HN340 : Hid (n3 ≤ 41) := Lib.hid (by have := HOL.out; omega)
  clear e2 HFO HRUN hn3 hnc3 HN3
  obtain ⟨s', HSP⟩ : ∃ s', Hid (Sm.apply (Lg.run out) (⟨(out.length : Int) + 1, [Em.addC qt 500 p0 p1 (p2 - 10)]⟩ : Rec) = s') := ⟨_, Lib.hid rfl⟩
  have HSO2 : Hid (Sm.Ok s') := Lib.hid (by rw [← HSP.out]; exact (Lg.run_ok out).applied _)
  have HSD2 : Hid (Sm.Sound s') := Lib.hid (by rw [← HSP.out]; exact (Lg.run_sound out).applied _)
  have HRL := Lib.hid (fun hr hj h1 h2 p hp => Em.row_law HCG.out HOL.out (q := ⟨qk, qt, qc, ql, qh, qb, qo⟩) HVQ.out (a := p0) (b := p1) (c := p2 - 10) (by dsimp only; omega) HPB.out.1 HPB.out.2.1 HPB.out.2.2 hr hj h1 h2 (p := p) hp)
  rw [HSP.out] at HA2
  dsimp only at HRL
  rw [HSP.out] at HRL
  go_upto_region 8 with (first
    | (go_at_call 8; (with_reducible refine (HA1.out _ (Fr.refl _ _)).mono ?_); rintro e ws ⟨b1', m1, rfl, hs1, fs⟩; have HS1 := Lib.hid hs1; have FS := Lib.hid fs; clear hs1 fs)
    | (go_at_call 8; (with_reducible refine (HA2.out _ FS.out).mono ?_); rintro e wt ⟨b2', m2, rfl, hs2, ft⟩; have HS2 := Lib.hid hs2; have FT := Lib.hid ft; clear hs2 ft))
  replace HS1 := Lib.hid (HS1.out.fr0 FT.out)
  have SN3 := Lib.hid (SN2.out.fr0 (FS.out.trans FT.out))
  have BR3 := Lib.hid (BR2.out.fr (FS.out.trans FT.out) (by simp))
  clear FS FT SN2 BR2 HA1 HA2 HRC2 HRM HCAP
  obtain ⟨v, HVV⟩ : ∃ v, Hid (RowV.value ⟨qt, 500, p0, p1, p2 - 10⟩ qc = v) := ⟨_, Lib.hid rfl⟩
  obtain ⟨m, HMM⟩ : ∃ v, Hid (RowV.value ⟨qt, 500, p0, p1, p2 - 10⟩ qb = v) := ⟨_, Lib.hid rfl⟩
  have HMB : Hid (-500 ≤ m ∧ m ≤ 500) := Lib.hid (by
    have hp := HPB.out
    rw [← HMM.out]
    unfold RowV.value
    dsimp only
    repeat' split
    all_goals omega)
  have HC1 := Lib.hid (fun W => value5 qt 500 p0 p1 (p2 - 10) qc W)
  have HC2 := Lib.hid (fun W => value5 qt 500 p0 p1 (p2 - 10) qb W)
  rw [HVV.out] at HC1
  rw [HMM.out] at HC2
  have hr := BR3.out
  have c2 : wt.cell? ⟨gq, 2, none⟩ = some (.int .i64 qc) := SN3.out.q.c2
  go_upto_region 11 with (first
    | (refine wpList_load_row rfl _ _ rfl gr rfl 33 _ (0, 0) _ hr Try.underlying33 rfl (by kernel_rfl) ?_)
    | (go_at_call 9; refine (HC1.out _).mono ?_; rintro e wx ⟨rfl, hwx⟩; have FX : Hid (Fr [] wt wx) := Lib.hid (hwx ▸ (Fr.refl _ _).alloc _); clear hwx))
  clear hr c2 HC1
  have SN4 := Lib.hid (SN3.out.fr0 FX.out)
  have BR4 := Lib.hid (BR3.out.fr FX.out (by simp))
  replace HS1 := Lib.hid (HS1.out.fr0 FX.out)
  replace HS2 := Lib.hid (HS2.out.fr0 FX.out)
  clear FX SN3 BR3
  have c0 : wx.cell? ⟨gq, 0, none⟩ = some (.int .i64 qk) := SN4.out.q.c0
  have c1 : wx.cell? ⟨gq, 1, none⟩ = some (.int .i64 qt) := SN4.out.q.c1
  have c3 : wx.cell? ⟨gq, 3, none⟩ = some (.int .i64 ql) := SN4.out.q.c3
  have c4 : wx.cell? ⟨gq, 4, none⟩ = some (.int .i64 qh) := SN4.out.q.c4
  have c6 : wx.cell? ⟨gq, 6, none⟩ = some (.int .i64 qo) := SN4.out.q.c6
  have HEND := Lib.hid (FW.out.trans SN4.out.fr)
  by_cases d1 : v < ql
  · go_wp2_with fail
    go_ret
    exact ⟨rfl, HEND.out.below⟩
  have d1' : decide (v < ql) = false := decide_eq_false d1
  by_cases d2 : qh < v
  · go_wp2_with fail
    go_ret
    exact ⟨rfl, HEND.out.below⟩
  have d2' : decide (qh < v) = false := decide_eq_false d2
  by_cases d3 : qk = 7 ∧ qo = qt
  · obtain ⟨rfl, rfl⟩ := d3
    go_wp2_with fail
    go_ret
    exact ⟨rfl, HEND.out.below⟩
  have HIR : Hid (inRng qt qc ql qh ⟨qt, 500, p0, p1, p2 - 10⟩ = true) := Lib.hid (by
    unfold inRng
    rw [HVV.out]
    simp
    omega)
  by_cases k7 : qk = 7
  · have e7 : qo ≠ qt := fun e => d3 ⟨k7, e⟩
    have e7' : (qo == qt) = false := by simpa using e7
    have HJ7 : Hid ((7 : Int) = 7 → qo ≠ qt) := Lib.hid (fun _ => e7)
    subst k7
    clear d1 d2 d3 e7
    as_aux_lemma =>
    go_upto_region 13 with (fail)
    clear c0 c1 c3 c4 c6 d1' d2' e7' HEND
    obtain ⟨⟨la, va, fa⟩, HRA⟩ : ∃ r : Res, Hid (Em.of (Lg.run out) ⟨7, qt, qc, ql, qh, qb, qo⟩ = r) := ⟨_, Lib.hid rfl⟩
    obtain ⟨⟨lb, vb, fb⟩, HRB⟩ : ∃ r : Res, Hid (Em.of s' ⟨7, qt, qc, ql, qh, qb, qo⟩ = r) := ⟨_, Lib.hid rfl⟩
    have HBA := Lib.hid (Em.val_bounds (Lg.run_ok out) (Lg.run_sound out) ⟨7, qt, qc, ql, qh, qb, qo⟩ HVQ.out).1
    have HLA := Lib.hid (Em.rows_bound (Lg.run_ok out) ⟨7, qt, qc, ql, qh, qb, qo⟩ HVQ.out)
    have HLB := Lib.hid (Em.rows_bound HSO2.out ⟨7, qt, qc, ql, qh, qb, qo⟩ HVQ.out)
    rw [HRA.out] at HBA HLA HRL
    rw [HRB.out] at HLB HRL
    dsimp only at HBA HLA HLB
    obtain ⟨og, HOG⟩ : ∃ o, Hid (mget s'.M (idOf qo m) = o) := ⟨_, Lib.hid rfl⟩
    have HRO : Hid (Em.RowOk ⟨7, qt, qc, ql, qh, qb, qo⟩ ⟨qt, 500, p0, p1, p2 - 10⟩ og.isSome ⟨la, va, fa⟩ ⟨lb, vb, fb⟩) := Lib.hid (HRL.out HIR.out HJ7.out (okI_mk (by omega) (by omega)) (by rw [HMM.out]; have := HMB.out; exact okI_mk (by omega) (by omega)) _ (by rw [HMM.out, HOG.out]))
    clear HRL HIR HJ7 HVV
    have HOA := Lib.hid (fun W (h : StaAt W b1' m1 (Lg.run out)) => eof_is (q := ⟨7, qt, qc, ql, qh, qb, qo⟩) h (Lg.run_sound out) HVQ.out HRA.out)
    have HOB := Lib.hid (fun W (h : StaAt W b2' m2 s') => eof_is (q := ⟨7, qt, qc, ql, qh, qb, qo⟩) h HSD2.out HVQ.out HRB.out)
    clear HRA HRB
    have c0 : wx.cell? ⟨gq, 0, none⟩ = some (.int .i64 7) := SN4.out.q.c0
    have c1 : wx.cell? ⟨gq, 1, none⟩ = some (.int .i64 qt) := SN4.out.q.c1
    have c2 : wx.cell? ⟨gq, 2, none⟩ = some (.int .i64 qc) := SN4.out.q.c2
    have c3 : wx.cell? ⟨gq, 3, none⟩ = some (.int .i64 ql) := SN4.out.q.c3
    have c4 : wx.cell? ⟨gq, 4, none⟩ = some (.int .i64 qh) := SN4.out.q.c4
    have c5 : wx.cell? ⟨gq, 5, none⟩ = some (.int .i64 qb) := SN4.out.q.c5
    have c6 : wx.cell? ⟨gq, 6, none⟩ = some (.int .i64 qo) := SN4.out.q.c6
    go_upto_region 14 with (go_at_call 10; refine (HOA.out _ HS1.out).mono ?_; rintro e wy ⟨Aa, na, ka, rfl, hn, hl, fx, -⟩; have HNa := Lib.hid hn; have La := Lib.hid hl; have FY := Lib.hid fx; clear hn hl fx)
    clear c0 c1 c2 c3 c4 c5 c6 HOA
    have FZ : Fr [] wx (wy.alloc (.cells #[.slice Aa na ka, .int .i64 va, .bool fa] 46)) := FY.out.alloc _
    have fz : Fr [] wy (wy.alloc (.cells #[.slice Aa na ka, .int .i64 va, .bool fa] 46)) := (Fr.refl _ _).alloc _
    have Ra : Hid (Blk (wy.alloc (.cells #[.slice Aa na ka, .int .i64 va, .bool fa] 46)) wy.heap.size 46 #[.slice Aa na ka, .int .i64 va, .bool fa]) := Lib.hid (Blk.new _ _ _)
    replace La := Lib.hid (La.out.fr0 fz)
    have SN5 := Lib.hid (SN4.out.fr0 FZ)
    have BR5 := Lib.hid (BR4.out.fr FZ (by simp))
    replace HS1 := Lib.hid (HS1.out.fr0 FZ)
    replace HS2 := Lib.hid (HS2.out.fr0 FZ)
    clear FZ fz FY SN4 BR4
    generalize hwz : wy.alloc (.cells #[.slice Aa na ka, .int .i64 va, .bool fa] 46) = wza at *
    clear hwz
    generalize wy.heap.size = ga at *
    have c0 : wza.cell? ⟨gq, 0, none⟩ = some (.int .i64 7) := SN5.out.q.c0
    have c1 : wza.cell? ⟨gq, 1, none⟩ = some (.int .i64 qt) := SN5.out.q.c1
    have c2 : wza.cell? ⟨gq, 2, none⟩ = some (.int .i64 qc) := SN5.out.q.c2
    have c3 : wza.cell? ⟨gq, 3, none⟩ = some (.int .i64 ql) := SN5.out.q.c3
    have c4 : wza.cell? ⟨gq, 4, none⟩ = some (.int .i64 qh) := SN5.out.q.c4
    have c5 : wza.cell? ⟨gq, 5, none⟩ = some (.int .i64 qb) := SN5.out.q.c5
    have c6 : wza.cell? ⟨gq, 6, none⟩ = some (.int .i64 qo) := SN5.out.q.c6
    go_upto_region 15 with (go_at_call 10; refine (HOB.out _ HS2.out).mono ?_; rintro e wy ⟨Ab, nb, kb, rfl, hn, hl, fx, -⟩; have HNb := Lib.hid hn; have Lb := Lib.hid hl; have FY := Lib.hid fx; clear hn hl fx)
    clear c0 c1 c2 c3 c4 c5 c6 HOB
    have FZ : Fr [] wza (wy.alloc (.cells #[.slice Ab nb kb, .int .i64 vb, .bool fb] 46)) := FY.out.alloc _
    have fz : Fr [] wy (wy.alloc (.cells #[.slice Ab nb kb, .int .i64 vb, .bool fb] 46)) := (Fr.refl _ _).alloc _
    have Rb : Hid (Blk (wy.alloc (.cells #[.slice Ab nb kb, .int .i64 vb, .bool fb] 46)) wy.heap.size 46 #[.slice Ab nb kb, .int .i64 vb, .bool fb]) := Lib.hid (Blk.new _ _ _)
    replace Lb := Lib.hid (Lb.out.fr0 fz)
    have SN6 := Lib.hid (SN5.out.fr0 FZ)
    have BR6 := Lib.hid (BR5.out.fr FZ (by simp))
    replace HS1 := Lib.hid (HS1.out.fr0 FZ)
    replace HS2 := Lib.hid (HS2.out.fr0 FZ)
    replace Ra := Lib.hid (Ra.out.fr FZ (by simp))
    replace La := Lib.hid (La.out.fr0 FZ)
    clear FZ fz FY SN5 BR5
    generalize hwz : wy.alloc (.cells #[.slice Ab nb kb, .int .i64 vb, .bool fb] 46) = wzb at *
    clear hwz
    generalize wy.heap.size = gb at *
    have hr := BR6.out
    have c5 : wzb.cell? ⟨gq, 5, none⟩ = some (.int .i64 qb) := SN6.out.q.c5
    go_upto_region 18 with (first
      | (refine wpList_load_row rfl _ _ rfl gr rfl 33 _ (0, 0) _ hr Try.underlying33 rfl (by kernel_rfl) ?_)
      | (go_at_call 9; refine (HC2.out _).mono ?_; rintro e wv ⟨rfl, hwv⟩; have FV : Hid (Fr [] wzb wv) := Lib.hid (hwv ▸ (Fr.refl _ _).alloc _); clear hwv))
    clear hr c5 HC2
    have SN7 := Lib.hid (SN6.out.fr0 FV.out)
    have BR7 := Lib.hid (BR6.out.fr FV.out (by simp))
    replace HS2 := Lib.hid (HS2.out.fr0 FV.out)
    replace Ra := Lib.hid (Ra.out.fr FV.out (by simp))
    replace Rb := Lib.hid (Rb.out.fr FV.out (by simp))
    replace La := Lib.hid (La.out.fr0 FV.out)
    replace Lb := Lib.hid (Lb.out.fr0 FV.out)
    clear FV SN6 BR6 HS1
    have HEND := Lib.hid (FW.out.trans SN7.out.fr)
    have c0 : wv.cell? ⟨gq, 0, none⟩ = some (.int .i64 7) := SN7.out.q.c0
    have a0 : wv.cell? ⟨ga, 0, none⟩ = some (.slice Aa na ka) := Ra.out.cell 0
    have a1 : wv.cell? ⟨ga, 1, none⟩ = some (.int .i64 va) := Ra.out.cell 1
    have a2 : wv.cell? ⟨ga, 2, none⟩ = some (.bool fa) := Ra.out.cell 2
    have b0' : wv.cell? ⟨gb, 0, none⟩ = some (.slice Ab nb kb) := Rb.out.cell 0
    have b1'' : wv.cell? ⟨gb, 1, none⟩ = some (.int .i64 vb) := Rb.out.cell 1
    have b2'' : wv.cell? ⟨gb, 2, none⟩ = some (.bool fb) := Rb.out.cell 2
    have hk17 := HQ.out.k
    dsimp only at hk17
    have HK17 := Lib.hid hk17
    clear hk17
    have hva := HBA.out
    have hmb := HMB.out
    have hjl := HRO.out.join rfl
    dsimp only at hjl
    have hla := HLA.out (.inr (by trivial))
    have hlb := HLB.out (.inr (by trivial))
    rw [← HNa.out] at hjl hla
    rw [← HNb.out] at hjl hlb
    have c6 : wv.cell? ⟨gq, 6, none⟩ = some (.int .i64 qo) := SN7.out.q.c6
    have HGT := Lib.hid (sget_any b2' m2 s' qo m wv HS2.out (okI_mk (by omega) (by omega)) (okI_mk (by omega) (by omega)))
    rw [HOG.out] at HGT
    have hw : IntKind.i64.wrap ((na : Int) + 2) = (na : Int) + 2 := IntWalk.i64_in _ (by omega)
    cases og with
    | none =>
      have hq1 : nb = na := by simpa using hjl
      have hq2 : ((nb : Int) == (na : Int)) = true := by simp [hq1]
      clear hq1 hjl
      go_upto_region 39 with (go_at_call 11; refine HGT.out.mono ?_; rintro e wg ⟨rfl, fg⟩; have FG := Lib.hid (fg.alloc (.cells #[.int .i64 0, .int .i64 0, .int .i64 0, .int .i64 0, .int .i64 0] 33)); clear fg)
      clear a0 b0' c6
      generalize wg.alloc (.cells #[.int .i64 0, .int .i64 0, .int .i64 0, .int .i64 0, .int .i64 0] 33) = wh at *
      have a0 : wh.cell? ⟨ga, 0, none⟩ = some (.slice Aa na ka) := (Ra.out.fr FG.out (by simp)).cell 0
      have b0' : wh.cell? ⟨gb, 0, none⟩ = some (.slice Ab nb kb) := (Rb.out.fr FG.out (by simp)).cell 0
      go_wp2_with fail
      go_ret
      exact ⟨rfl, (HEND.out.trans FG.out).below⟩
    | some x =>
      obtain ⟨xt, xk, xx, xy, xz⟩ := x
      have hq1 : nb = na + 2 := by simpa using hjl
      have hq2 : ((nb : Int) == (na : Int) + 2) = true := by simp [hq1]
      clear hq1 hjl
      go_upto_region 39 with (go_at_call 11; refine HGT.out.mono ?_; rintro e wg ⟨rfl, fg⟩; have FG := Lib.hid (fg.alloc (.cells #[.int .i64 xt, .int .i64 xk, .int .i64 xx, .int .i64 xy, .int .i64 xz] 33)); clear fg)
      clear a0 b0' c6
      generalize wg.alloc (.cells #[.int .i64 xt, .int .i64 xk, .int .i64 xx, .int .i64 xy, .int .i64 xz] 33) = wh at *
      have a0 : wh.cell? ⟨ga, 0, none⟩ = some (.slice Aa na ka) := (Ra.out.fr FG.out (by simp)).cell 0
      have b0' : wh.cell? ⟨gb, 0, none⟩ = some (.slice Ab nb kb) := (Rb.out.fr FG.out (by simp)).cell 0
      go_wp2_with fail
      go_ret
      exact ⟨rfl, (HEND.out.trans FG.out).below⟩
  have k7' : (qk == 7) = false := by simpa using k7
  have HJ7 : Hid (qk = 7 → qo ≠ qt) := Lib.hid (fun h => absurd h k7)
  clear d1 d2 d3
  as_aux_lemma =>
  go_upto_region 13 with (fail)
  clear c0 c1 c3 c4 c6 d1' d2' HEND
  obtain ⟨⟨la, va, fa⟩, HRA⟩ : ∃ r : Res, Hid (Em.of (Lg.run out) ⟨qk, qt, qc, ql, qh, qb, qo⟩ = r) := ⟨_, Lib.hid rfl⟩
  obtain ⟨⟨lb, vb, fb⟩, HRB⟩ : ∃ r : Res, Hid (Em.of s' ⟨qk, qt, qc, ql, qh, qb, qo⟩ = r) := ⟨_, Lib.hid rfl⟩
  have HBA := Lib.hid (Em.val_bounds (Lg.run_ok out) (Lg.run_sound out) ⟨qk, qt, qc, ql, qh, qb, qo⟩ HVQ.out).1
  have HLA := Lib.hid (Em.rows_bound (Lg.run_ok out) ⟨qk, qt, qc, ql, qh, qb, qo⟩ HVQ.out)
  have HLB := Lib.hid (Em.rows_bound HSO2.out ⟨qk, qt, qc, ql, qh, qb, qo⟩ HVQ.out)
  rw [HRA.out] at HBA HLA HRL
  rw [HRB.out] at HLB HRL
  dsimp only at HBA HLA HLB
  obtain ⟨og, HOG⟩ : ∃ o, Hid (mget s'.M (idOf qo m) = o) := ⟨_, Lib.hid rfl⟩
  have HRO : Hid (Em.RowOk ⟨qk, qt, qc, ql, qh, qb, qo⟩ ⟨qt, 500, p0, p1, p2 - 10⟩ og.isSome ⟨la, va, fa⟩ ⟨lb, vb, fb⟩) := Lib.hid (HRL.out HIR.out HJ7.out (okI_mk (by omega) (by omega)) (by rw [HMM.out]; have := HMB.out; exact okI_mk (by omega) (by omega)) _ (by rw [HMM.out, HOG.out]))
  clear HRL HIR HJ7 HVV
  have HOA := Lib.hid (fun W (h : StaAt W b1' m1 (Lg.run out)) => eof_is (q := ⟨qk, qt, qc, ql, qh, qb, qo⟩) h (Lg.run_sound out) HVQ.out HRA.out)
  have HOB := Lib.hid (fun W (h : StaAt W b2' m2 s') => eof_is (q := ⟨qk, qt, qc, ql, qh, qb, qo⟩) h HSD2.out HVQ.out HRB.out)
  clear HRA HRB
  have c0 : wx.cell? ⟨gq, 0, none⟩ = some (.int .i64 qk) := SN4.out.q.c0
  have c1 : wx.cell? ⟨gq, 1, none⟩ = some (.int .i64 qt) := SN4.out.q.c1
  have c2 : wx.cell? ⟨gq, 2, none⟩ = some (.int .i64 qc) := SN4.out.q.c2
  have c3 : wx.cell? ⟨gq, 3, none⟩ = some (.int .i64 ql) := SN4.out.q.c3
  have c4 : wx.cell? ⟨gq, 4, none⟩ = some (.int .i64 qh) := SN4.out.q.c4
  have c5 : wx.cell? ⟨gq, 5, none⟩ = some (.int .i64 qb) := SN4.out.q.c5
  have c6 : wx.cell? ⟨gq, 6, none⟩ = some (.int .i64 qo) := SN4.out.q.c6
  go_upto_region 14 with (go_at_call 10; refine (HOA.out _ HS1.out).mono ?_; rintro e wy ⟨Aa, na, ka, rfl, hn, hl, fx, -⟩; have HNa := Lib.hid hn; have La := Lib.hid hl; have FY := Lib.hid fx; clear hn hl fx)
  clear c0 c1 c2 c3 c4 c5 c6 HOA
  have FZ : Fr [] wx (wy.alloc (.cells #[.slice Aa na ka, .int .i64 va, .bool fa] 46)) := FY.out.alloc _
  have fz : Fr [] wy (wy.alloc (.cells #[.slice Aa na ka, .int .i64 va, .bool fa] 46)) := (Fr.refl _ _).alloc _
  have Ra : Hid (Blk (wy.alloc (.cells #[.slice Aa na ka, .int .i64 va, .bool fa] 46)) wy.heap.size 46 #[.slice Aa na ka, .int .i64 va, .bool fa]) := Lib.hid (Blk.new _ _ _)
  replace La := Lib.hid (La.out.fr0 fz)
  have SN5 := Lib.hid (SN4.out.fr0 FZ)
  have BR5 := Lib.hid (BR4.out.fr FZ (by simp))
  replace HS1 := Lib.hid (HS1.out.fr0 FZ)
  replace HS2 := Lib.hid (HS2.out.fr0 FZ)
  clear FZ fz FY SN4 BR4
  generalize hwz : wy.alloc (.cells #[.slice Aa na ka, .int .i64 va, .bool fa] 46) = wza at *
  clear hwz
  generalize wy.heap.size = ga at *
  have c0 : wza.cell? ⟨gq, 0, none⟩ = some (.int .i64 qk) := SN5.out.q.c0
  have c1 : wza.cell? ⟨gq, 1, none⟩ = some (.int .i64 qt) := SN5.out.q.c1
  have c2 : wza.cell? ⟨gq, 2, none⟩ = some (.int .i64 qc) := SN5.out.q.c2
  have c3 : wza.cell? ⟨gq, 3, none⟩ = some (.int .i64 ql) := SN5.out.q.c3
  have c4 : wza.cell? ⟨gq, 4, none⟩ = some (.int .i64 qh) := SN5.out.q.c4
  have c5 : wza.cell? ⟨gq, 5, none⟩ = some (.int .i64 qb) := SN5.out.q.c5
  have c6 : wza.cell? ⟨gq, 6, none⟩ = some (.int .i64 qo) := SN5.out.q.c6
  go_upto_region 15 with (go_at_call 10; refine (HOB.out _ HS2.out).mono ?_; rintro e wy ⟨Ab, nb, kb, rfl, hn, hl, fx, -⟩; have HNb := Lib.hid hn; have Lb := Lib.hid hl; have FY := Lib.hid fx; clear hn hl fx)
  clear c0 c1 c2 c3 c4 c5 c6 HOB
  have FZ : Fr [] wza (wy.alloc (.cells #[.slice Ab nb kb, .int .i64 vb, .bool fb] 46)) := FY.out.alloc _
  have fz : Fr [] wy (wy.alloc (.cells #[.slice Ab nb kb, .int .i64 vb, .bool fb] 46)) := (Fr.refl _ _).alloc _
  have Rb : Hid (Blk (wy.alloc (.cells #[.slice Ab nb kb, .int .i64 vb, .bool fb] 46)) wy.heap.size 46 #[.slice Ab nb kb, .int .i64 vb, .bool fb]) := Lib.hid (Blk.new _ _ _)
  replace Lb := Lib.hid (Lb.out.fr0 fz)
  have SN6 := Lib.hid (SN5.out.fr0 FZ)
  have BR6 := Lib.hid (BR5.out.fr FZ (by simp))
  replace HS1 := Lib.hid (HS1.out.fr0 FZ)
  replace HS2 := Lib.hid (HS2.out.fr0 FZ)
  replace Ra := Lib.hid (Ra.out.fr FZ (by simp))
  replace La := Lib.hid (La.out.fr0 FZ)
  clear FZ fz FY SN5 BR5
  generalize hwz : wy.alloc (.cells #[.slice Ab nb kb, .int .i64 vb, .bool fb] 46) = wzb at *
  clear hwz
  generalize wy.heap.size = gb at *
  have hr := BR6.out
  have c5 : wzb.cell? ⟨gq, 5, none⟩ = some (.int .i64 qb) := SN6.out.q.c5
  go_upto_region 18 with (first
    | (refine wpList_load_row rfl _ _ rfl gr rfl 33 _ (0, 0) _ hr Try.underlying33 rfl (by kernel_rfl) ?_)
    | (go_at_call 9; refine (HC2.out _).mono ?_; rintro e wv ⟨rfl, hwv⟩; have FV : Hid (Fr [] wzb wv) := Lib.hid (hwv ▸ (Fr.refl _ _).alloc _); clear hwv))
  clear hr c5 HC2
  have SN7 := Lib.hid (SN6.out.fr0 FV.out)
  have BR7 := Lib.hid (BR6.out.fr FV.out (by simp))
  replace HS2 := Lib.hid (HS2.out.fr0 FV.out)
  replace Ra := Lib.hid (Ra.out.fr FV.out (by simp))
  replace Rb := Lib.hid (Rb.out.fr FV.out (by simp))
  replace La := Lib.hid (La.out.fr0 FV.out)
  replace Lb := Lib.hid (Lb.out.fr0 FV.out)
  clear FV SN6 BR6 HS1
  have HEND := Lib.hid (FW.out.trans SN7.out.fr)
  have c0 : wv.cell? ⟨gq, 0, none⟩ = some (.int .i64 qk) := SN7.out.q.c0
  have a0 : wv.cell? ⟨ga, 0, none⟩ = some (.slice Aa na ka) := Ra.out.cell 0
  have a1 : wv.cell? ⟨ga, 1, none⟩ = some (.int .i64 va) := Ra.out.cell 1
  have a2 : wv.cell? ⟨ga, 2, none⟩ = some (.bool fa) := Ra.out.cell 2
  have b0' : wv.cell? ⟨gb, 0, none⟩ = some (.slice Ab nb kb) := Rb.out.cell 0
  have b1'' : wv.cell? ⟨gb, 1, none⟩ = some (.int .i64 vb) := Rb.out.cell 1
  have b2'' : wv.cell? ⟨gb, 2, none⟩ = some (.bool fb) := Rb.out.cell 2
  have hk17 := HQ.out.k
  dsimp only at hk17
  have HK17 := Lib.hid hk17
  clear hk17
  have hva := HBA.out
  have hmb := HMB.out
  by_cases k3 : qk = 3
  · subst k3
    have hcv : vb = va + 1 := HRO.out.count rfl
    have hw : IntKind.i64.wrap (va + 1) = va + 1 := IntWalk.i64_in _ (by omega)
    have hq1 : (vb == va + 1) = true := by simp [hcv]
    clear hcv
    go_wp2_with fail
    go_ret
    exact ⟨rfl, HEND.out.below⟩
  have k3' : (qk == 3) = false := by simpa using k3
  by_cases k4 : qk = 4
  · subst k4
    have hcv : vb = va + m := by have h := HRO.out.sum rfl; dsimp only at h; rw [HMM.out] at h; exact h
    have hw : IntKind.i64.wrap (va + m) = va + m := IntWalk.i64_in _ (by omega)
    have hq1 : (vb == va + m) = true := by simp [hcv]
    clear hcv
    go_wp2_with fail
    go_ret
    exact ⟨rfl, HEND.out.below⟩
  have k4' : (qk == 4) = false := by simpa using k4
  by_cases k5 : qk = 5
  · subst k5
    obtain ⟨h1, h2, h3⟩ := HRO.out.min rfl
    dsimp only at h1 h2 h3
    rw [HMM.out] at h2 h3
    subst h1
    cases fa
    · clear h3
      go_wp2_with fail
      go_ret
      exact ⟨rfl, HEND.out.below⟩
    · have h4 := h3 rfl
      have hq1 : min va m = vb := h4.symm
      clear h3 h4
      go_wp2_with fail
      all_goals first
        | (go_ret; exact ⟨rfl, HEND.out.below⟩)
        | (exfalso; omega)
  have k5' : (qk == 5) = false := by simpa using k5
  by_cases k6 : qk = 6
  · subst k6
    obtain ⟨h1, h2, h3⟩ := HRO.out.max rfl
    dsimp only at h1 h2 h3
    rw [HMM.out] at h2 h3
    subst h1
    cases fa
    · clear h3
      go_wp2_with fail
      go_ret
      exact ⟨rfl, HEND.out.below⟩
    · have h4 := h3 rfl
      have hq1 : max va m = vb := h4.symm
      clear h3 h4
      go_wp2_with fail
      all_goals first
        | (go_ret; exact ⟨rfl, HEND.out.below⟩)
        | (exfalso; omega)
  have k6' : (qk == 6) = false := by simpa using k6
  have hk2 : qk = 1 ∨ qk = 2 := by have := HK17.out; omega
  obtain ⟨A, B, eb, ea, nA, nB⟩ := HRO.out.rows (by dsimp only; omega)
  dsimp only at eb ea
  subst eb ea
  have HLA2 := Lib.hid (HLA.out (.inl (by first | omega | (dsimp only; omega))))
  have HLB2 := Lib.hid (HLB.out (.inl (by first | omega | (dsimp only; omega))))
  have HNAB := Lib.hid (And.intro nA nB)
  clear nA nB HLA HLB hva hmb k3 k4 k5 k6 k7
  have hla : na ≤ 4000 := by rw [HNa.out]; exact HLA2.out
  have hlb : nb ≤ 4000 := by rw [HNb.out]; exact HLB2.out
  have HNN : Hid (nb = na + 1) := Lib.hid (by rw [HNa.out, HNb.out]; simp; omega)
  rcases hk2 with rfl | rfl
  all_goals
    have hq := eql_row
    have hqn := neq_row
    have HQE := Lib.hid hq
    have HQN := Lib.hid hqn
    have hg := eqGuard_row
    clear hq hqn
    go_wp2_with fail
    go_loopw [22, 23] (fun nv iv wr => ∃ i j : Nat, i ≤ nb ∧ j ≤ na ∧ nv = .int .i64 j ∧ iv = .int .i64 i ∧ Hid ((i ≤ A.length ∧ j = i) ∨ (A.length < i ∧ j + 1 = i)) ∧ Hid (Fr [] wv wr)) (fun _ iv _ => nb - (intOf iv).toNat)
    case atStart => exact ⟨0, 0, Nat.zero_le _, Nat.zero_le _, rfl, rfl, Lib.hid (.inl ⟨Nat.zero_le _, rfl⟩), Lib.hid (Fr.refl _ _)⟩
    case round =>
      clear a0 a1 a2 b0' b1'' b2'' c0
      obtain ⟨i, j, hi, hj, rfl, rfl, HIJ, FR⟩ := hrel
      have a0 : wr.cell? ⟨ga, 0, none⟩ = some (.slice Aa na ka) := (Ra.out.fr FR.out (by simp)).cell 0
      have b0' : wr.cell? ⟨gb, 0, none⟩ = some (.slice Ab nb kb) := (Rb.out.fr FR.out (by simp)).cell 0
      by_cases hlt : i < nb
      · have hib : i < (A ++ ⟨qt, 500, p0, p1, p2 - 10⟩ :: B).length := by rw [← HNb.out]; exact hlt
        obtain ⟨bb, ob, hAb, hbl, hcb⟩ := (Lb.out.fr0 FR.out) (by omega)
        subst hAb
        have HB5 := Lib.hid (fun o (ho : o < 5) => hcb i hib o ho)
        have hgb := Blk.lt (Rb.out.fr FR.out (by simp))
        have hgr := Blk.lt (BR7.out.fr FR.out (by simp))
        have BRW := Lib.hid (BR7.out.fr FR.out (by simp))
        have HAG := Lib.hid (Em.add_get hib HNAB.out.1 HNAB.out.2)
        obtain ⟨x, HX⟩ : ∃ x, Hid ((A ++ ⟨qt, 500, p0, p1, p2 - 10⟩ :: B)[i] = x) := ⟨_, Lib.hid rfl⟩
        rw [HX.out] at HB5 HAG
        clear hcb
        obtain ⟨xt, xk, xx, xy, xz⟩ := x
        have y0 : ∀ p : Later wr, p.w.cell? ⟨gb, 0, none⟩ = some (.slice (some ⟨bb, ob, none⟩) nb kb) := fun p => p.cell hgb b0'
        have l1 : ∀ p : Later wr, p.w.cell? ⟨bb, ob + i * 5, none⟩ = some (.int .i64 xt) := fun p => p.cell hbl (HB5.out 0 (by decide))
        have l2 : ∀ p : Later wr, p.w.cell? ⟨bb, ob + i * 5 + 1, none⟩ = some (.int .i64 xk) := fun p => p.cell hbl (HB5.out 1 (by decide))
        have l3 : ∀ p : Later wr, p.w.cell? ⟨bb, ob + i * 5 + 2, none⟩ = some (.int .i64 xx) := fun p => p.cell hbl (HB5.out 2 (by decide))
        have l4 : ∀ p : Later wr, p.w.cell? ⟨bb, ob + i * 5 + 3, none⟩ = some (.int .i64 xy) := fun p => p.cell hbl (HB5.out 3 (by decide))
        have l5 : ∀ p : Later wr, p.w.cell? ⟨bb, ob + i * 5 + 4, none⟩ = some (.int .i64 xz) := fun p => p.cell hbl (HB5.out 4 (by decide))
        have r1 : ∀ p : Later wr, p.w.cell? ⟨gr, 0, none⟩ = some (.int .i64 qt) := fun p => p.cell hgr (BRW.out.cell 0)
        have r2 : ∀ p : Later wr, p.w.cell? ⟨gr, 1, none⟩ = some (.int .i64 500) := fun p => p.cell hgr (BRW.out.cell 1)
        have r3 : ∀ p : Later wr, p.w.cell? ⟨gr, 2, none⟩ = some (.int .i64 p0) := fun p => p.cell hgr (BRW.out.cell 2)
        have r4 : ∀ p : Later wr, p.w.cell? ⟨gr, 3, none⟩ = some (.int .i64 p1) := fun p => p.cell hgr (BRW.out.cell 3)
        have r5 : ∀ p : Later wr, p.w.cell? ⟨gr, 4, none⟩ = some (.int .i64 (p2 - 10)) := fun p => p.cell hgr (BRW.out.cell 4)
        by_cases hr : (⟨xt, xk, xx, xy, xz⟩ : RowV) = ⟨qt, 500, p0, p1, p2 - 10⟩
        · have HIA : Hid (i = A.length) := Lib.hid (by
            rcases HAG.out with ⟨h, -⟩ | ⟨-, h, -⟩ | ⟨-, h, -⟩
            · exact h
            · exact absurd hr h
            · exact absurd hr h)
          have q1 := HQE.out ⟨xt, xk, xx, xy, xz⟩ ⟨qt, 500, p0, p1, p2 - 10⟩
          rw [decide_eq_true hr] at q1
          unfold RowV.val at q1
          dsimp only at q1
          have HJN : Hid (A.length < i + 1 ∧ j + 1 = i + 1) := Lib.hid (by have h1 := HIA.out; have h2 := HIJ.out; omega)
          clear hr HAG HX hgb hgr hib
          go_wp2_with fail
          refine wp_region_later (by kernel_rfl) (by kernel_rfl) ?_
          repeat (go_big_quiet_step (fail))
          refine wpQuiet_nil ?_
          rintro w' ⟨⟨wq, fq⟩, rfl⟩
          have FR2 := Lib.hid (FR.out.trans fq)
          clear fq y0 l1 l2 l3 l4 l5 r1 r2 r3 r4 r5 q1
          go_wp2_with fail
          go_roundw
          case rel => exact ⟨i + 1, j, by omega, hj, rfl, by go_num, Lib.hid (.inr HJN.out), FR2⟩
          case measure => simp [intOf]; omega
        · have HJL : Hid (∃ h2 : j < (A ++ B).length, (A ++ B)[j] = ⟨xt, xk, xx, xy, xz⟩) := Lib.hid (by
            rcases HAG.out with ⟨-, h⟩ | ⟨h, -, h2, h3⟩ | ⟨h, -, h2, h3⟩
            · exact absurd h hr
            · have e : j = i := by have := HIJ.out; omega
              subst e
              exact ⟨h2, h3⟩
            · have e : j = i - 1 := by have := HIJ.out; omega
              subst e
              exact ⟨h2, h3⟩)
          have hja : j < na := by rw [HNa.out]; exact HJL.out.1
          obtain ⟨ba, oa, hAa, hal, hca⟩ := (La.out.fr0 FR.out) (by have := HJL.out.1; omega)
          subst hAa
          have HA5 := Lib.hid (fun o (ho : o < 5) => hca j HJL.out.1 o ho)
          rw [HJL.out.2] at HA5
          clear hca
          have hga := Blk.lt (Ra.out.fr FR.out (by simp))
          have q1 := HQE.out ⟨xt, xk, xx, xy, xz⟩ ⟨qt, 500, p0, p1, p2 - 10⟩
          rw [decide_eq_false hr] at q1
          unfold RowV.val at q1
          dsimp only at q1
          have HIA : Hid ((i + 1 ≤ A.length ∧ j + 1 = i + 1) ∨ (A.length < i + 1 ∧ j + 1 + 1 = i + 1)) := Lib.hid (by
            rcases HAG.out with ⟨-, h⟩ | ⟨h, -⟩ | ⟨h, -⟩
            · exact absurd h hr
            · have := HIJ.out; omega
            · have := HIJ.out; omega)
          clear hr HAG HX hgb hgr hib HJL
          have HGA := Lib.hid hga
          have HAL := Lib.hid hal
          have HBLT := Lib.hid hbl
          have HY0 := Lib.hid y0
          have HLL := Lib.hid (And.intro l1 (And.intro l2 (And.intro l3 (And.intro l4 l5))))
          clear hga
          go_wp2_with fail
          refine wp_region_later (by kernel_rfl) (by kernel_rfl) ?_
          repeat (go_big_quiet_step (fail))
          refine wpQuiet_nil ?_
          rintro w' ⟨⟨wq, fq⟩, rfl⟩
          have FQ := Lib.hid fq
          clear fq y0 l1 l2 l3 l4 l5 r1 r2 r3 r4 r5 q1
          have y0 : ∀ p : Later w', p.w.cell? ⟨gb, 0, none⟩ = some (.slice (some ⟨bb, ob, none⟩) nb kb) := fun p => HY0.out ⟨p.w, FQ.out.trans p.fr⟩
          have z0 : ∀ p : Later w', p.w.cell? ⟨ga, 0, none⟩ = some (.slice (some ⟨ba, oa, none⟩) na ka) := fun p => ((FQ.out.trans p.fr).rules.1 ga _ HGA.out).trans a0
          have l1 : ∀ p : Later w', p.w.cell? ⟨bb, ob + i * 5, none⟩ = some (.int .i64 xt) := fun p => HLL.out.1 ⟨p.w, FQ.out.trans p.fr⟩
          have l2 : ∀ p : Later w', p.w.cell? ⟨bb, ob + i * 5 + 1, none⟩ = some (.int .i64 xk) := fun p => HLL.out.2.1 ⟨p.w, FQ.out.trans p.fr⟩
          have l3 : ∀ p : Later w', p.w.cell? ⟨bb, ob + i * 5 + 2, none⟩ = some (.int .i64 xx) := fun p => HLL.out.2.2.1 ⟨p.w, FQ.out.trans p.fr⟩
          have l4 : ∀ p : Later w', p.w.cell? ⟨bb, ob + i * 5 + 3, none⟩ = some (.int .i64 xy) := fun p => HLL.out.2.2.2.1 ⟨p.w, FQ.out.trans p.fr⟩
          have l5 : ∀ p : Later w', p.w.cell? ⟨bb, ob + i * 5 + 4, none⟩ = some (.int .i64 xz) := fun p => HLL.out.2.2.2.2 ⟨p.w, FQ.out.trans p.fr⟩
          have s1 : ∀ p : Later w', p.w.cell? ⟨ba, oa + j * 5, none⟩ = some (.int .i64 xt) := fun p => ((FQ.out.trans p.fr).rules.1 ba _ HAL.out).trans (HA5.out 0 (by decide))
          have s2 : ∀ p : Later w', p.w.cell? ⟨ba, oa + j * 5 + 1, none⟩ = some (.int .i64 xk) := fun p => ((FQ.out.trans p.fr).rules.1 ba _ HAL.out).trans (HA5.out 1 (by decide))
          have s3 : ∀ p : Later w', p.w.cell? ⟨ba, oa + j * 5 + 2, none⟩ = some (.int .i64 xx) := fun p => ((FQ.out.trans p.fr).rules.1 ba _ HAL.out).trans (HA5.out 2 (by decide))
          have s4 : ∀ p : Later w', p.w.cell? ⟨ba, oa + j * 5 + 3, none⟩ = some (.int .i64 xy) := fun p => ((FQ.out.trans p.fr).rules.1 ba _ HAL.out).trans (HA5.out 3 (by decide))
          have s5 : ∀ p : Later w', p.w.cell? ⟨ba, oa + j * 5 + 4, none⟩ = some (.int .i64 xz) := fun p => ((FQ.out.trans p.fr).rules.1 ba _ HAL.out).trans (HA5.out 4 (by decide))
          have q2 := HQN.out ⟨xt, xk, xx, xy, xz⟩ ⟨xt, xk, xx, xy, xz⟩
          rw [decide_eq_true rfl] at q2
          unfold RowV.val at q2
          dsimp only at q2
          have ege : decide ((na : Int) ≤ j) = false := decide_eq_false (by omega)
          have ege2 : decide (na ≤ j) = false := decide_eq_false (by omega)
          clear a0 b0' hbl hal
          go_wp2_with fail
          refine wp_region_later (by kernel_rfl) (by kernel_rfl) ?_
          repeat (go_big_quiet_step (fail))
          refine wpQuiet_nil ?_
          rintro w' ⟨⟨wu, fu⟩, rfl⟩
          have FR2 := Lib.hid (FR.out.trans (FQ.out.trans fu))
          clear fu y0 z0 l1 l2 l3 l4 l5 s1 s2 s3 s4 s5 q2
          go_wp2_with fail
          go_roundw
          case rel => exact ⟨i + 1, j + 1, by omega, by omega, by go_num, by go_num, HIA, FR2⟩
          case measure => simp [intOf]; omega
      · obtain rfl : i = nb := by omega
        have hfin : j = na := by have h1 := HIJ.out; have h2 := HNN.out; have h3 := HNb.out; have h4 := HNa.out; simp at h3 h4; omega
        subst hfin
        have hw : IntKind.i64.wrap ((j : Int) + 1) = (j : Int) + 1 := IntWalk.i64_in _ (by omega)
        have hq1 : ((i : Int) == (j : Int) + 1) = true := by have := HNN.out; simp; omega
        go_wp2_with fail
        go_ret
        exact ⟨rfl, (HEND.out.trans FR.out).below⟩
end Go.Proofs.Ythiaaminkfkjpaa
