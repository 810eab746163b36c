/-
  Clone of a state.
-/
import Derived.Test.YtciaallekkdnhaaGreatJt
import Derived.Test.YtciaallekkdnhaaGreatJe
import Derived.Test.YtciaallekkdnhaaGreatLay2
namespace Go.Proofs.YtciaallekkdnhaaGreat
open Go.RowKit

theorem pairs_len : ∀ L : List RowV, (Pm.pairs L).length = L.length / 2
  | [] => rfl
  | [_] => by simp [Pm.pairs]
  | _ :: _ :: l => by
    rw [Pm.pairs, List.length_cons, pairs_len l, List.length_cons, List.length_cons]
    omega
theorem pairs_get : ∀ (L : List RowV) (j : Nat) (h : 2 * j + 1 < L.length), (Pm.pairs L)[j]? = some (L[2 * j], L[2 * j + 1])
  | [], j, h => by simp at h
  | [_], j, h => by simp at h
  | x :: y :: l, 0, _ => rfl
  | x :: y :: l, j + 1, h => by
    rw [Pm.pairs, List.getElem?_cons_succ, pairs_get l j (by simp only [List.length_cons] at h; omega)]
    rfl
theorem flat_len2 (l : List (RowV × RowV)) : (Pm.flat l).length = 2 * l.length := by
  unfold Pm.flat
  induction l with
  | nil => rfl
  | cons p l ih => rw [List.flatMap_cons, List.length_append, ih]; simp; omega
theorem flat_snoc (l : List (RowV × RowV)) (p : RowV × RowV) : Pm.flat (l ++ [p]) = Pm.flat l ++ [p.1, p.2] := by simp [Pm.flat]
/-- A row that has been made since w. -/
structure MkRel (X : Type) (e size : Nat) (enc : X → List Value) (w wr : World) (v : Value) (R : List X) : Prop where
  row : OwnL e size enc wr v R
  fr : Fr [] w wr
  own : ∀ g, v.ownBlock = some g → w.heap.size ≤ g
theorem MkRel.grow {X : Type} {e size : Nat} {enc : X → List Value} {w wr W w5 : World} {v v5 : Value} {R R2 : List X} (h : MkRel X e size enc w wr v R) (hf : Fr [] wr W) (hr : OwnL e size enc w5 v5 R2) (hg : W.grownBy w5 v.ownBlock) (ha : v5.ownBlock = v.ownBlock ∨ v5.ownBlock = some W.heap.size) : MkRel X e size enc w w5 v5 R2 :=
  ⟨hr, (h.fr.trans hf).grown hg (fun g hg => .inr (h.own g hg)), fun g hg => by
    rcases ha with h1 | h1
    · exact h.own g (h1 ▸ hg)
    · rw [h1] at hg
      injection hg with hg
      have := h.fr.size
      have := hf.size
      omega⟩
/-- What a loop over pairs keeps, which appends rows to a result's field. -/
structure FlRel (w wr : World) (rb rz : Nat) (m : Int) (f : Bool) (A2 : Option Addr) (n2 c2 : Nat) (L2 : List PairV) (A5 : Option Addr) (n5 c5 : Nat) (R : List RowV) : Prop where
  row : OwnL 116 5 RowV.cells wr (.slice A5 n5 c5) R
  prs : OwnL 187 10 PairV.cells wr (.slice A2 n2 c2) L2
  res : Blk wr rb 71 #[.slice A5 n5 c5, .int .i64 m, .bool f]
  zer : Blk wr rz 71 #[.slice none 0 0, .int .i64 0, .bool false]
  fr : Fr [] w wr
  own : ∀ g, (Value.slice A5 n5 c5).ownBlock = some g → w.heap.size ≤ g
theorem FlRel.step {w wr W w5 : World} {rb rz : Nat} {m : Int} {f : Bool} {A2 : Option Addr} {n2 c2 : Nat} {L2 : List PairV} {A5 : Option Addr} {n5 c5 : Nat} {A6 : Option Addr} {n6 c6 : Nat} {R R2 : List RowV} (h : FlRel w wr rb rz m f A2 n2 c2 L2 A5 n5 c5 R) (hrb : w.heap.size ≤ rb) (hne : rz ≠ rb) (hf : Fr [] wr W)
    (hr : OwnL 116 5 RowV.cells w5 (.slice A6 n6 c6) R2) (hg : W.grownBy w5 (Value.slice A5 n5 c5).ownBlock) (ha : (Value.slice A6 n6 c6).ownBlock = (Value.slice A5 n5 c5).ownBlock ∨ (Value.slice A6 n6 c6).ownBlock = some W.heap.size) :
    Blk w5 rb 71 #[.slice A5 n5 c5, .int .i64 m, .bool f] ∧ FlRel w (w5.setCell ⟨rb, 0, none⟩ (.slice A6 n6 c6)) rb rz m f A2 n2 c2 L2 A6 n6 c6 R2 := by
  have hrowW := h.row.fr hf (by simp)
  have hprsW := h.prs.fr hf (by simp)
  have hresW := h.res.fr hf (by simp)
  have hzerW := h.zer.fr hf (by simp)
  have hno : ∀ {b tt : Nat} {cs : Array Value}, Blk W b tt cs → 116 ≠ tt → some b ≠ (Value.slice A5 n5 c5).ownBlock := fun {b tt cs} hb hne e => hrowW.ne hb hne e.symm rfl
  have hres5 := hresW.grown hg (hno hresW (by decide))
  have hzer5 := hzerW.grown hg (hno hzerW (by decide))
  have hprs5 : OwnL 187 10 PairV.cells w5 (.slice A2 n2 c2) L2 := hprsW.of_block (fun g hgg => hg.block g (hprsW.lt hgg) (fun e => by
    obtain ⟨-, h0 | ⟨g', cur, hA, hb, -⟩⟩ := hprsW.blk
    · rw [h0.1] at hgg; cases hgg
    · rw [hA] at hgg
      injection hgg with hgg
      subst hgg
      exact hno hb (by decide) e))
  have hfs : Fr [rb] w5 (w5.setCell ⟨rb, 0, none⟩ (.slice A6 n6 c6)) := (Fr.refl _ _).setCell (.inl (by simp)) _
  refine ⟨hres5, ⟨hr.fr hfs (fun g hgg => ?_), hprs5.fr hfs (fun g hgg => ?_), hres5.set_ 0 _, hzer5.fr hfs (by simpa using hne), ((h.fr.trans hf).grown hg (fun g hg => .inr (h.own g hg))).trans' hfs (fun i hi => .inr (by rw [List.mem_singleton] at hi; omega)), fun g hgg => ?_⟩⟩
  · have := hr.ne hres5 (by decide) hgg
    simpa using this
  · have := hprs5.ne hres5 (by decide) hgg
    simpa using this
  · rcases ha with h1 | h1
    · exact h.own g (h1 ▸ hgg)
    · rw [h1] at hgg
      injection hgg with hgg
      have := h.fr.size
      have := hf.size
      omega
/-- What a patch of a result leaves: rows where it is known. -/
def JP (w w' : World) (J : Option (List RowV)) (A : Option Addr) (n : Nat) (k : Bool) (b : Nat) : Prop :=
  (k = true → ∃ L', J = some L' ∧ AtL RowV.cells 5 w' A L' ∧ n = L'.length ∧ n ≤ b) ∧ (k = false → J = none) ∧ Fr [] w w'
set_option maxRecDepth 100000 in
set_option maxHeartbeats 8000000 in
theorem pjoinP_any (q : Qry) (c : Chg) (pb pa : Option Addr) (u v : Int) (hu : u = Pm.old q c) (hv : v = Pm.now q c) (X : Option Addr) (n cap : Nat) (m : Int) (f : Bool) (L : List RowV) (w : World) (hx : AtL RowV.cells 5 w X L) (hn : n = L.length) (hl : n ≤ 50000) (hpb : PtrR w pb (Pm.B q c)) (hpa : PtrR w pa (Pm.A q c)) :
    Calls Tryz.prog 87 #[.agg (effArr q c pb pa u v), .agg #[.slice X n cap, .int .i64 m, .bool f]] w fun e w' => ∃ A' n' c' k, e = .returned (.tuple #[.agg #[.slice A' n' c', .int .i64 m, .bool f], .bool k]) ∧ JP w w' (if q.table = q.other then none else (Pm.join q (Pm.pairs L) c).map Pm.flat) A' n' k (n + 2) := by
  have F0 : Hid (Fr [] w (((w.alloc (.cells (effArr q c pb pa u v) 103)).alloc (.cells #[.slice X n cap, .int .i64 m, .bool f] 71)).alloc (.cells #[.slice none 0 0, .int .i64 0, .bool false] 71))) := Lib.hid ((((Fr.refl _ _).alloc _).alloc _).alloc _)
  have HB : Hid (EffAt (((w.alloc (.cells (effArr q c pb pa u v) 103)).alloc (.cells #[.slice X n cap, .int .i64 m, .bool f] 71)).alloc (.cells #[.slice none 0 0, .int .i64 0, .bool false] 71)) w.heap.size q c pb pa u v) := Lib.hid (Blk.alloc (Blk.alloc (EffAt.new w q c pb pa u v) _) _)
  have hr := Blk.new (w.alloc (.cells (effArr q c pb pa u v) 103)) 71 #[.slice X n cap, .int .i64 m, .bool f]
  rw [World.size_alloc] at hr
  have HR : Hid (Blk (((w.alloc (.cells (effArr q c pb pa u v) 103)).alloc (.cells #[.slice X n cap, .int .i64 m, .bool f] 71)).alloc (.cells #[.slice none 0 0, .int .i64 0, .bool false] 71)) (w.heap.size + 1) 71 #[.slice X n cap, .int .i64 m, .bool f]) := Lib.hid (hr.alloc _)
  have hz := Blk.new ((w.alloc (.cells (effArr q c pb pa u v) 103)).alloc (.cells #[.slice X n cap, .int .i64 m, .bool f] 71)) 71 #[.slice none 0 0, .int .i64 0, .bool false]
  rw [World.size_alloc, World.size_alloc] at hz
  have HZ := Lib.hid hz
  have HS3 : Hid ((((w.alloc (.cells (effArr q c pb pa u v) 103)).alloc (.cells #[.slice X n cap, .int .i64 m, .bool f] 71)).alloc (.cells #[.slice none 0 0, .int .i64 0, .bool false] 71)).heap.size = w.heap.size + 3) := Lib.hid (by simp [World.size_alloc])
  have HX := Lib.hid (hx.fr0 F0.out)
  have HPA := Lib.hid (hpa.fr0 F0.out)
  have HPB := Lib.hid (hpb.fr0 F0.out)
  have HN := Lib.hid hn
  have HU := Lib.hid hu
  have HV := Lib.hid hv
  clear hr hz hx hpa hpb hn hu hv
  obtain ⟨JJ, HJJ⟩ : ∃ l, Hid ((if q.table = q.other then none else (Pm.join q (Pm.pairs L) c).map Pm.flat) = l) := ⟨_, Lib.hid rfl⟩
  rw [HJJ.out]
  go_enter Tryz.func87, Tryz.ntmps87
  go_upto_region 1 with (fail)
  generalize (((w.alloc (.cells (effArr q c pb pa u v) 103)).alloc (.cells #[.slice X n cap, .int .i64 m, .bool f] 71)).alloc (.cells #[.slice none 0 0, .int .i64 0, .bool false] 71)) = w1 at *
  have e1 := HB.out.c1
  have e6 := HB.out.c6
  by_cases hto : q.table = q.other
  · have g1 : (q.table == q.other) = true := by simp [hto]
    have HTO := Lib.hid hto
    clear hto
    go_upto_region 2 with (fail)
    have HRF := HR.out
    have HZF := HZ.out
    go_wp2_with (first
      | (refine wpList_load_row rfl _ _ rfl (w.heap.size + 1) rfl 71 _ (0, 0) _ HRF Tryz.underlying71 rfl (by kernel_rfl) ?_)
      | (refine wpList_store_blk rfl _ _ _ rfl (w.heap.size + 1 + 1) #[.slice X n cap, .int .i64 m, .bool f] rfl rfl 71 _ HZF (by kernel_rfl) rfl rfl ?_; intro w9 hb9 hf9; have HB9 := Lib.hid hb9; have HF9 := Lib.hid hf9; clear hb9 hf9))
    have q0 := HB9.out.cell 0
    have q1 := HB9.out.cell 1
    have q2 := HB9.out.cell 2
    refine bodyPost_ret (v := .tuple #[.agg #[.slice X n cap, .int .i64 m, .bool f], .bool false]) (by simp [results, Tryz.results87, go_sem, q0, q1, q2]) rfl ⟨_, _, _, _, rfl, fun h => (by cases h), fun _ => (by rw [← HJJ.out, if_pos HTO.out]), F0.out.trans' HF9.out (fun i hi => .inr (by rw [List.mem_singleton] at hi; omega))⟩
  · have g1 : (q.table == q.other) = false := by simp [hto]
    have HTO := Lib.hid hto
    clear hto
    have HJ2 : Hid (JJ = (Pm.join q (Pm.pairs L) c).map Pm.flat) := Lib.hid (by rw [← HJJ.out, if_neg HTO.out])
    go_upto_region 3 with (fail)
    clear e1 e6
    have hpl := pairs_len L
    obtain ⟨i0, TR⟩ := etPairP
    go_wp2_with fail
    go_loopw [6, 7] (fun i6 i7 wr => ∃ (j N : Nat) (Ao : Option Addr) (no co : Nat), i6 = .slice Ao no co ∧ i7 = .int .i64 N ∧ Hid (N = 2 * j) ∧ N ≤ n + 1 ∧ Hid (j ≤ (Pm.pairs L).length) ∧ Hid (MkRel PairV 187 10 PairV.cells w1 wr (.slice Ao no co) ((Pm.pairs L).take j))) (fun i6 i7 _ => n + 2 - (intOf i7).toNat)
    case atStart => exact ⟨0, 0, none, 0, 0, rfl, rfl, Lib.hid rfl, Nat.zero_le _, Lib.hid (Nat.zero_le _), Lib.hid ⟨OwnL.nil, Fr.refl _ _, fun g hg => by simp [Value.ownBlock] at hg⟩⟩
    case round =>
      obtain ⟨j, N, Ao, no, co, rfl, rfl, HNJ, hN, HJ, R⟩ := hrel
      have c0 : wr.cell? ⟨w.heap.size + 1, 0, none⟩ = some (.slice X n cap) := (HR.out.fr R.out.fr (by simp)).cell 0
      have hn1 : IntKind.i64.wrap ((N : Int) + 1) = (N : Int) + 1 := by rw [IntKind.wrap_i64]; omega
      have ht1 : ((N : Int) + 1).toNat = N + 1 := by omega
      by_cases hlt : N + 1 < n
      · have hlt' : (N : Int) + 1 < (n : Int) := by omega
        have hq0 : (0 : Int) ≤ (N : Int) := by omega
        have hq1 : (N : Int) < (n : Int) := by omega
        have hq2 : (0 : Int) ≤ (N : Int) + 1 := by omega
        have hj2 : 2 * j + 1 < L.length := by have := HNJ.out; have := HN.out; omega
        obtain ⟨b, off, rfl, hb, hc⟩ := (HX.out.fr0 R.out.fr) (by omega)
        have ha := hc (2 * j) (by omega)
        have hd := hc (2 * j + 1) hj2
        have hpg := pairs_get L j hj2
        have HTK : Hid ((Pm.pairs L).take (j + 1) = (Pm.pairs L).take j ++ [(L[2 * j], L[2 * j + 1])]) := Lib.hid (by
          have hjl : j < (Pm.pairs L).length := (List.getElem?_eq_some_iff.1 hpg).1
          rw [List.take_succ_eq_append_getElem hjl, (List.getElem?_eq_some_iff.1 hpg).2])
        have HJ1 : Hid (j + 1 ≤ (Pm.pairs L).length) := Lib.hid (List.getElem?_eq_some_iff.1 hpg).1
        have HJB : Hid (((Pm.pairs L).take j).length + 1 ≤ 50000) := Lib.hid (by rw [List.length_take]; have := HJ1.out; have := HN.out; omega)
        have HBA := Lib.hid ha
        have HBD := Lib.hid hd
        have HLT : Hid (w.heap.size + 1 < wr.heap.size ∧ b < wr.heap.size) := Lib.hid ⟨by have := HS3.out; have := R.out.fr.size; omega, hb⟩
        clear hb hc hpg ha hd hlt
        generalize L[2 * j] = x at *
        generalize L[2 * j + 1] = y at *
        clear hj2
        rw [← HNJ.out] at HBA HBD
        obtain ⟨x0, x1, x2, x3, x4⟩ := x
        obtain ⟨y0, y1, y2, y3, y4⟩ := y
        have a0 : wr.cell? ⟨b, off + N * 5, none⟩ = some (.int .i64 x0) := HBA.out 0 (by decide)
        have a1 : wr.cell? ⟨b, off + N * 5 + 1, none⟩ = some (.int .i64 x1) := HBA.out 1 (by decide)
        have a2 : wr.cell? ⟨b, off + N * 5 + 2, none⟩ = some (.int .i64 x2) := HBA.out 2 (by decide)
        have a3 : wr.cell? ⟨b, off + N * 5 + 3, none⟩ = some (.int .i64 x3) := HBA.out 3 (by decide)
        have a4 : wr.cell? ⟨b, off + N * 5 + 4, none⟩ = some (.int .i64 x4) := HBA.out 4 (by decide)
        have d0 : wr.cell? ⟨b, off + (N + 1) * 5, none⟩ = some (.int .i64 y0) := HBD.out 0 (by decide)
        have d1 : wr.cell? ⟨b, off + (N + 1) * 5 + 1, none⟩ = some (.int .i64 y1) := HBD.out 1 (by decide)
        have d2 : wr.cell? ⟨b, off + (N + 1) * 5 + 2, none⟩ = some (.int .i64 y2) := HBD.out 2 (by decide)
        have d3 : wr.cell? ⟨b, off + (N + 1) * 5 + 3, none⟩ = some (.int .i64 y3) := HBD.out 3 (by decide)
        have d4 : wr.cell? ⟨b, off + (N + 1) * 5 + 4, none⟩ = some (.int .i64 y4) := HBD.out 4 (by decide)
        have HOA : Hid (OwnL 187 10 PairV.cells (wr.drew.alloc (.cells #[.int .i64 x0, .int .i64 x1, .int .i64 x2, .int .i64 x3, .int .i64 x4, .int .i64 y0, .int .i64 y1, .int .i64 y2, .int .i64 y3, .int .i64 y4] 187)) (.slice Ao no co) ((Pm.pairs L).take j)) := Lib.hid (R.out.row.fr ((Fr.refl [] wr).drew.alloc _) (by simp))
        have HRD : Hid (Reads (wr.drew.alloc (.cells #[.int .i64 x0, .int .i64 x1, .int .i64 x2, .int .i64 x3, .int .i64 x4, .int .i64 y0, .int .i64 y1, .int .i64 y2, .int .i64 y3, .int .i64 y4] 187)) (wr.drew.heap.size + 1) 10 (some ⟨wr.drew.heap.size, 0, none⟩) 1 ([((⟨x0, x1, x2, x3, x4⟩, ⟨y0, y1, y2, y3, y4⟩) : PairV)].flatMap PairV.cells)) := Lib.hid (reads_new (enc := PairV.cells) wr.drew 187 (⟨x0, x1, x2, x3, x4⟩, ⟨y0, y1, y2, y3, y4⟩) rfl)
        go_upto_region 7 with (fail)
        have HSW : Hid (∀ W, Fr [] wr W → W.cell? ⟨w.heap.size + 1, 0, none⟩ = some (.slice (some ⟨b, off, none⟩) n cap) ∧ W.cell? ⟨b, off + N * 5, none⟩ = some (.int .i64 x0) ∧ W.cell? ⟨b, off + N * 5 + 1, none⟩ = some (.int .i64 x1) ∧ W.cell? ⟨b, off + N * 5 + 2, none⟩ = some (.int .i64 x2) ∧ W.cell? ⟨b, off + N * 5 + 3, none⟩ = some (.int .i64 x3) ∧ W.cell? ⟨b, off + N * 5 + 4, none⟩ = some (.int .i64 x4) ∧ W.cell? ⟨b, off + (N + 1) * 5, none⟩ = some (.int .i64 y0) ∧ W.cell? ⟨b, off + (N + 1) * 5 + 1, none⟩ = some (.int .i64 y1) ∧ W.cell? ⟨b, off + (N + 1) * 5 + 2, none⟩ = some (.int .i64 y2) ∧ W.cell? ⟨b, off + (N + 1) * 5 + 3, none⟩ = some (.int .i64 y3) ∧ W.cell? ⟨b, off + (N + 1) * 5 + 4, none⟩ = some (.int .i64 y4)) := Lib.hid (fun W hf => ⟨(hf.rules.1 _ _ HLT.out.1).trans c0, (hf.rules.1 _ _ HLT.out.2).trans a0, (hf.rules.1 _ _ HLT.out.2).trans a1, (hf.rules.1 _ _ HLT.out.2).trans a2, (hf.rules.1 _ _ HLT.out.2).trans a3, (hf.rules.1 _ _ HLT.out.2).trans a4, (hf.rules.1 _ _ HLT.out.2).trans d0, (hf.rules.1 _ _ HLT.out.2).trans d1, (hf.rules.1 _ _ HLT.out.2).trans d2, (hf.rules.1 _ _ HLT.out.2).trans d3, (hf.rules.1 _ _ HLT.out.2).trans d4⟩)
        refine wp_region_head (fun W => W.cell? ⟨w.heap.size + 1, 0, none⟩ = some (.slice (some ⟨b, off, none⟩) n cap) ∧ W.cell? ⟨b, off + N * 5, none⟩ = some (.int .i64 x0) ∧ W.cell? ⟨b, off + N * 5 + 1, none⟩ = some (.int .i64 x1) ∧ W.cell? ⟨b, off + N * 5 + 2, none⟩ = some (.int .i64 x2) ∧ W.cell? ⟨b, off + N * 5 + 3, none⟩ = some (.int .i64 x3) ∧ W.cell? ⟨b, off + N * 5 + 4, none⟩ = some (.int .i64 x4) ∧ W.cell? ⟨b, off + (N + 1) * 5, none⟩ = some (.int .i64 y0) ∧ W.cell? ⟨b, off + (N + 1) * 5 + 1, none⟩ = some (.int .i64 y1) ∧ W.cell? ⟨b, off + (N + 1) * 5 + 2, none⟩ = some (.int .i64 y2) ∧ W.cell? ⟨b, off + (N + 1) * 5 + 3, none⟩ = some (.int .i64 y3) ∧ W.cell? ⟨b, off + (N + 1) * 5 + 4, none⟩ = some (.int .i64 y4)) 14 (by kernel_rfl) (by kernel_rfl) (HSW.out _ (Fr.refl [] wr).drew) (fun hHeld => ?_)
        refine wpHead_take (i := 0) (oi := ⟨some 27, _, _, _, _, _⟩) (v := ?_) rfl (by kernel_rfl) (fun _ _ _ h => h) (Or.inl ⟨by rfl, ?_⟩) hHeld ?_
        rotate_left
        · (intro w hSw; (try dsimp only at hSw); go_simp; try with_reducible rfl)
        try simp only [Act.put, List.setIfInBounds_toArray, List.set_cons_zero, List.set_cons_succ]
        refine wpHead_take (i := 1) (oi := ⟨some 28, _, _, _, _, _⟩) (v := ?_) rfl (by kernel_rfl) (fun _ _ _ h => h) (Or.inl ⟨by rfl, ?_⟩) hHeld ?_
        rotate_left
        · (intro w hSw; (try dsimp only at hSw); go_simp; try with_reducible rfl)
        try simp only [Act.put, List.setIfInBounds_toArray, List.set_cons_zero, List.set_cons_succ]
        refine wpHead_take (i := 2) (oi := ⟨some 29, _, _, _, _, _⟩) (v := ?_) rfl (by kernel_rfl) (fun _ _ _ h => h) (Or.inl ⟨by rfl, ?_⟩) hHeld ?_
        rotate_left
        · (intro w hSw; (try dsimp only at hSw); go_simp; try with_reducible rfl)
        try simp only [Act.put, List.setIfInBounds_toArray, List.set_cons_zero, List.set_cons_succ]
        refine wpHead_take (i := 3) (oi := ⟨some 30, _, _, _, _, _⟩) (v := ?_) rfl (by kernel_rfl) (fun _ _ _ h => h) (Or.inl ⟨by rfl, ?_⟩) hHeld ?_
        rotate_left
        · (intro w hSw; (try dsimp only at hSw); go_simp; try with_reducible rfl)
        try simp only [Act.put, List.setIfInBounds_toArray, List.set_cons_zero, List.set_cons_succ]
        refine wpHead_take (i := 4) (oi := ⟨some 31, _, _, _, _, _⟩) (v := ?_) rfl (by kernel_rfl) (fun _ _ _ h => h) (Or.inl ⟨by rfl, ?_⟩) hHeld ?_
        rotate_left
        · (intro w hSw; (try dsimp only at hSw); go_simp; try with_reducible rfl)
        try simp only [Act.put, List.setIfInBounds_toArray, List.set_cons_zero, List.set_cons_succ]
        refine wpHead_take (i := 5) (oi := ⟨some 32, _, _, _, _, _⟩) (v := ?_) rfl (by kernel_rfl) (fun _ _ _ h => h) (Or.inl ⟨by rfl, ?_⟩) hHeld ?_
        rotate_left
        · (intro w hSw; (try dsimp only at hSw); go_simp; try with_reducible rfl)
        try simp only [Act.put, List.setIfInBounds_toArray, List.set_cons_zero, List.set_cons_succ]
        refine wpHead_take (i := 6) (oi := ⟨some 33, _, _, _, _, _⟩) (v := ?_) rfl (by kernel_rfl) (fun _ _ _ h => h) (Or.inl ⟨by rfl, ?_⟩) hHeld ?_
        rotate_left
        · (intro w hSw; (try dsimp only at hSw); go_simp; try with_reducible rfl)
        try simp only [Act.put, List.setIfInBounds_toArray, List.set_cons_zero, List.set_cons_succ]
        refine wpHead_take (i := 7) (oi := ⟨some 34, _, _, _, _, _⟩) (v := ?_) rfl (by kernel_rfl) (fun _ _ _ h => h) (Or.inl ⟨by rfl, ?_⟩) hHeld ?_
        rotate_left
        · (intro w hSw; (try dsimp only at hSw); go_simp; try with_reducible rfl)
        try simp only [Act.put, List.setIfInBounds_toArray, List.set_cons_zero, List.set_cons_succ]
        refine wpHead_take (i := 8) (oi := ⟨some 35, _, _, _, _, _⟩) (v := ?_) rfl (by kernel_rfl) (fun _ _ _ h => h) (Or.inl ⟨by rfl, ?_⟩) hHeld ?_
        rotate_left
        · (intro w hSw; (try dsimp only at hSw); go_simp; try with_reducible rfl)
        try simp only [Act.put, List.setIfInBounds_toArray, List.set_cons_zero, List.set_cons_succ]
        refine wpHead_take (i := 9) (oi := ⟨some 36, _, _, _, _, _⟩) (v := ?_) rfl (by kernel_rfl) (fun _ _ _ h => h) (Or.inl ⟨by rfl, ?_⟩) hHeld ?_
        rotate_left
        · (intro w hSw; (try dsimp only at hSw); go_simp; try with_reducible rfl)
        try simp only [Act.put, List.setIfInBounds_toArray, List.set_cons_zero, List.set_cons_succ]
        refine wpHead_take (i := 10) (oi := ⟨some 37, _, _, _, _, _⟩) (v := ?_) rfl (by kernel_rfl) (fun _ _ _ h => h) (Or.inl ⟨by rfl, ?_⟩) hHeld ?_
        rotate_left
        · (intro w hSw; (try dsimp only at hSw); go_simp; try with_reducible rfl)
        try simp only [Act.put, List.setIfInBounds_toArray, List.set_cons_zero, List.set_cons_succ]
        refine wpHead_take (i := 11) (oi := ⟨some 38, _, _, _, _, _⟩) (v := ?_) rfl (by kernel_rfl) (fun _ _ _ h => h) (Or.inl ⟨by rfl, ?_⟩) hHeld ?_
        rotate_left
        · (intro w hSw; (try dsimp only at hSw); go_simp; try with_reducible rfl)
        try simp only [Act.put, List.setIfInBounds_toArray, List.set_cons_zero, List.set_cons_succ]
        refine wpHead_take (i := 12) (oi := ⟨some 39, _, _, _, _, _⟩) (v := ?_) rfl (by kernel_rfl) (fun _ _ _ h => h) (Or.inl ⟨by rfl, ?_⟩) hHeld ?_
        rotate_left
        · (intro w hSw; (try dsimp only at hSw); go_simp; try with_reducible rfl)
        try simp only [Act.put, List.setIfInBounds_toArray, List.set_cons_zero, List.set_cons_succ]
        refine wpHead_one (i := 13) (o := ⟨some 40, _, _, _, _, _⟩) rfl (by kernel_rfl) (by decide) (fun K hK => ?_)
        go_simp
        skip
        refine hK.out _ _ ?_ (fun hHeld => ?_)
        · exact HSW.out _ ((Fr.refl [] wr).drew.alloc _)
        clear hK K
        try simp only [Act.put, List.setIfInBounds_toArray, List.set_cons_zero, List.set_cons_succ]
        refine wpHead_done (by kernel_rfl) ?_
        simp only [List.drop_succ_cons, List.drop_zero]
        
        clear a0 a1 a2 a3 a4 d0 d1 d2 d3 d4 c0
        go_wp2_with (at_builtin; refine wpList_appendL rfl _ _ rfl TR PairV.cells_len PairV.cells_one rfl HOA.out _ _ _ _ [((⟨x0, x1, x2, x3, x4⟩, ⟨y0, y1, y2, y3, y4⟩) : PairV)] rfl rfl HRD.out (Nat.le_trans HJB.out (by decide)) (Nat.le_trans (Nat.mul_le_mul_right 80 HJB.out) (by decide)) ?_; intro v5 w5 hrow5 hg5 hat5; have HR5 := Lib.hid hrow5; have HG5 := Lib.hid hg5; have HA5 := Lib.hid hat5; obtain ⟨A5, n5, cap5, hv5⟩ : ∃ A n c, v5 = .slice A n c := (match hrow5.val with | ⟨_, _, hv⟩ => ⟨_, _, _, hv⟩); subst hv5; clear hrow5 hg5 hat5)
        have R2 : Hid (MkRel PairV 187 10 PairV.cells w1 w5 (.slice A5 n5 cap5) ((Pm.pairs L).take (j + 1))) := Lib.hid (R.out.grow ((Fr.refl [] wr).drew.alloc _) (by rw [HTK.out]; exact HR5.out) HG5.out HA5.out)
        go_roundw
        case rel => exact ⟨j + 1, N + 2, A5, n5, cap5, rfl, by go_num, Lib.hid (by have := HNJ.out; omega), by omega, HJ1, R2⟩
        case measure => simp [intOf]; omega
      · have hlt' : ¬ (N : Int) + 1 < (n : Int) := by omega
        have HR1 : Hid (MkRel PairV 187 10 PairV.cells w1 wr (.slice Ao no co) (Pm.pairs L)) := Lib.hid (by
          have h := R.out
          rwa [List.take_of_length_le (by have := HNJ.out; have := HN.out; omega)] at h)
        have HNO : Hid (no ≤ 100000) := Lib.hid (by have h := HR1.out.row.blk.1; rw [h, hpl]; have := HN.out; omega)
        have HB1 := Lib.hid (HB.out.fr0 HR1.out.fr)
        have HJC := Lib.hid (pjoin_any q c pb pa u v HU.out HV.out Ao no co (Pm.pairs L) wr HR1.out.row HNO.out (HPB.out.fr0 HR1.out.fr) (HPA.out.fr0 HR1.out.fr))
        have HE1 := HB1.out
        clear R HJ
        go_upto_region 9 with (first
          | (refine wpList_load_row rfl _ _ rfl w.heap.size rfl 103 _ (0, 0) _ HE1 Tryz.underlying103 rfl (by kernel_rfl) ?_)
          | (go_at_call 126; refine HJC.out.mono ?_; rintro e w4 ⟨A2, n2, c2, L2, k2, rfl, ho2, hj2, hl2, f2⟩; have HO2 := Lib.hid ho2; have HJ3 := Lib.hid hj2; have HL2 := Lib.hid hl2; have F2 := Lib.hid f2; clear ho2 hj2 hl2 f2))
        clear HE1 c0 hlt hlt' hn1 ht1
        have HNB : Hid (w.heap.size + 1 ∉ sliceB Ao ∧ w.heap.size + 1 + 1 ∉ sliceB Ao) := Lib.hid ⟨fun hm => by
            obtain ⟨ad, h1, h2⟩ := mem_sliceB.1 hm
            have := HR1.out.own _ (sliceB_own HR1.out.row h1)
            have := HS3.out
            omega, fun hm => by
            obtain ⟨ad, h1, h2⟩ := mem_sliceB.1 hm
            have := HR1.out.own _ (sliceB_own HR1.out.row h1)
            have := HS3.out
            omega⟩
        have hr4 := (HR.out.fr HR1.out.fr (by simp)).fr F2.out HNB.out.1
        have hz4 := (HZ.out.fr HR1.out.fr (by simp)).fr F2.out HNB.out.2
        have F14 : Fr [] w w4 := (F0.out.trans HR1.out.fr).trans' F2.out (fun i hi => by obtain ⟨ad, h1, h2⟩ := mem_sliceB.1 hi; have := HR1.out.own _ (sliceB_own HR1.out.row h1); have := HS3.out; exact .inr (by omega))
        have hfs : Fr [w.heap.size + 1] w4 (w4.setCell ⟨w.heap.size + 1, 0, none⟩ (.slice none 0 0)) := (Fr.refl _ _).setCell (.inl (by simp)) _
        have FL : Hid (FlRel w (w4.setCell ⟨w.heap.size + 1, 0, none⟩ (.slice none 0 0)) (w.heap.size + 1) (w.heap.size + 1 + 1) m f A2 n2 c2 L2 none 0 0 (Pm.flat (L2.take 0))) := Lib.hid ⟨OwnL.nil, HO2.out.fr hfs (fun g hg => by have := HO2.out.ne hr4 (by decide) hg; simpa using this), hr4.set_ 0 _, hz4.fr hfs (by simp), F14.trans' hfs (by simp), fun g hg => by simp [Value.ownBlock] at hg⟩
        have z0 := hr4.frozen 0
        have d0 : w4.cell? ⟨w.heap.size + 1, 0, none⟩ = some (.slice X n cap) := hr4.cell 0
        clear hr4 hz4 F14 hfs
        go_upto_region 10 with (fail)
        clear z0 d0
        generalize w4.setCell ⟨w.heap.size + 1, 0, none⟩ (.slice none 0 0) = w6 at *
        have HNN : Hid (n2 = L2.length) := Lib.hid HO2.out.blk.1
        have HB2 : Hid (2 * L2.length ≤ n + 2) := Lib.hid (by have := HL2.out; rw [hpl] at this; have := HN.out; omega)
        have hn2 : n2 ≤ 50000 := by have := HNN.out; have := HB2.out; omega
        obtain ⟨i1, TW⟩ := etRowP
        obtain ⟨wo, hwo⟩ : ∃ x, x = wr := ⟨_, rfl⟩
        subst hwo
        clear HJC HB1 HPA HPB
        go_wp2_with fail
        go_loopw [10, 51] (fun i10 i51 wr => ∃ (k : Nat) (A5 : Option Addr) (n5 c5 : Nat), i51 = .int .i64 k ∧ k ≤ n2 ∧ Hid (FlRel w wr (w.heap.size + 1) (w.heap.size + 1 + 1) m f A2 n2 c2 L2 A5 n5 c5 (Pm.flat (L2.take k)))) (fun i10 i51 _ => n2 - (intOf i51).toNat)
        case atStart => exact ⟨0, none, 0, 0, rfl, Nat.zero_le _, FL⟩
        case round =>
          clear FL
          obtain ⟨k, A5, n5, c5, rfl, hk, R⟩ := hrel
          by_cases hkn : k < n2
          · have hkl : k < L2.length := by have := HNN.out; omega
            have hpos : 0 < L2.length := by omega
            obtain ⟨g2, cap2, hv2, -, -, hlt2, hcell, -⟩ := R.out.prs.form PairV.cells_len hpos
            injection hv2 with e1 e2 e3
            subst e1
            have hck := Lib.hid (fun j (hj : j < 10) => hcell k hkl j hj)
            have HTK : Hid (Pm.flat (L2.take (k + 1)) = Pm.flat (L2.take k) ++ [L2[k].1, L2[k].2]) := Lib.hid (by rw [List.take_succ_eq_append_getElem hkl, flat_snoc])
            have HJB : Hid ((Pm.flat (L2.take k)).length + 2 ≤ 100010) := Lib.hid (by rw [flat_len2, List.length_take]; have := HB2.out; omega)
            clear hcell e2 e3 hpos hlt2
            generalize L2[k] = p at *
            clear hkl
            obtain ⟨⟨x0, x1, x2, x3, x4⟩, ⟨y0, y1, y2, y3, y4⟩⟩ := p
            have a0 : wr.cell? ⟨g2, k * 10, none⟩ = some (.int .i64 x0) := hck.out 0 (by decide)
            have a1 : wr.cell? ⟨g2, k * 10 + 1, none⟩ = some (.int .i64 x1) := hck.out 1 (by decide)
            have a2 : wr.cell? ⟨g2, k * 10 + 2, none⟩ = some (.int .i64 x2) := hck.out 2 (by decide)
            have a3 : wr.cell? ⟨g2, k * 10 + 3, none⟩ = some (.int .i64 x3) := hck.out 3 (by decide)
            have a4 : wr.cell? ⟨g2, k * 10 + 4, none⟩ = some (.int .i64 x4) := hck.out 4 (by decide)
            have a5 : wr.cell? ⟨g2, k * 10 + 5, none⟩ = some (.int .i64 y0) := hck.out 5 (by decide)
            have a6 : wr.cell? ⟨g2, k * 10 + 6, none⟩ = some (.int .i64 y1) := hck.out 6 (by decide)
            have a7 : wr.cell? ⟨g2, k * 10 + 7, none⟩ = some (.int .i64 y2) := hck.out 7 (by decide)
            have a8 : wr.cell? ⟨g2, k * 10 + 8, none⟩ = some (.int .i64 y3) := hck.out 8 (by decide)
            have a9 : wr.cell? ⟨g2, k * 10 + 9, none⟩ = some (.int .i64 y4) := hck.out 9 (by decide)
            have HBP : Hid (Blk (wr.alloc (.cells #[.int .i64 x0, .int .i64 x1, .int .i64 x2, .int .i64 x3, .int .i64 x4, .int .i64 y0, .int .i64 y1, .int .i64 y2, .int .i64 y3, .int .i64 y4] 187)) wr.heap.size 187 #[.int .i64 x0, .int .i64 x1, .int .i64 x2, .int .i64 x3, .int .i64 x4, .int .i64 y0, .int .i64 y1, .int .i64 y2, .int .i64 y3, .int .i64 y4]) := Lib.hid (Blk.new _ _ _)
            have FP : Hid (Fr [] wr (wr.alloc (.cells #[.int .i64 x0, .int .i64 x1, .int .i64 x2, .int .i64 x3, .int .i64 x4, .int .i64 y0, .int .i64 y1, .int .i64 y2, .int .i64 y3, .int .i64 y4] 187))) := Lib.hid ((Fr.refl _ _).alloc _)
            go_upto_region 13 with (fail)
            clear a0 a1 a2 a3 a4 a5 a6 a7 a8 a9 hck
            generalize wr.alloc (.cells #[.int .i64 x0, .int .i64 x1, .int .i64 x2, .int .i64 x3, .int .i64 x4, .int .i64 y0, .int .i64 y1, .int .i64 y2, .int .i64 y3, .int .i64 y4] 187) = wp at *
            have c0 : wp.cell? ⟨w.heap.size + 1, 0, none⟩ = some (.slice A5 n5 c5) := (R.out.res.fr FP.out (by simp)).cell 0
            have b0 : wp.cell? ⟨wr.heap.size, 0, none⟩ = some (.int .i64 x0) := HBP.out.cell 0
            have b1 : wp.cell? ⟨wr.heap.size, 1, none⟩ = some (.int .i64 x1) := HBP.out.cell 1
            have b2 : wp.cell? ⟨wr.heap.size, 2, none⟩ = some (.int .i64 x2) := HBP.out.cell 2
            have b3 : wp.cell? ⟨wr.heap.size, 3, none⟩ = some (.int .i64 x3) := HBP.out.cell 3
            have b4 : wp.cell? ⟨wr.heap.size, 4, none⟩ = some (.int .i64 x4) := HBP.out.cell 4
            have b5 : wp.cell? ⟨wr.heap.size, 5, none⟩ = some (.int .i64 y0) := HBP.out.cell 5
            have b6 : wp.cell? ⟨wr.heap.size, 6, none⟩ = some (.int .i64 y1) := HBP.out.cell 6
            have b7 : wp.cell? ⟨wr.heap.size, 7, none⟩ = some (.int .i64 y2) := HBP.out.cell 7
            have b8 : wp.cell? ⟨wr.heap.size, 8, none⟩ = some (.int .i64 y3) := HBP.out.cell 8
            have b9 : wp.cell? ⟨wr.heap.size, 9, none⟩ = some (.int .i64 y4) := HBP.out.cell 9
            have FQ : Hid (Fr [] wr (wp.alloc (.cells #[.int .i64 x0, .int .i64 x1, .int .i64 x2, .int .i64 x3, .int .i64 x4, .int .i64 y0, .int .i64 y1, .int .i64 y2, .int .i64 y3, .int .i64 y4] 116))) := Lib.hid (FP.out.alloc _)
            have HOA := Lib.hid (R.out.row.fr FQ.out (by simp))
            have HRD : Hid (Reads (wp.alloc (.cells #[.int .i64 x0, .int .i64 x1, .int .i64 x2, .int .i64 x3, .int .i64 x4, .int .i64 y0, .int .i64 y1, .int .i64 y2, .int .i64 y3, .int .i64 y4] 116)) (wp.alloc (.cells #[.int .i64 x0, .int .i64 x1, .int .i64 x2, .int .i64 x3, .int .i64 x4, .int .i64 y0, .int .i64 y1, .int .i64 y2, .int .i64 y3, .int .i64 y4] 116)).heap.size 5 (some ⟨wp.heap.size, 0, none⟩) 2 (([⟨x0, x1, x2, x3, x4⟩, ⟨y0, y1, y2, y3, y4⟩] : List RowV).flatMap RowV.cells)) := Lib.hid (reads_of_at RowV.cells_len (by decide) (AtL.of_blk (L := [⟨x0, x1, x2, x3, x4⟩, ⟨y0, y1, y2, y3, y4⟩]) RowV.cells_len (Blk.new wp 116 #[.int .i64 x0, .int .i64 x1, .int .i64 x2, .int .i64 x3, .int .i64 x4, .int .i64 y0, .int .i64 y1, .int .i64 y2, .int .i64 y3, .int .i64 y4]) (by simp [RowV.cells])))
            go_wp2_with (at_builtin; refine wpList_appendL rfl _ _ rfl TW RowV.cells_len RowV.cells_one rfl HOA.out _ _ _ _ ([⟨x0, x1, x2, x3, x4⟩, ⟨y0, y1, y2, y3, y4⟩] : List RowV) rfl rfl HRD.out (Nat.le_trans HJB.out (by decide)) (Nat.le_trans (Nat.mul_le_mul_right 40 HJB.out) (by decide)) ?_; intro v5 w5 hrow5 hg5 hat5; obtain ⟨A6, n6, c6, hv5⟩ : ∃ A n c, v5 = .slice A n c := (match hrow5.val with | ⟨_, _, hv⟩ => ⟨_, _, _, hv⟩); subst hv5; have HST := Lib.hid (R.out.step (A6 := A6) (n6 := n6) (c6 := c6) (w5 := w5) (R2 := Pm.flat (L2.take (k + 1))) (by omega) (by omega) FQ.out (by rw [HTK.out]; exact hrow5) hg5 hat5); have z0 := HST.out.1.frozen 0; have d0 : w5.cell? ⟨w.heap.size + 1, 0, none⟩ = some (.slice A5 n5 c5) := HST.out.1.cell 0; clear hrow5 hg5 hat5)
            go_roundw
            case rel => exact ⟨k + 1, A6, n6, c6, by go_num, by omega, Lib.hid HST.out.2⟩
            case measure => simp [intOf]; omega
          · obtain rfl : k = n2 := by omega
            have HLR : Hid (FlRel w wr (w.heap.size + 1) (w.heap.size + 1 + 1) m f A2 k c2 L2 A5 n5 c5 (Pm.flat L2)) := Lib.hid (by
              have h := R.out
              rwa [List.take_of_length_le (by have := HNN.out; omega)] at h)
            have HRR := Lib.hid HLR.out.res
            have HZZ := Lib.hid HLR.out.zer
            go_upto_region 15 with (fail)
            have HRF := HRR.out
            have HZF := HZZ.out
            go_wp2_with (first
              | (refine wpList_load_row rfl _ _ rfl (w.heap.size + 1) rfl 71 _ (0, 0) _ HRF Tryz.underlying71 rfl (by kernel_rfl) ?_)
              | (refine wpList_store_blk rfl _ _ _ rfl (w.heap.size + 1 + 1) #[.slice A5 n5 c5, .int .i64 m, .bool f] rfl rfl 71 _ HZF (by kernel_rfl) rfl rfl ?_; intro w9 hb9 hf9; have HB9 := Lib.hid hb9; have HF9 := Lib.hid hf9; clear hb9 hf9))
            have q0 := HB9.out.cell 0
            have q1 := HB9.out.cell 1
            have q2 := HB9.out.cell 2
            refine bodyPost_ret (v := .tuple #[.agg #[.slice A5 n5 c5, .int .i64 m, .bool f], .bool k2]) (by simp [results, Tryz.results87, go_sem, q0, q1, q2]) rfl ⟨_, _, _, _, rfl, fun h => ?_, fun h => ?_, HLR.out.fr.trans' HF9.out (fun i hi => .inr (by rw [List.mem_singleton] at hi; omega))⟩
            · have ho9 := HLR.out.row.fr HF9.out (fun g hg => by have := HLR.out.row.ne HLR.out.zer (by decide) hg; simpa using this)
              refine ⟨Pm.flat L2, by rw [HJ2.out, HJ3.out, if_pos h]; rfl, (ho9.at1 RowV.cells_len).1, (ho9.at1 RowV.cells_len).2, ?_⟩
              rw [(ho9.at1 RowV.cells_len).2, flat_len2]
              exact HB2.out
            · rw [HJ2.out, HJ3.out, if_neg (by rw [h]; simp)]
              rfl
end Go.Proofs.YtciaallekkdnhaaGreat
namespace Go.Proofs.YtciaallekkdnhaaGreat
open Go.RowKit

namespace Pm
theorem value_bound {r : RowV} (h : Rw.row r.t r.k r.x r.y r.z = true) (c : Int) : -1000000000 ≤ r.value c ∧ r.value c ≤ 1000000000 := by
  obtain ⟨t, k, x, y, z⟩ := r
  simp only [Rw.row, Rw.inI, Bool.and_eq_true, decide_eq_true_eq] at h
  unfold RowV.value
  dsimp only
  repeat' split
  all_goals omega
theorem me_bound {q : Qry} {o : Option RowV} (h : ∀ r, o = some r → Rw.row r.t r.k r.x r.y r.z = true) : -1000000000 ≤ me q (sc q o) ∧ me q (sc q o) ≤ 1000000000 := by
  cases o with
  | none => simp [me, sc]
  | some r =>
    unfold sc
    rw [Option.filter]
    split
    · exact value_bound (h r rfl) _
    · simp [me]
theorem old_bound (q : Qry) {c : Chg} (hc : Rw.chg c = true) : -1000000000 ≤ old q c ∧ old q c ≤ 1000000000 := by
  refine me_bound (fun r hr => ?_)
  unfold bef at hr
  split at hr <;> rename_i hh
  · injection hr with hr
    subst hr
    simp only [Rw.chg, Rw.sound, Bool.and_eq_true, hh, if_true] at hc
    exact hc.1.2
  · cases hr
theorem now_bound (q : Qry) {c : Chg} (hc : Rw.chg c = true) : -1000000000 ≤ now q c ∧ now q c ≤ 1000000000 := by
  refine me_bound (fun r hr => ?_)
  unfold aft at hr
  split at hr <;> rename_i hh
  · injection hr with hr
    subst hr
    simp only [Rw.chg, Rw.sound, Bool.and_eq_true, hh, if_true] at hc
    exact hc.2
  · cases hr
theorem ins_len {X : Type} (p : X → Bool) (x : X) (l : List X) : (ins p x l).length = l.length + 1 := by
  induction l with
  | nil => rfl
  | cons z l ih =>
    rw [ins]
    split <;> simp [ih]
theorem rows_len (q : Qry) (l : List RowV) (c : Chg) : (rows q l c).length ≤ l.length + 1 := by
  unfold rows
  have h := List.length_filter_le (fun x => !own c x) l
  split
  · rw [ins_len]; omega
  · omega
theorem ext_extE (q : Qry) (r : Res) (c : Chg) : ext q r c = (if (extE (better q.kind) (B q c).isSome (A q c).isSome r.found r.value (old q c) (now q c)).2.2 = true then some ⟨r.rows, (extE (better q.kind) (B q c).isSome (A q c).isSome r.found r.value (old q c) (now q c)).1, (extE (better q.kind) (B q c).isSome (A q c).isSome r.found r.value (old q c) (now q c)).2.1⟩ else none) := by
  unfold ext extE
  split
  · rfl
  · split
    · rfl
    · rfl
end Pm
/-- What the patch of a result leaves. -/
def PK (w w' : World) (J : Option Res) (A : Option Addr) (n : Nat) (m : Int) (f k : Bool) (b : Nat) : Prop :=
  (k = true → ∃ L', J = some ⟨L', m, f⟩ ∧ AtL RowV.cells 5 w' A L' ∧ n = L'.length ∧ n ≤ b) ∧ (k = false → J = none) ∧ Fr [] w w'
abbrev PFun (n : Nat) (cb : Array Value) (q : Qry) (W : World) : Prop :=
  ∀ (c : Chg) (pb pa : Option Addr) (u v : Int) (X : Option Addr) (nx cap : Nat) (m : Int) (f : Bool) (L : List RowV), u = Pm.old q c → v = Pm.now q c → AtL RowV.cells 5 W X L → nx = L.length → nx ≤ 50000 → -4000000000000000000 ≤ m → m ≤ 4000000000000000000 → PtrR W pb (Pm.B q c) → PtrR W pa (Pm.A q c) → Rw.chg c = true →
    Calls Tryz.prog n (#[.agg (effArr q c pb pa u v), .agg #[.slice X nx cap, .int .i64 m, .bool f]] ++ cb) W fun e w' => ∃ A' n' c' m' f' k, e = .returned (.tuple #[.agg #[.slice A' n' c', .int .i64 m', .bool f'], .bool k]) ∧ PK W w' (Pm.pk q ⟨L, m, f⟩ c) A' n' m' f' k (nx + 2)
theorem pk_rows {q : Qry} (hk : q.kind = 1 ∨ q.kind = 2) (W : World) : PFun 76 #[] q W := by
  intro c pb pa u v X nx cap m f L hu hv hx hn hl h1 h2 hpb hpa hc
  refine (prows_any q c pb pa u v X nx cap m f L W hx hn (by omega) hpa).mono ?_
  rintro e w' ⟨A', n', c', rfl, ho, hf⟩
  have hat := ho.at1 RowV.cells_len
  refine ⟨A', n', c', m, f, true, rfl, fun _ => ⟨Pm.rows q L c, ?_, hat.1, hat.2, ?_⟩, fun h => (by cases h), hf⟩
  · unfold Pm.pk
    rw [if_neg (by omega), if_neg (by omega), if_neg (by omega), if_neg (by omega)]
  · rw [hat.2, hn]
    exact Nat.le_succ_of_le (Pm.rows_len q L c)
theorem pk_count {q : Qry} (hk : q.kind = 3) (W : World) : PFun 78 #[] q W := by
  intro c pb pa u v X nx cap m f L hu hv hx hn hl h1 h2 hpb hpa hc
  refine (pcount_any q c pb pa u v X nx cap m f W).mono ?_
  rintro e w' ⟨rfl, hf⟩
  refine ⟨X, nx, cap, _, f, true, rfl, fun _ => ⟨L, ?_, hx.fr0 hf, hn, by omega⟩, fun h => (by cases h), hf⟩
  unfold Pm.pk
  rw [if_pos hk, hpa.isSome]
  dsimp only
  congr 2
  split
  · exact (IntWalk.wrap64_in _ ⟨by omega, by omega⟩).symm
  · exact (IntWalk.wrap64_in _ ⟨by omega, by omega⟩).symm
theorem pk_sum {q : Qry} (hk : q.kind = 4) (W : World) : PFun 80 #[] q W := by
  intro c pb pa u v X nx cap m f L hu hv hx hn hl h1 h2 hpb hpa hc
  refine (psum_any q c pb pa u v X nx cap m f W).mono ?_
  rintro e w' ⟨rfl, hf⟩
  refine ⟨X, nx, cap, _, f, true, rfl, fun _ => ⟨L, ?_, hx.fr0 hf, hn, by omega⟩, fun h => (by cases h), hf⟩
  unfold Pm.pk
  have b1 := Pm.old_bound q hc
  have b2 := Pm.now_bound q hc
  rw [if_neg (by omega), if_pos hk, ← hu, ← hv]
  rw [← hu] at b1
  rw [← hv] at b2
  rw [IntWalk.wrap64_in (v - u) ⟨by omega, by omega⟩, IntWalk.wrap64_in _ ⟨by omega, by omega⟩]
theorem pk_ext {q : Qry} (hk : q.kind = 5 ∨ q.kind = 6) (W : World) (lf gb : Nat) (eg : ∀ args w, (callFunc lf args).run Tryz.prog w = .ok (.enter lf args) w) (hbt : ∀ a b w, Calls Tryz.prog lf #[.int .i64 a, .int .i64 b] w fun e w' => e = .returned (.bool (Pm.better q.kind a b)) ∧ w = w') (hg : Blk W gb 156 #[fnV lf]) : PFun 125 #[.pointer (some ⟨gb, 0, none⟩)] q W := by
  intro c pb pa u v X nx cap m f L hu hv hx hn hl h1 h2 hpb hpa hc
  refine (pext_any lf gb (Pm.better q.kind) q c pb pa u v X nx cap m f W eg hbt hg).mono ?_
  rintro e w' ⟨rfl, hf⟩
  have hj : Pm.pk q ⟨L, m, f⟩ c = Pm.ext q ⟨L, m, f⟩ c := by
    unfold Pm.pk
    rw [if_neg (by omega), if_neg (by omega), if_pos hk]
  have hext := Pm.ext_extE q ⟨L, m, f⟩ c
  rw [← hpb.isSome, ← hpa.isSome, ← hu, ← hv] at hext
  refine ⟨X, nx, cap, _, _, _, rfl, fun h => ⟨L, ?_, hx.fr0 hf, hn, by omega⟩, fun h => ?_, hf⟩
  · rw [hj, hext, if_pos h]
  · rw [hj, hext, if_neg (by rw [h]; simp)]
theorem pk_join {q : Qry} (hk : q.kind = 7) (W : World) : PFun 87 #[] q W := by
  intro c pb pa u v X nx cap m f L hu hv hx hn hl h1 h2 hpb hpa hc
  refine (pjoinP_any q c pb pa u v hu hv X nx cap m f L W hx hn hl hpb hpa).mono ?_
  rintro e w' ⟨A', n', c', k, rfl, g1, g2, hf⟩
  have hj : Pm.pk q ⟨L, m, f⟩ c = (if q.table = q.other then none else (Pm.join q (Pm.pairs L) c).map Pm.flat).map (fun l => ⟨l, m, f⟩) := by
    unfold Pm.pk
    rw [if_neg (by omega), if_neg (by omega), if_neg (by omega), if_pos hk]
    split
    · rfl
    · cases Pm.join q (Pm.pairs L) c <;> rfl
  refine ⟨A', n', c', m, f, k, rfl, fun h => ?_, fun h => ?_, hf⟩
  · obtain ⟨L', e1, e2, e3, e4⟩ := g1 h
    exact ⟨L', by rw [hj, e1]; rfl, e2, e3, e4⟩
  · rw [hj, g2 h]
    rfl
/-- The function that patches the results of a kind. -/
theorem kindP {q : Qry} (hk : Em.valid q = true) : ∃ n : Nat, (∀ args w, (callFunc n args).run Tryz.prog w = .ok (.enter n args) w) ∧ ∀ g5 g6, ∃ t cb, mget (KM g5 g6) q.kind = some (t, .func (.func n) #[] cb) ∧
    ∀ W, Blk W g5 156 #[fnV 83] → Blk W g6 156 #[fnV 85] → PFun n cb q W := by
  have hg := fun g5 g6 => KM.get g5 g6
  rcases Pm.valid_kind hk with h | h | h | h | h | h | h
  · exact ⟨76, enters_of Tryz.func76 (by kernel_rfl) rfl, fun g5 g6 => ⟨_, #[], by rw [h]; exact (hg g5 g6).1, fun W _ _ => pk_rows (.inl h) W⟩⟩
  · exact ⟨76, enters_of Tryz.func76 (by kernel_rfl) rfl, fun g5 g6 => ⟨_, #[], by rw [h]; exact (hg g5 g6).2.1, fun W _ _ => pk_rows (.inr h) W⟩⟩
  · exact ⟨78, enters_of Tryz.func78 (by kernel_rfl) rfl, fun g5 g6 => ⟨_, #[], by rw [h]; exact (hg g5 g6).2.2.1, fun W _ _ => pk_count h W⟩⟩
  · exact ⟨80, enters_of Tryz.func80 (by kernel_rfl) rfl, fun g5 g6 => ⟨_, #[], by rw [h]; exact (hg g5 g6).2.2.2.1, fun W _ _ => pk_sum h W⟩⟩
  · exact ⟨125, enters_of Tryz.func125 (by kernel_rfl) rfl, fun g5 g6 => ⟨_, #[.pointer (some ⟨g5, 0, none⟩)], by rw [h]; exact (hg g5 g6).2.2.2.2.1, fun W b5 _ => pk_ext (.inl h) W 83 g5 (enters_of Tryz.func83 (by kernel_rfl) rfl) (fun a b w => (pless_any a b w).mono fun e w' hh => ⟨hh.1.trans (by rw [h]; rfl), hh.2⟩) b5⟩⟩
  · exact ⟨125, enters_of Tryz.func125 (by kernel_rfl) rfl, fun g5 g6 => ⟨_, #[.pointer (some ⟨g6, 0, none⟩)], by rw [h]; exact (hg g5 g6).2.2.2.2.2.1, fun W _ b6 => pk_ext (.inr h) W 85 g6 (enters_of Tryz.func85 (by kernel_rfl) rfl) (fun a b w => (pmore_any a b w).mono fun e w' hh => ⟨hh.1.trans (by rw [h]; rfl), hh.2⟩) b6⟩⟩
  · exact ⟨87, enters_of Tryz.func87 (by kernel_rfl) rfl, fun g5 g6 => ⟨_, #[], by rw [h]; exact (hg g5 g6).2.2.2.2.2.2, fun W _ _ => pk_join h W⟩⟩
end Go.Proofs.YtciaallekkdnhaaGreat
namespace Go.Proofs.YtciaallekkdnhaaGreat
open Go.RowKit

theorem cloneMap_any (m : Nat) (M : List (IdK × RowV)) (w : World) (h : VMap Tryz.prog 114 klId RowV.val w m M) :
    Calls Tryz.prog 48 #[.map (some m)] w fun e w' => e = .returned (.map (some w.heap.size)) ∧ VMap Tryz.prog 114 klId RowV.val w' w.heap.size M ∧ Fr [] w w' ∧ w'.heap.size = w.heap.size + 1 := by
  obtain ⟨es, clock, hb, hF, hp⟩ := h
  have hcon := AnyW.maps_Clone (P := Tryz.prog) (ρ := Shlf.cloneMap_ren) Shlf.cloneMap m es clock w hb
  change Calls Tryz.prog 48 _ _ _ at hcon
  refine hcon.mono ?_
  rintro e w' ⟨rfl, rfl⟩
  exact ⟨rfl, ⟨es, clock, (MapKept.heap_alloc w _).1, hF, hp⟩, (Fr.refl _ _).alloc _, by simp⟩

set_option maxHeartbeats 1000000 in
theorem sclone_any (b m : Nat) (s : Sm.Sta) (w : World) (h : StaAt w b m s) :
    Calls Tryz.prog 29 #[.pointer (some ⟨b, 0, none⟩)] w fun e w' => ∃ b' m', e = .returned (.pointer (some ⟨b', 0, none⟩)) ∧ StaAt w' b' m' s ∧ Fr [] w w' ∧ w.heap.size ≤ b' ∧ w.heap.size ≤ m' := by
  have H := Lib.hid h
  have c0 : w.cell? ⟨b, 0, none⟩ = some (.map (some m)) := h.blk.cell 0
  have c1 : w.cell? ⟨b, 1, none⟩ = some (.int .i64 s.pos) := h.blk.cell 1
  have hb := Blk.new w 109 #[.map (some m), .int .i64 s.pos]
  have F0 : Fr [] w (w.alloc (.cells #[.map (some m), .int .i64 s.pos] 109)) := (Fr.refl _ _).alloc _
  have hm0 := h.map.fr F0 (by simp)
  have hs0 : (w.alloc (.cells #[.map (some m), .int .i64 s.pos] 109)).heap.size = w.heap.size + 1 := by simp
  clear h
  go_enter Tryz.func29, Tryz.ntmps29
  go_wp2_with fail
  refine (cloneMap_any m s.M _ hm0).mono ?_
  rintro e w1 ⟨rfl, hm1, f1, hs1⟩
  rw [hs0] at hm1 hs1 ⊢
  have hb1 := hb.fr f1 (by simp)
  have F1 := F0.trans f1
  have c0 := hb1.cell 0
  have c1 := hb1.cell 1
  have z0 := hb1.frozen 0
  clear f1 F0 hm0 hb hs0
  go_wp2_with fail
  go_ret
  have hbn := Blk.new (w1.setCell ⟨w.heap.size, 0, none⟩ (.map (some (w.heap.size + 1)))) 111 #[.map (some (w.heap.size + 1)), .int .i64 s.pos]
  have hsz : (w1.setCell ⟨w.heap.size, 0, none⟩ (.map (some (w.heap.size + 1)))).heap.size = w1.heap.size := by simp [World.setCell]
  rw [hsz] at hbn
  refine ⟨w1.heap.size, w.heap.size + 1, ?_, ⟨hbn, (hm1.setCell (by simp) _).alloc _, H.out.ok⟩, (F1.setCell (.inr (Nat.le_refl _)) _).alloc _, by omega, by omega⟩
  simp [hs1]
theorem sclone_nil (w : World) : Calls Tryz.prog 29 #[.pointer none] w fun e w' => e = .returned (.pointer none) ∧ w = w' := by
  go_enter Tryz.func29, Tryz.ntmps29
  go_wp2
  go_ret
  exact ⟨rfl, rfl⟩
end Go.Proofs.YtciaallekkdnhaaGreat
