/-
  The closures of package eval.
-/
import Derived.Test.YtjiikpmkedkbkaaGreatMa
import Derived.StillTail
import Derived.Deep.QuietTactic
import Derived.Sort.Grow
import Derived.Shelf.SlSortCmp.QuietGrown
import Derived.Test.YtjiikpmkedkbkaaGreatMl
import Derived.Shelf.SlSortCmp.NoneTotal
import Derived.Test.YtjiikpmkedkbkaaGreatMe
import Derived.Test.YtjiikpmkedkbkaaGreatLay
import Derived.StillTailTactics
import Derived.Test.YtjiikpmkedkbkaaGreatMb
import Derived.Test.YtjiikpmkedkbkaaGreatMm
import Derived.Deep.DeepCutAuto
namespace Go.Proofs.YtjiikpmkedkbkaaGreat
open Go.RowKit

section
variable {P : Program} {ops : Array Oper} {md : Region.Mode} {C : World → Prop}
/-- Some operations of the head are still to come: whichever may come up is one of the head. -/
def HeadQ (P : Program) (md : Region.Mode) (ops : Array Oper) (C : World → Prop) (n : Nat) (L : Array Bool → Act → Prop) : Nat → Array Bool → Act → Prop
  | 0, done, a => L done a
  | f + 1, done, a => Region.ready md ops done ≠ [] ∧ ∀ i ∈ Region.ready md ops done, i < n ∧ qOp P ops C i (HeadQ P md ops C n L f (done.setIfInBounds i true)) a

theorem HeadQ.any {n g : Nat} {L : Array Bool → Act → Prop} {Q' : Exit → Act → World → Prop} (hL : ∀ done a w, C w → L done a → wpAny P md ops Q' g done a w) :
    ∀ (f : Nat) (done : Array Bool) (a : Act) (w : World), C w → HeadQ P md ops C n L f done a → wpAny P md ops Q' (f + g) done a w := by
  intro f
  induction f with
  | zero => intro done a w hw h; rw [Nat.zero_add]; exact hL _ _ _ hw h
  | succ f ih =>
    intro done a w hw h
    rw [Nat.add_right_comm]
    exact ⟨fun h0 => absurd h0 h.1, fun i hi => wpOp_of_qOp hw (fun a' w' hw' h' => ih _ a' w' hw' h') (h.2 i hi).2⟩

theorem HeadQ.first {n i : Nat} {oi : Oper} {v : Value} {L : Array Bool → Act → Prop} (hi : ops[i]? = some oi) (hsel : ∀ (j : Nat) (o : Oper) cs b, ops[j]? = some o → o.op ≠ .select cs b)
    (hs : Region.sinkB md ops n = true) (hc : Region.chainB md ops n = true) (hn : n < ops.size) (hin : i < n) (hend : ∀ done a, L done a → ∀ j ∈ Region.ready md ops done, n ≤ j) :
    ∀ (f : Nat) (done : Array Bool) (a : Act), HeadInv md ops n done →
      (∀ j oj, ops[j]? = some oj → j ≠ i → done.getD j true = false → (∀ e ∈ oj.after, Region.binds md e = true → e.on ≠ i) → oi.apart ops oj = true) →
      i ∈ Region.ready md ops done → YieldsIn P ops C oi v a → HeadQ P md ops C n L f (done.setIfInBounds i true) (a.put oi.dst v) → HeadQ P md ops C n L (f + 1) done a := by
  intro f
  induction f with
  | zero =>
    intro done a inv _ hr hy H
    have hun := (mem_ready.1 hr).1
    refine ⟨List.ne_nil_of_mem hr, fun j hj => ?_⟩
    have hjn : j < n := Nat.lt_of_not_le fun h => tail_waits hs hc hn inv _ i rfl hin hun j h hj
    refine ⟨hjn, ?_⟩
    by_cases e : j = i
    · subst e
      exact hy.qOp hi H
    · exact absurd (hend _ _ H j (ready_mono hj e)) (by omega)
  | succ f ih =>
    intro done a inv hfree hr hy H
    have hun := (mem_ready.1 hr).1
    refine ⟨List.ne_nil_of_mem hr, fun j hj => ?_⟩
    have hjn : j < n := Nat.lt_of_not_le fun h => tail_waits hs hc hn inv _ i rfl hin hun j h hj
    refine ⟨hjn, ?_⟩
    by_cases e : j = i
    · subst e
      exact hy.qOp hi H
    · obtain ⟨hjun, oj, hoj, hall⟩ := mem_ready.1 hj
      have hnot : ∀ e ∈ oj.after, Region.binds md e = true → e.on ≠ i := by
        intro x hx hb hxi
        have h1 := hall x hx hb
        rw [hxi, getD_both hun] at h1
        cases h1
      have hsw := qOp_put hoj (hfree j oj hoj e hjun hnot) (fun cs b => hsel i oi cs b hi) (fun cs b => hsel j oj cs b hoj) hy (H.2 j (ready_mono hj e)).2
      refine qOp_mono (fun a' h3 => ?_) hsw
      refine ih (done.setIfInBounds j true) a' (inv.set hj hjn) ?_ (ready_mono hr (Ne.symm e)) h3.1 ?_
      · intro k ok hk hki hkun hkn
        refine hfree k ok hk hki ?_ hkn
        by_cases hjk : j = k
        · subst hjk
          exact hjun
        · rwa [getD_set_ne true hjk] at hkun
      · rw [Array.setIfInBounds_comm _ _ e]
        exact h3.2

theorem HeadQ.lex {n g : Nat} {L : Act → Prop} (hsel : Region.noSelect ops = true) (hs : Region.sinkB md ops n = true) (hc : Region.chainB md ops n = true) (hn : n < ops.size) :
    ∀ (l : List Oper) (k : Nat) (done : Array Bool) (a : Act), (∀ j, j < l.length → l[j]? = ops[k + j]?) → k + l.length = n → HeadInv md ops n done → Region.lexHead md ops g l.length k done = true →
      wpQuiet P ops C L l a → HeadQ P md ops C n (fun d a' => Region.seqB md ops g n d = true ∧ L a') l.length done a := by
  intro l
  induction l with
  | nil =>
    intro k done a _ hk _ hB h
    have : k = n := by simpa using hk
    subst this
    exact ⟨by simpa [Region.lexHead] using hB, h⟩
  | cons o l ih =>
    intro k done a hl hk inv hB h
    have h0 : ops[k]? = some o := by simpa using (hl 0 (by simp)).symm
    simp only [List.length_cons, Region.lexHead, Bool.and_eq_true] at hB
    obtain ⟨⟨hr, hf⟩, hB'⟩ := hB
    have hkn : k < n := by simp only [List.length_cons] at hk; omega
    have hr' : k ∈ Region.ready md ops done := by simpa using hr
    have hq : qOp P ops C k (wpQuiet P ops C L l) a := by unfold qOp; simp only [h0]; exact h
    obtain ⟨v, hy, hK⟩ := yieldsIn_of_qOp h0 hq
    refine HeadQ.first h0 (Region.noSelect_spec hsel) hs hc hn hkn (fun d a' hL => seqB_ready hL.1) l.length done a inv (Region.free_spec h0 hf) hr' hy (ih (k + 1) _ _ (fun j hj => ?_) ?_ (inv.set hr' hkn) hB' hK)
    · have := hl (j + 1) (by simp; omega)
      simpa [Nat.add_assoc, Nat.add_comm 1 j] using this
    · simp only [List.length_cons] at hk
      omega

theorem wp_region_quiet_tail {id : Nat} {Q : Exit → Act → World → Prop} {a : Act} {w : World} {l : List Oper} (n : Nat) (hm : P.follows .mixedOrders = true) (hB : Region.lexTailB .any l.toArray n = true) (hC : C { w with drawn := w.drawn + 1 })
    (h : wpQuiet P l.toArray C (fun a' => ∀ w', C w' → wpList P l.toArray Q (l.drop n) a' w') (l.take n) a) : (Code.region id l.toArray true).wp P Q a w := by
  simp only [Region.lexTailB, Bool.and_eq_true, decide_eq_true_eq] at hB
  obtain ⟨⟨⟨⟨hsel, hn⟩, hs⟩, hc⟩, hlex⟩ := hB
  have hn' : n < l.length := by simpa using hn
  have htl : (l.take n).length = n := by rw [List.length_take]; omega
  have hdl : (l.drop n).length = l.toArray.size - n := by simp
  have inv0 : HeadInv .any l.toArray n (Array.replicate l.toArray.size false) :=
    ⟨by simp, fun j oj _ hl => (by rw [getD_replicate_false] at hl; cases hl), fun t _ ht => getD_in (by simpa using ht) (getD_replicate_false _ _)⟩
  have H := HeadQ.lex (P := P) (C := C) (md := .any) (g := l.toArray.size - n) (L := fun a' => ∀ w', C w' → wpList P l.toArray Q (l.drop n) a' w') hsel hs hc hn (l.take n) 0 _ a
    (fun j hj => by rw [htl] at hj; simp [hj]) (by simpa using htl) inv0 (by rw [htl]; exact hlex) h
  refine wp_region_any hm ?_
  have H2 := HeadQ.any (Q' := Q) (g := l.toArray.size - n) (fun d a' w' hw' hL => by
    have h1 := wpAny_of_seq (md := .any) (Q' := Q) (l.drop n) n d a' w' (fun j => by simp [List.getElem?_drop]) (by rw [hdl]; exact hL.1) (hL.2 w' hw')
    rwa [hdl] at h1) _ _ _ _ hC H
  rw [htl, show n + (l.toArray.size - n) = l.toArray.size by omega] at H2
  exact H2
end
end Go.Proofs.YtjiikpmkedkbkaaGreat
namespace Go.Proofs.YtjiikpmkedkbkaaGreat
open Go.RowKit Go.Sort

/-- How two rows stand to each other: by the column, then by the key. -/
def cmpRow (c : Int) (a b : RowV) : Int := if cmpI (a.value c) (b.value c) = 0 then cmpI a.k b.k else cmpI (a.value c) (b.value c)

theorem grown3 {W W2 : World} (nq : Nat) (osq : Array Obj) (o : Obj) (h : ∃ q os, W2 = grow (W.drewN q) os) : ∃ q os, (grow (W2.drewN nq) osq).alloc o = grow (W.drewN q) os := by
  obtain ⟨q, os, rfl⟩ := h
  refine ⟨q + nq, os ++ osq ++ #[o], ?_⟩
  rw [alloc_eq_grow]
  show grow (grow (grow ((W.drewN q).drewN nq) os) osq) _ = _
  rw [grow_grow, grow_grow, World.drewN_drewN, Array.append_assoc]
theorem value5 (t k x y z c : Int) (w : World) : Calls Tryz.prog 54 #[.agg #[.int .i64 t, .int .i64 k, .int .i64 x, .int .i64 y, .int .i64 z], .int .i64 c] w fun e w' => e = .returned (.int .i64 (RowV.value ⟨t, k, x, y, z⟩ c)) ∧ w' = w.alloc (.cells #[.int .i64 t, .int .i64 k, .int .i64 x, .int .i64 y, .int .i64 z] 53) := value_any ⟨t, k, x, y, z⟩ c w

set_option maxRecDepth 100000 in
set_option maxHeartbeats 2000000 in
theorem cmp_any (c : Int) (r1 r2 : RowV) (gc : Nat) (W : World) (hc : W.cell? ⟨gc, 0, none⟩ = some (.int .i64 c)) :
    Calls Tryz.prog 77 #[r1.val, r2.val, .pointer (some ⟨gc, 0, none⟩)] W fun e w' => e = .returned (.int .i64 (cmpRow c r1 r2)) ∧ ∃ q os, w' = grow (W.drewN q) os := by
  have hgl := World.block_lt_of_cell? W _ hc
  have HV := Lib.hid value5
  have HCM := Lib.hid compare_any
  have hb1 := (Blk.new W 53 r1.cells.toArray).alloc (.cells r2.cells.toArray 53)
  have hb2 := Blk.new (W.alloc (.cells r1.cells.toArray 53)) 53 r2.cells.toArray
  have hc2 : ((W.alloc (.cells r1.cells.toArray 53)).alloc (.cells r2.cells.toArray 53)).cell? ⟨gc, 0, none⟩ = some (.int .i64 c) := by
    rw [World.cell?_alloc_lt _ _ _ (by simpa using Nat.lt_succ_of_lt hgl), World.cell?_alloc_lt _ _ _ (by simpa using hgl)]
    exact hc
  have hW : ∃ q os, (W.alloc (.cells r1.cells.toArray 53)).alloc (.cells r2.cells.toArray 53) = grow (W.drewN q) os := ⟨0, _, by rw [alloc_eq_grow, alloc_eq_grow, grow_grow]; rfl⟩
  have HW := Lib.hid hW
  clear hW hc
  unfold cmpRow
  go_enter Tryz.func77, Tryz.ntmps77
  go_wp2_with fail
  rw [World.size_alloc] at hb2
  generalize (W.alloc (.cells r1.cells.toArray 53)).alloc (.cells r2.cells.toArray 53) = W2 at *
  obtain ⟨t1, k1, x1, y1, z1⟩ := r1
  obtain ⟨t2, k2, x2, y2, z2⟩ := r2
  have hl1 := hb1.lt
  have hl2 := hb2.lt
  have hl0 := World.block_lt_of_cell? W2 _ hc2
  have q0 : ∀ n os, (grow (W2.drewN n) os).cell? ⟨gc, 0, none⟩ = some (.int .i64 c) := cell_grown hl0 hc2
  have a0 : ∀ n os, (grow (W2.drewN n) os).cell? ⟨W.heap.size, 0, none⟩ = some (.int .i64 t1) := cell_grown hl1 (hb1.cell 0)
  have a1 : ∀ n os, (grow (W2.drewN n) os).cell? ⟨W.heap.size, 1, none⟩ = some (.int .i64 k1) := cell_grown hl1 (hb1.cell 1)
  have a2 : ∀ n os, (grow (W2.drewN n) os).cell? ⟨W.heap.size, 2, none⟩ = some (.int .i64 x1) := cell_grown hl1 (hb1.cell 2)
  have a3 : ∀ n os, (grow (W2.drewN n) os).cell? ⟨W.heap.size, 3, none⟩ = some (.int .i64 y1) := cell_grown hl1 (hb1.cell 3)
  have a4 : ∀ n os, (grow (W2.drewN n) os).cell? ⟨W.heap.size, 4, none⟩ = some (.int .i64 z1) := cell_grown hl1 (hb1.cell 4)
  have b0 : ∀ n os, (grow (W2.drewN n) os).cell? ⟨W.heap.size + 1, 0, none⟩ = some (.int .i64 t2) := cell_grown hl2 (hb2.cell 0)
  have b1 : ∀ n os, (grow (W2.drewN n) os).cell? ⟨W.heap.size + 1, 1, none⟩ = some (.int .i64 k2) := cell_grown hl2 (hb2.cell 1)
  have b2 : ∀ n os, (grow (W2.drewN n) os).cell? ⟨W.heap.size + 1, 2, none⟩ = some (.int .i64 x2) := cell_grown hl2 (hb2.cell 2)
  have b3 : ∀ n os, (grow (W2.drewN n) os).cell? ⟨W.heap.size + 1, 3, none⟩ = some (.int .i64 y2) := cell_grown hl2 (hb2.cell 3)
  have b4 : ∀ n os, (grow (W2.drewN n) os).cell? ⟨W.heap.size + 1, 4, none⟩ = some (.int .i64 z2) := cell_grown hl2 (hb2.cell 4)
  clear hb1 hb2 hc2 hgl hl0 hl1 hl2
  refine wp_region_quiet_tail (C := fun w' => ∃ p : GrownBy, w' = grow (W2.drewN p.n) p.os) 12 (by kernel_rfl) (by kernel_rfl) ⟨⟨1, #[]⟩, by rw [grow_empty]; rfl⟩ ?_
  simp only [List.take_succ_cons, List.take_zero, List.drop_succ_cons, List.drop_zero]
  repeat (quiet_step (first
    | exact Calls.grown_of ((HV.out _ _ _ _ _ _ _).mono fun e w'' h => ⟨h.1, 0, _, h.2.trans (alloc_eq_grow _ _)⟩)
    | exact Calls.grown_of ((HCM.out _ _ _).mono fun e w'' h => ⟨h.1, 0, #[], h.2.trans (grow_empty _).symm⟩)))
  refine wpQuiet_nil ?_
  intro w' hw'
  obtain ⟨⟨nq, osq⟩, rfl⟩ := hw'
  dsimp only
  go_wp2_with fail
  have hsz : (grow (W2.drewN nq) osq).heap.size = W2.heap.size + osq.size := by simp [grow]
  have hnb := Blk.new (grow (W2.drewN nq) osq) 3 #[.int .i64 (cmpI (RowV.value ⟨t1, k1, x1, y1, z1⟩ c) (RowV.value ⟨t2, k2, x2, y2, z2⟩ c)), .int .i64 (cmpI k1 k2)]
  rw [hsz] at hnb
  refine (or_any (cmpI (RowV.value ⟨t1, k1, x1, y1, z1⟩ c) (RowV.value ⟨t2, k2, x2, y2, z2⟩ c)) (cmpI k1 k2) (W2.heap.size + osq.size) 2 _ (hnb.cell 0) (hnb.cell 1)).mono ?_
  rintro e w'' ⟨rfl, rfl⟩
  go_wp2_with fail
  all_goals
    go_ret
    exact ⟨rfl, grown3 _ _ _ HW.out⟩
end Go.Proofs.YtjiikpmkedkbkaaGreat
namespace Go.Proofs.YtjiikpmkedkbkaaGreat
open Go.RowKit Go.Sort

section
variable {X : Type} [Inhabited X] {e size : Nat} {enc : X → List Value} {w : World} {g cap : Nat} {L : List X}
theorem getI_toArray (L : List X) {i : Nat} (h : i < L.length) : L.toArray[i]! = L[i] := by simp [h]
theorem OwnL.holdsK (henc : ∀ x, (enc x).length = size) (h : OwnL e size enc w (.slice (some ⟨g, 0, none⟩) L.length cap) L) : HoldsK enc size w g 0 L.toArray := by
  intro q hq
  rw [size_flatK] at hq
  have hq' : q < L.length * size := by simpa using hq
  have hs : 0 < size := Nat.pos_of_ne_zero fun e => by subst e; simp at hq'
  have h0 : 0 < L.length := Nat.pos_of_ne_zero fun e => by rw [e] at hq'; simp at hq'
  obtain ⟨g', cap', hv, _, _, _, hcell, hfz⟩ := h.form henc h0
  cases hv
  have hi : q / size < L.length := Nat.div_lt_of_lt_mul (by rw [Nat.mul_comm]; exact hq')
  have hj : q % size < size := Nat.mod_lt _ hs
  have hqq : q / size * size + q % size = q := by rw [Nat.mul_comm]; exact Nat.div_add_mod q size
  rw [get_flatK _ _ _ _ hq, getI_toArray L hi, Nat.zero_add]
  have h1 := hcell (q / size) hi (q % size) hj
  rw [hqq] at h1
  refine ⟨?_, hfz _⟩
  rw [h1, List.getElem?_eq_getElem (by rw [henc]; exact hj)]
  simp [henc, hj]

theorem sortWorld_fr (n : Nat) (d : Array X) (os : Array Obj) (k off : Nat) : Fr [g] w (sortWorldK enc k w g off n d os) := by
  refine ⟨rfl, rfl, rfl, ?_, fun j hj hn => ?_⟩
  · simp [sortWorldK, grow, putRowK, putRow, mapBlock, Go.Sort.ahead]
  · have hjg : g ≠ j := fun e => hn (by simp [e])
    simp only [sortWorldK, grow, putRowK, putRow, mapBlock, Go.Sort.ahead]
    rw [Array.getElem?_append_left (by simpa using hj), Array.getElem?_modify, if_neg hjg]

theorem OwnL.sorted (henc : ∀ x, (enc x).length = size) (h : OwnL e size enc w (.slice (some ⟨g, 0, none⟩) L.length cap) L) (d : Array X) (hd : d.size = L.length) (n : Nat) (os : Array Obj) :
    OwnL e size enc (sortWorldK enc size w g 0 n d os) (.slice (some ⟨g, 0, none⟩) L.length cap) d.toList := by
  have hdl : d.toList.length = L.length := by simpa using hd
  refine ⟨by rw [flat_len henc], ?_⟩
  rcases h.2 with ⟨hv, _⟩ | ⟨g', cap', cur, hv, hb, hg, hnc, hcm, hcs, htk⟩
  · cases hv
  · cases hv
    refine .inr ⟨g, cap, putCells id 0 (flatK enc size d) cur, by rw [hdl], hb, ?_, by rw [hdl]; exact hnc, hcm, by simp [putCells, hcs], ?_⟩
    · have hgl := (Array.getElem?_eq_some_iff.1 hg).1
      simp only [sortWorldK, grow, putRowK, putRow, mapBlock, Go.Sort.ahead]
      rw [Array.getElem?_append_left (by simpa using hgl), Array.getElem?_modify, if_pos rfl, hg]
      rfl
    · apply List.ext_getElem?
      intro q
      rw [hdl, List.getElem?_take]
      by_cases hq : q < L.length * size
      · have hs : 0 < size := Nat.pos_of_ne_zero fun e => by subst e; simp at hq
        have hi : q / size < d.toList.length := by rw [hdl]; exact Nat.div_lt_of_lt_mul (by rw [Nat.mul_comm]; exact hq)
        have hj : q % size < size := Nat.mod_lt _ hs
        have hqq : q / size * size + q % size = q := by rw [Nat.mul_comm]; exact Nat.div_add_mod q size
        have hqc : q < cur.size := by rw [hcs]; exact Nat.lt_of_lt_of_le hq (Nat.mul_le_mul_right _ hnc)
        have hqf : q < d.size * size := by rw [hd]; exact hq
        have hidx : q / size < d.size := by simpa using hi
        rw [if_pos hq, ← hqq, flat_get henc d.toList (q / size) hi (q % size) hj, hqq]
        rw [Array.getElem?_toList]
        simp only [putCells, Array.getElem?_mapIdx, Array.getElem?_eq_getElem hqc, Option.map_some]
        rw [if_pos ⟨Nat.zero_le _, by rw [size_flatK]; omega⟩, Nat.sub_zero, get_flatK _ _ _ _ hqf]
        have e1 : d[q / size]! = d.toList[q / size] := by simp [hidx]
        rw [e1, List.getElem?_eq_getElem (by rw [henc]; exact hj)]
        simp [henc, hj]
      · rw [if_neg hq, List.getElem?_eq_none (by rw [flat_len henc, hdl]; omega)]
end
end Go.Proofs.YtjiikpmkedkbkaaGreat
namespace Go.Proofs.YtjiikpmkedkbkaaGreat
open Go.RowKit

/-- A record that waits: what it is, and where its changes lie. -/
structure WRec where
  r : Rec
  A : Option Addr
  cap : Nat
@[reducible] def WRec.val (v : WRec) : Value := .agg #[.int .i64 v.r.p, .slice v.A v.r.cs.length v.cap]
def WRec.cells (u : WRec) : List Value := [.int .i64 u.r.p, .slice u.A u.r.cs.length u.cap]
theorem WRec.len (u : WRec) : u.cells.length = 2 := rfl
theorem WRec.one (u : WRec) : ∀ v ∈ u.cells, v.oneCell' = true := by
  intro v hv
  simp only [WRec.cells, List.mem_cons, List.not_mem_nil, or_false] at hv
  rcases hv with rfl | rfl <;> rfl
/-- v is a row that holds the records out. -/
def OwnR (w : World) (v : Value) (out : List Rec) : Prop := ∃ us : List WRec, OwnL 41 2 WRec.cells w v us ∧ us.map (·.r) = out ∧ ∀ u ∈ us, HoldsC w u.A u.r.cs ∧ u.r.cs.length ≤ 8
theorem OwnR.nil (w : World) : OwnR w (.slice none 0 0) [] := ⟨[], OwnL.nil, rfl, by simp⟩
theorem OwnR.fr {w w' : World} {v : Value} {out : List Rec} {S : List Nat} (h : OwnR w v out) (hf : Fr S w w') (hs : ∀ g, v.ownBlock = some g → g ∉ S) (hn : NoC w S) : OwnR w' v out := by
  obtain ⟨us, h1, h2, h3⟩ := h
  exact ⟨us, h1.fr hf hs, h2, fun u hu => ⟨(h3 u hu).1.fr hf hn, (h3 u hu).2⟩⟩
theorem OwnL.ne_map {X K V : Type} {e size : Nat} {enc : X → List Value} {w : World} {v : Value} {L : List X} {P : Program} {k : TypeId} {kl : K → Lit} {ev : V → Value} {b : Nat} {M : List (K × V)} (h : OwnL e size enc w v L) (hb : VMap P k kl ev w b M) {g : Nat} (hg : v.ownBlock = some g) : g ≠ b := by
  rcases h.2 with ⟨rfl, _⟩ | ⟨g', cap, cur, rfl, _, hh, _⟩
  · simp [Value.ownBlock] at hg
  · rintro rfl
    simp [Value.ownBlock] at hg
    subst hg
    exact (hb.ne hh) rfl
theorem OwnL.keep0 {X : Type} {e size : Nat} {enc : X → List Value} {w w' : World} {v : Value} {L : List X} (h : OwnL e size enc w v L) (hf : Fr [] w w') : OwnL e size enc w' v L := h.fr hf (by simp)
theorem OwnR.keep0 {w w' : World} {v : Value} {out : List Rec} (h : OwnR w v out) (hf : Fr [] w w') : OwnR w' v out := h.fr hf (by simp) NoC.nil
theorem OwnR.at1 {w : World} {A : Option Addr} {n cap : Nat} {out : List Rec} (h : OwnR w (.slice A n cap) out) : ∃ us : List WRec, AtL WRec.cells 2 w A us ∧ n = us.length ∧ us.map (·.r) = out ∧ ∀ u ∈ us, ChgsAt w u.A u.r.cs ∧ u.r.cs.length ≤ 8 := by
  obtain ⟨us, h1, h2, h3⟩ := h
  obtain ⟨h4, h5⟩ := h1.at1 WRec.len
  exact ⟨us, h4, h5, h2, fun u hu => ⟨(h3 u hu).1.1, (h3 u hu).2⟩⟩
end Go.Proofs.YtjiikpmkedkbkaaGreat
namespace Go.Proofs.YtjiikpmkedkbkaaGreat
open Go.RowKit Go.Sort

instance : Inhabited RowV := ⟨⟨0, 0, 0, 0, 0⟩⟩

theorem cmpI_spec (x y : Int) : (cmpI x y = -1 ∧ x < y) ∨ (cmpI x y = 1 ∧ y < x) ∨ (cmpI x y = 0 ∧ x = y) := by
  unfold cmpI
  split
  · exact .inl ⟨rfl, by assumption⟩
  · split
    · exact .inr (.inl ⟨rfl, by assumption⟩)
    · exact .inr (.inr ⟨rfl, by omega⟩)
/-- A row stands ahead of another. -/
def ahead2 (c : Int) (a b : RowV) : Prop := a.value c < b.value c ∨ (a.value c = b.value c ∧ a.k < b.k)
theorem cmpRow_neg (c : Int) (a b : RowV) : ltOf (cmpRow c) a b = true ↔ ahead2 c a b := by
  unfold ltOf cmpRow ahead2
  rw [decide_eq_true_eq]
  rcases cmpI_spec (a.value c) (b.value c) with ⟨h1, h2⟩ | ⟨h1, h2⟩ | ⟨h1, h2⟩
  · rw [h1]; simp; omega
  · rw [h1]; simp; omega
  · rw [h1, if_pos rfl]
    rcases cmpI_spec a.k b.k with ⟨h3, h4⟩ | ⟨h3, h4⟩ | ⟨h3, h4⟩ <;> rw [h3] <;> simp <;> omega
theorem swoRow (c : Int) : SWO (ltOf (cmpRow c)) where
  irrefl x := by
    rw [Bool.eq_false_iff]
    intro h
    have := (cmpRow_neg c x x).1 h
    unfold ahead2 at this
    omega
  trans x y z h1 h2 := by
    have h1 := (cmpRow_neg c x y).1 h1
    have h2 := (cmpRow_neg c y z).1 h2
    refine (cmpRow_neg c x z).2 ?_
    unfold ahead2 at *
    omega
  ntrans x y z h1 h2 := by
    rw [Bool.eq_false_iff] at h1 h2 ⊢
    intro h3
    have h3 := (cmpRow_neg c x z).1 h3
    have h1 : ¬ ahead2 c x y := fun h => h1 ((cmpRow_neg c x y).2 h)
    have h2 : ¬ ahead2 c y z := fun h => h2 ((cmpRow_neg c y z).2 h)
    unfold ahead2 at *
    omega

theorem Iter.ne_own {K V X : Type} {P : Program} {k : TypeId} {kl : K → Lit} {ev : V → Value} {w : World} {b r e size : Nat} {M rest : List (K × V)} {enc : X → List Value} {v : Value} {L : List X} (h : Iter P k kl ev w b r M rest) (ho : OwnL e size enc w v L) {g : Nat} (hg : v.ownBlock = some g) : r ≠ g := by
  rcases ho.2 with ⟨rfl, _⟩ | ⟨g', cap, cur, rfl, _, hh, _⟩
  · simp [Value.ownBlock] at hg
  · simp [Value.ownBlock] at hg
    subst hg
    exact h.ne_cells hh
theorem sort_rows (c : Int) (A : Option Addr) (n cap gc : Nat) (w0 w : World) (L : List RowV) (h : RowsOwn w (.slice A n cap) L) (hl : L.length ≤ 4000) (hgc : gc ≤ w0.heap.size) (hc : w.cell? ⟨gc, 0, none⟩ = some (.int .i64 c)) (hf : Fr [] w0 w) (hown : ∀ g, (Value.slice A n cap).ownBlock = some g → w0.heap.size < g) :
    Calls Tryz.prog 76 #[.slice A n cap, .func (.func 77) #[] #[.pointer (some ⟨gc, 0, none⟩)]] w fun e w' =>
      e = .returned (.tuple #[]) ∧ ∃ R, RowsOwn w' (.slice A n cap) R ∧ R.Perm L ∧ R.Pairwise (fun x y => ¬ ahead2 c y x) ∧ Fr [] w0 w' := by
  obtain ⟨A', cap', hv⟩ := h.val
  cases hv
  rcases Nat.eq_zero_or_pos L.length with h0 | h0
  · have hL : L = [] := List.eq_nil_of_length_eq_zero h0
    subst hL
    have hcon := AnyF.slices_SortFunc_none (P := Tryz.prog) (ρ := Shlf.sortRow_ren) { Shlf.sortRow with } A cap (.func (.func 77) #[] #[.pointer (some ⟨gc, 0, none⟩)]) w
    change Calls Tryz.prog 76 _ _ _ at hcon
    refine hcon.mono ?_
    rintro e w' ⟨rfl, rfl⟩
    exact ⟨rfl, [], h, List.Perm.refl _, List.Pairwise.nil, hf⟩
  · obtain ⟨g, cap', hv, hnc, hcm, hgl, _, _⟩ := h.form RowV.cells_len h0
    cases hv
    have hgw := hown g rfl
    have eg : ∀ args w, (callFunc 77 args).run Tryz.prog w = .ok (.enter 77 args) w := enters_of Tryz.func77 (by kernel_rfl) rfl
    have hcmp : CmpLays Tryz.prog 77 #[.pointer (some ⟨gc, 0, none⟩)] RowV.cells 5 (cmpRow c) g 0 L.toArray.size w := fun m os dk _ x y =>
      cmp_any c x y gc _ (by
        rw [(sortWorld_fr (g := g) (w := w) (enc := RowV.cells) m dk os 5 0).cell (p := ⟨gc, 0, none⟩) (World.block_lt_of_cell? w _ hc) (by simp; omega)]
        exact hc)
    have hcon := AnyQ.slices_SortFunc (P := Tryz.prog) (ρ := Shlf.sortRow_ren) Shlf.sortRow 5 Tryz.isAgg53 Tryz.sizeOf53 RowV.cells RowV.cells_len RowV.cells_one (cmpRow c) (swoRow c) 77 #[.pointer (some ⟨gc, 0, none⟩)] g 0 cap L.toArray w eg hcmp (h.holdsK RowV.cells_len) hgl (by simp only [List.size_toArray]; omega)
    change Calls Tryz.prog 76 _ _ _ at hcon
    simp only [List.size_toArray] at hcon
    refine hcon.mono ?_
    rintro e w' ⟨rfl, d', n, os, hp, hs, rfl⟩
    have hd : d'.size = L.length := by simpa using hp.1
    refine ⟨rfl, d'.toList, h.sorted RowV.cells_len d' hd n os, ?_, ?_, hf.trans' (sortWorld_fr n d' os 5 0) (by simp; omega)⟩
    · have h1 := hp.2.2
      have h2 : d'.extract 0 L.length = d' := by rw [← hd]; simp
      have h3 : L.toArray.extract 0 L.length = L.toArray := by simp
      rw [h2, h3] at h1
      simpa using h1
    · rw [List.pairwise_iff_getElem]
      intro i j hi hj hij h1
      have h2 := hs i j (Nat.zero_le _) hij (by rw [← hd]; simpa using hj)
      have hi' : i < d'.size := by simpa using hi
      have hj' : j < d'.size := by simpa using hj
      have e1 : d'[i]! = d'.toList[i] := by simp [hi']
      have e2 : d'[j]! = d'.toList[j] := by simp [hj']
      rw [e1, e2] at h2
      have := (cmpRow_neg c _ _).2 h1
      rw [this] at h2
      cases h2

/-- What stands at the head of each round of 'chosen'. -/
structure ChRel (w W0 wr : World) (m : Nat) (s : Sm.Sta) (p : RowV → Bool) (v : Value) (done rest : List (IdK × RowV)) : Prop where
  perm : s.M.Perm (done ++ rest)
  iter : Iter Tryz.prog 78 klId RowV.val wr m (w.heap.size + 1) s.M rest
  row : RowsOwn wr v ((done.map (·.2)).filter p)
  fr : Fr [] W0 wr
  own : ∀ g, v.ownBlock = some g → w.heap.size < g

set_option maxRecDepth 100000 in
set_option maxHeartbeats 20000000 in
theorem chosen_any (b m : Nat) (s : Sm.Sta) (c : Int) (g : Nat) (cb : Array Value) (p : RowV → Bool) (w : World) (h : StaAt w b m s) (eg : ∀ args w, (callFunc g args).run Tryz.prog w = .ok (.enter g args) w)
    (hp : ∀ (W : World) (r : RowV), Fr [] w W → Calls Tryz.prog g (#[r.val] ++ cb) W fun e w' => e = .returned (.bool (p r)) ∧ Fr [] W w') :
    Calls Tryz.prog 52 #[.pointer (some ⟨b, 0, none⟩), .int .i64 c, .func (.func g) #[] cb] w fun e w' => ∃ v R, e = .returned v ∧ RowsOwn w' v R ∧ R.Perm ((s.M.map (·.2)).filter p) ∧ R.Pairwise (fun x y => ¬ ahead2 c y x) ∧ Fr [] w w' ∧
      ∀ g, v.ownBlock = some g → w.heap.size ≤ g := by
  have HP := Lib.hid hp
  clear hp
  have F0 : Fr [] w (w.alloc (.cells #[.int .i64 c] 3)) := (Fr.refl _ _).alloc _
  have hB0 := Blk.new w 3 #[.int .i64 c]
  have h0 := h.fr0 F0
  have hml := h.lt.2
  have c0 : (w.alloc (.cells #[.int .i64 c] 3)).cell? ⟨b, 0, none⟩ = some (.map (some m)) := h0.blk.cell 0
  have hlen := h.ok.len
  have H := Lib.hid h
  have hs0 : (w.alloc (.cells #[.int .i64 c] 3)).heap.size = w.heap.size + 1 := by simp
  go_enter Tryz.func52, Tryz.ntmps52
  clear h
  go_wp2_with (at_range; refine wpList_vrange _ rfl _ rfl tyIdRow m _ rfl h0.map ?_; intro w0 hit0 hf0 hs1)
  go_frame
  have e1 := hs0
  rw [e1] at hit0 hs1 ⊢
  clear e1
  generalize w.alloc (.cells #[.int .i64 c] 3) = W0 at *
  obtain ⟨i0, TR⟩ := etRow
  go_loopw [7] (fun v wr => ∃ (A : Option Addr) (n cap : Nat) (done rest : List (IdK × RowV)), v = .slice A n cap ∧ Hid (ChRel w W0 wr m s p (.slice A n cap) done rest)) (fun _ wr => wr.rangeLeft m (w.heap.size + 1))
  case atStart => exact ⟨none, 0, 0, [], s.M, rfl, Lib.hid ⟨by simp, hit0, OwnL.nil, hf0, fun g hg => by simp [Value.ownBlock] at hg⟩⟩
  case round =>
    obtain ⟨A, n, cap, done, rest, rfl, R⟩ := hrel
    go_wp2_with (at_next; refine wpList_vnext _ rfl _ rfl tyIdRow m _ _ _ (fun _ _ => trivial) rfl R.out.iter ?_ ?_)
    · intro hnil
      subst hnil
      have hperm := R.out.perm
      rw [List.append_nil] at hperm
      have hrow := Lib.hid R.out.row
      have hF := Lib.hid (F0.trans R.out.fr)
      have hown := Lib.hid R.out.own
      have hb := hB0.fr R.out.fr (by simp)
      have hcc := hb.cell 0
      have HPM := Lib.hid hperm
      clear R hperm hit0 hf0 hs1
      have hsort : Hid (Calls Tryz.prog 76 #[.slice A n cap, .func (.func 77) #[] #[.pointer (some ⟨w.heap.size, 0, none⟩)]] wr fun e w' =>
          e = .returned (.tuple #[]) ∧ ∃ R, RowsOwn w' (.slice A n cap) R ∧ R.Perm ((done.map (·.2)).filter p) ∧ R.Pairwise (fun x y => ¬ ahead2 c y x) ∧ Fr [] w w') := Lib.hid (sort_rows c A n cap w.heap.size w wr _ hrow.out (by have h1 := List.length_filter_le p (done.map (·.2)); rw [List.length_map, ← HPM.out.length_eq] at h1; omega) (Nat.le_refl _) hcc hF.out hown.out)
      clear hrow hF hcc hb
      go_wp2_with (go_at_call 76; refine hsort.out.mono ?_; rintro e w2 ⟨rfl, R, hr2, hp2, hs2, hf2⟩; have HR2 := Lib.hid hr2; have HP2 := Lib.hid hp2; have HS2 := Lib.hid hs2; have HF2 := Lib.hid hf2; clear hr2 hp2 hs2 hf2)
      go_ret
      exact ⟨_, R, rfl, HR2.out, HP2.out.trans ((HPM.out.symm.map _).filter _), HS2.out, HF2.out, fun g hg => Nat.le_of_lt (hown.out g hg)⟩
    · intro ta tb htb u rest' w1 hp1 hm1 hit1 hf1 hs2 hen
      have hdl : Hid (((done.map (·.2)).filter p).length + [u].length ≤ 2010) := Lib.hid (by
        have h1 := List.length_filter_le p (done.map (·.2))
        have h2 := R.out.perm.length_eq
        rw [List.length_append] at h2
        rw [List.length_map] at h1
        simp only [List.length_singleton]
        omega)
      have hS : ∀ g, (Value.slice A n cap).ownBlock = some g → w.heap.size < g ∧ g ≠ w.heap.size + 1 := fun g hg => ⟨R.out.own g hg, fun e => R.out.iter.ne_own R.out.row hg e.symm⟩
      have hnext := Lib.hid (fun (v : Value) (W : World) (S : List Nat) (hr : RowsOwn W v (((done ++ [((⟨(ta, tb), htb⟩ : IdK), u)]).map (·.2)).filter p)) (hi : Fr S w1 W) (hSS : ∀ g ∈ S, (Value.slice A n cap).ownBlock = some g) (hv : ∀ g, v.ownBlock = some g → w.heap.size < g) =>
        (show ChRel w W0 W m s p v (done ++ [((⟨(ta, tb), htb⟩ : IdK), u)]) rest' ∧ W.rangeLeft m (w.heap.size + 1) < wr.rangeLeft m (w.heap.size + 1) from by
          have h2 := hit1.fr hi (fun hm => by have := (hS _ (hSS _ hm)).1; omega) (fun hm => (hS _ (hSS _ hm)).2 rfl)
          refine ⟨⟨R.out.perm.trans ((hp1.append_left done).trans (by simp)), h2, hr, (R.out.fr.trans' hf1 (by simp; omega)).trans' hi (fun g hg => .inr (by have := (hS _ (hSS _ hg)).1; omega)), hv⟩, ?_⟩
          rw [h2.left_eq, R.out.iter.left_eq, hp1.length_eq]
          simp))
      have hrow1 := R.out.row.fr hf1 (fun g hg => by
        have := R.out.iter.ne_own R.out.row hg
        simpa using fun e => this e.symm)
      have hfw : Fr [] w w1 := F0.trans ((R.out.fr).trans' hf1 (by simp; omega))
      have hown := Lib.hid R.out.own
      clear hit1 hf1 hit0 hf0 hs1 R hp1 hm1
      obtain ⟨t, k, xa, xb, xc⟩ := u
      have hN0 := Blk.new w1 53 #[.int .i64 t, .int .i64 k, .int .i64 xa, .int .i64 xb, .int .i64 xc]
      rw [hs2] at hN0
      have F1 : Fr [] w1 (w1.alloc (.cells #[.int .i64 t, .int .i64 k, .int .i64 xa, .int .i64 xb, .int .i64 xc] 53)) := (Fr.refl _ _).alloc _
      have HPP := Lib.hid (HP.out _ ⟨t, k, xa, xb, xc⟩ (hfw.trans F1))
      cases hpu : p ⟨t, k, xa, xb, xc⟩
      · have Hpu := Lib.hid hpu
        clear hpu
        go_wp2_with (go_at_fn g; refine HPP.out.mono ?_; rintro e w2 ⟨he, f2⟩; rw [Hpu.out] at he; subst he)
        have R2 := hnext.out (.slice A n cap) w2 [] (by rw [List.map_append, List.filter_append]; simpa [Hpu.out] using hrow1.fr (F1.trans f2) (by simp)) (F1.trans f2) (by simp) hown.out
        go_roundw
        case rel => exact ⟨A, n, cap, _, _, rfl, Lib.hid R2.1⟩
        case measure => exact R2.2
      · have Hpu := Lib.hid hpu
        clear hpu
        have hrow1' := Lib.hid hrow1
        clear hrow1
        go_wp2_with (first
          | (go_at_fn g; refine HPP.out.mono ?_; rintro e w2 ⟨he, f2⟩; rw [Hpu.out] at he; subst he; have hN := hN0.fr f2 (by simp); have x0 := hN.cell 0; have x1 := hN.cell 1; have x2 := hN.cell 2; have x3 := hN.cell 3; have x4 := hN.cell 4; have hrow2 := Lib.hid (hrow1'.out.fr (F1.trans f2) (by simp)); have F2 := Lib.hid (F1.trans f2); clear f2 hN)
          | (at_builtin; refine wpList_appendL rfl _ _ rfl TR RowV.cells_len RowV.cells_one rfl (hrow2.out.fr ((Fr.refl [] w2).alloc (.cells #[.int .i64 t, .int .i64 k, .int .i64 xa, .int .i64 xb, .int .i64 xc] 53)) (by simp)) (w2.heap.size + 1) _ _ _ [(⟨t, k, xa, xb, xc⟩ : RowV)] rfl rfl (reads_new (enc := RowV.cells) w2 53 ⟨t, k, xa, xb, xc⟩ rfl) (Nat.le_trans hdl.out (by decide)) (Nat.le_trans (Nat.mul_le_mul_right 40 hdl.out) (by decide)) ?_; intro v5 w5 hrow5 (hg5 : World.grownBy _ w5 (Value.slice A n cap).ownBlock) hat5; have HR5 := Lib.hid hrow5; have HG5 := Lib.hid hg5; have HA5 := Lib.hid hat5; obtain ⟨A5, n5, cap5, hv5⟩ : ∃ A n c, v5 = .slice A n c := (match hrow5.val with | ⟨_, _, hv⟩ => ⟨_, _, _, hv⟩); subst hv5; clear hrow5 hg5 hat5))
        have R2 := hnext.out (.slice A5 n5 cap5) w5 (Value.slice A n cap).ownBlock.toList (by rw [List.map_append, List.filter_append]; simpa [Hpu.out] using HR5.out) (((F2.out.alloc _).mono (by simp)).grown HG5.out (fun g hg => .inl (by simp [hg]))) (fun g hg => by simpa using hg) (fun g hg => by
          rcases HA5.out with h1 | h1
          · exact hown.out g (h1 ▸ hg)
          · rw [h1] at hg
            injection hg with hg
            rw [World.size_alloc] at hg
            have := F2.out.size
            have := hfw.size
            omega)
        go_roundw
        case rel => exact ⟨A5, n5, cap5, _, _, rfl, Lib.hid R2.1⟩
        case measure => exact R2.2
end Go.Proofs.YtjiikpmkedkbkaaGreat
namespace Go.Proofs.YtjiikpmkedkbkaaGreat
open Go.RowKit Go.Sort

def inTab (t : Int) (r : RowV) : Bool := decide (r.t = t)
def inRng (t c lo hi : Int) (r : RowV) : Bool := decide (r.t = t) && (decide (lo ≤ r.value c) && decide (r.value c ≤ hi))

theorem rowsC_any (r : RowV) (t : Int) (gt : Nat) (w : World) (h0 : w.cell? ⟨gt, 0, none⟩ = some (.int .i64 t)) :
    Calls Tryz.prog 55 #[r.val, .pointer (some ⟨gt, 0, none⟩)] w fun e w' => e = .returned (.bool (inTab t r)) ∧ Fr [] w w' := by
  obtain ⟨rt, k, x, y, z⟩ := r
  have hl := World.block_lt_of_cell? w _ h0
  have h1 : ∀ o, (w.alloc o).cell? ⟨gt, 0, none⟩ = some (.int .i64 t) := fun o => by rw [World.cell?_alloc_lt _ _ _ hl]; exact h0
  unfold RowV.val inTab
  dsimp only
  by_cases e : rt = t
  · have e' : (rt == t) = true := by simpa using e
    have E := Lib.hid e
    clear e
    go_enter Tryz.func55, Tryz.ntmps55
    go_wp2
    go_ret
    exact ⟨by rw [decide_eq_true E.out]; rfl, (Fr.refl _ _).alloc _⟩
  · have e' : (rt == t) = false := by simpa using e
    have E := Lib.hid e
    clear e
    go_enter Tryz.func55, Tryz.ntmps55
    go_wp2
    go_ret
    exact ⟨by rw [decide_eq_false E.out]; rfl, (Fr.refl _ _).alloc _⟩

theorem rangeC_any (r : RowV) (t c lo hi : Int) (gc gt gl gh : Nat) (w : World) (h0 : w.cell? ⟨gc, 0, none⟩ = some (.int .i64 c)) (h1 : w.cell? ⟨gt, 0, none⟩ = some (.int .i64 t)) (h2 : w.cell? ⟨gl, 0, none⟩ = some (.int .i64 lo)) (h3 : w.cell? ⟨gh, 0, none⟩ = some (.int .i64 hi)) :
    Calls Tryz.prog 53 #[r.val, .pointer (some ⟨gc, 0, none⟩), .pointer (some ⟨gt, 0, none⟩), .pointer (some ⟨gl, 0, none⟩), .pointer (some ⟨gh, 0, none⟩)] w fun e w' => e = .returned (.bool (inRng t c lo hi r)) ∧ Fr [] w w' := by
  obtain ⟨rt, k, x, y, z⟩ := r
  have l0 := World.block_lt_of_cell? w _ h0
  have l1 := World.block_lt_of_cell? w _ h1
  have l2 := World.block_lt_of_cell? w _ h2
  have l3 := World.block_lt_of_cell? w _ h3
  dsimp only at l0 l1 l2 l3
  have hb := Blk.new w 53 #[.int .i64 rt, .int .i64 k, .int .i64 x, .int .i64 y, .int .i64 z]
  have HV := Lib.hid (value5 rt k x y z c)
  have HE : Hid (inRng t c lo hi ⟨rt, k, x, y, z⟩ = (decide (rt = t) && (decide (lo ≤ RowV.value ⟨rt, k, x, y, z⟩ c) && decide (RowV.value ⟨rt, k, x, y, z⟩ c ≤ hi)))) := Lib.hid rfl
  generalize RowV.value ⟨rt, k, x, y, z⟩ c = v at *
  unfold RowV.val
  dsimp only
  have p0 : ∀ o, (w.alloc o).cell? ⟨gc, 0, none⟩ = some (.int .i64 c) := fun o => by rw [World.cell?_alloc_lt _ _ _ (by simpa using l0)]; exact h0
  have q1 : ∀ o o', ((w.alloc o).alloc o').cell? ⟨gt, 0, none⟩ = some (.int .i64 t) := fun o o' => by rw [World.cell?_alloc_lt _ _ _ (by simp; omega), World.cell?_alloc_lt _ _ _ (by simpa using l1)]; exact h1
  have q2 : ∀ o o', ((w.alloc o).alloc o').cell? ⟨gl, 0, none⟩ = some (.int .i64 lo) := fun o o' => by rw [World.cell?_alloc_lt _ _ _ (by simp; omega), World.cell?_alloc_lt _ _ _ (by simpa using l2)]; exact h2
  have q3 : ∀ o o', ((w.alloc o).alloc o').cell? ⟨gh, 0, none⟩ = some (.int .i64 hi) := fun o o' => by rw [World.cell?_alloc_lt _ _ _ (by simp; omega), World.cell?_alloc_lt _ _ _ (by simpa using l3)]; exact h3
  have F2 : ∀ o o', Fr [] w ((w.alloc o).alloc o') := fun o o' => ((Fr.refl _ _).alloc _).alloc _
  by_cases e : rt = t
  · have e' : (rt == t) = true := by simpa using e
    have HE2 : Hid (inRng t c lo hi ⟨rt, k, x, y, z⟩ = (decide (lo ≤ v) && decide (v ≤ hi))) := Lib.hid (by rw [HE.out]; simp [e])
    clear e HE
    by_cases e1 : lo ≤ v
    · by_cases e2 : v ≤ hi
      · have HE3 : Hid (inRng t c lo hi ⟨rt, k, x, y, z⟩ = true) := Lib.hid (by rw [HE2.out]; simp [e1, e2])
        go_enter Tryz.func53, Tryz.ntmps53
        go_wp2_with (go_at_call 54; refine (HV.out _).mono ?_; rintro e w' ⟨rfl, rfl⟩)
        go_ret
        exact ⟨by rw [HE3.out]; rfl, F2 _ _⟩
      · have HE3 : Hid (inRng t c lo hi ⟨rt, k, x, y, z⟩ = false) := Lib.hid (by rw [HE2.out]; simp [e2])
        go_enter Tryz.func53, Tryz.ntmps53
        go_wp2_with (go_at_call 54; refine (HV.out _).mono ?_; rintro e w' ⟨rfl, rfl⟩)
        go_ret
        refine ⟨?_, F2 _ _⟩
        rw [HE3.out]
        refine congrArg (fun b => Ending.returned (.bool b)) ?_
        (first | rfl | (simp; omega))
    · have HE3 : Hid (inRng t c lo hi ⟨rt, k, x, y, z⟩ = false) := Lib.hid (by rw [HE2.out]; simp [e1])
      go_enter Tryz.func53, Tryz.ntmps53
      go_wp2_with (go_at_call 54; refine (HV.out _).mono ?_; rintro e w' ⟨rfl, rfl⟩)
      go_ret
      exact ⟨by rw [HE3.out]; rfl, F2 _ _⟩
  · have e' : (rt == t) = false := by simpa using e
    have HE3 : Hid (inRng t c lo hi ⟨rt, k, x, y, z⟩ = false) := Lib.hid (by rw [HE.out]; simp [e])
    clear e
    go_enter Tryz.func53, Tryz.ntmps53
    go_wp2_with (go_at_call 54; refine (HV.out _).mono ?_; rintro e w' ⟨rfl, rfl⟩)
    go_ret
    exact ⟨by rw [HE3.out]; rfl, F2 _ _⟩

/-- What Rows and Range hand out. -/
structure Picked (s : Sm.Sta) (c : Int) (p : RowV → Bool) (R : List RowV) : Prop where
  perm : R.Perm ((s.M.map (·.2)).filter p)
  srt : R.Pairwise (fun x y => ¬ ahead2 c y x)

theorem srows_any (b m : Nat) (s : Sm.Sta) (t : Int) (w : World) (h : StaAt w b m s) :
    Calls Tryz.prog 30 #[.pointer (some ⟨b, 0, none⟩), .int .i64 t] w fun e w' => ∃ v R, e = .returned v ∧ RowsOwn w' v R ∧ Picked s 0 (inTab t) R ∧ Fr [] w w' ∧ ∀ g, v.ownBlock = some g → w.heap.size ≤ g := by
  have F0 : Fr [] w (w.alloc (.cells #[.int .i64 t] 3)) := (Fr.refl _ _).alloc _
  have hb := Blk.new w 3 #[.int .i64 t]
  have HC := Lib.hid (chosen_any b m s 0 55 #[.pointer (some ⟨w.heap.size, 0, none⟩)] (inTab t) (w.alloc (.cells #[.int .i64 t] 3)) (h.fr0 F0) (enters_of Tryz.func55 (by kernel_rfl) rfl)
    (fun W r hf => rowsC_any r t w.heap.size W ((hb.fr hf (by simp)).cell 0)))
  clear h
  go_enter Tryz.func30, Tryz.ntmps30
  go_wp2_with (go_at_call 52; refine HC.out.mono ?_; rintro e w' ⟨v, R, rfl, hr, hp, hs, hf, ho⟩; have HR := Lib.hid hr; have HPS := Lib.hid (And.intro hp hs); have HF := Lib.hid hf; have HO := Lib.hid ho; clear hr hp hs hf ho)
  go_ret
  exact ⟨v, R, rfl, HR.out, ⟨HPS.out.1, HPS.out.2⟩, F0.trans HF.out, fun g hg => by have := HO.out g hg; simp at this; omega⟩

theorem srange_bad (s : Value) (t c lo hi : Int) (w : World) (h : c < 0 ∨ 4 ≤ c) :
    Calls Tryz.prog 29 #[s, .int .i64 t, .int .i64 c, .int .i64 lo, .int .i64 hi] w fun e w' => e = .returned (.slice none 0 0) ∧ Fr [] w w' := by
  rcases h with h | h
  all_goals
    go_enter Tryz.func29, Tryz.ntmps29
    go_wp2
    go_ret
    exact ⟨rfl, ((((Fr.refl _ _).alloc _).alloc _).alloc _).alloc _⟩
set_option maxHeartbeats 2000000 in
theorem srange_any (b m : Nat) (s : Sm.Sta) (t c lo hi : Int) (w : World) (h : StaAt w b m s) (h0 : 0 ≤ c) (h4 : c < 4) :
    Calls Tryz.prog 29 #[.pointer (some ⟨b, 0, none⟩), .int .i64 t, .int .i64 c, .int .i64 lo, .int .i64 hi] w fun e w' => ∃ v R, e = .returned v ∧ RowsOwn w' v R ∧ Picked s c (inRng t c lo hi) R ∧ Fr [] w w' ∧ ∀ g, v.ownBlock = some g → w.heap.size ≤ g := by
  have hb0 := (((Blk.new w 3 #[.int .i64 t]).alloc (.cells #[.int .i64 c] 3)).alloc (.cells #[.int .i64 lo] 3)).alloc (.cells #[.int .i64 hi] 3)
  have hb1 := ((Blk.new (w.alloc (.cells #[.int .i64 t] 3)) 3 #[.int .i64 c]).alloc (.cells #[.int .i64 lo] 3)).alloc (.cells #[.int .i64 hi] 3)
  have hb2 := (Blk.new ((w.alloc (.cells #[.int .i64 t] 3)).alloc (.cells #[.int .i64 c] 3)) 3 #[.int .i64 lo]).alloc (.cells #[.int .i64 hi] 3)
  have hb3 := Blk.new (((w.alloc (.cells #[.int .i64 t] 3)).alloc (.cells #[.int .i64 c] 3)).alloc (.cells #[.int .i64 lo] 3)) 3 #[.int .i64 hi]
  have F0 : Fr [] w ((((w.alloc (.cells #[.int .i64 t] 3)).alloc (.cells #[.int .i64 c] 3)).alloc (.cells #[.int .i64 lo] 3)).alloc (.cells #[.int .i64 hi] 3)) := ((((Fr.refl _ _).alloc _).alloc _).alloc _).alloc _
  simp only [World.size_alloc] at hb1 hb2 hb3
  have HC := Lib.hid (chosen_any b m s c 53 #[.pointer (some ⟨w.heap.size + 1, 0, none⟩), .pointer (some ⟨w.heap.size, 0, none⟩), .pointer (some ⟨w.heap.size + 1 + 1, 0, none⟩), .pointer (some ⟨w.heap.size + 1 + 1 + 1, 0, none⟩)] (inRng t c lo hi) _ (h.fr0 F0) (enters_of Tryz.func53 (by kernel_rfl) rfl)
    (fun W r hf => rangeC_any r t c lo hi (w.heap.size + 1) w.heap.size (w.heap.size + 1 + 1) (w.heap.size + 1 + 1 + 1) W ((hb1.fr hf (by simp)).cell 0) ((hb0.fr hf (by simp)).cell 0) ((hb2.fr hf (by simp)).cell 0) ((hb3.fr hf (by simp)).cell 0)))
  clear h hb0 hb1 hb2 hb3
  go_enter Tryz.func29, Tryz.ntmps29
  go_wp2_with fail
  refine HC.out.mono ?_
  rintro e w' ⟨v, R, rfl, hr, hp, hs, hf, ho⟩
  have HR := Lib.hid hr
  have HPS := Lib.hid (And.intro hp hs)
  have HF := Lib.hid hf
  have HO := Lib.hid ho
  clear hr hp hs hf ho
  go_wp2_with fail
  go_ret
  exact ⟨v, R, rfl, HR.out, ⟨HPS.out.1, HPS.out.2⟩, F0.trans HF.out, fun g hg => by have := HO.out g hg; simp at this; omega⟩
end Go.Proofs.YtjiikpmkedkbkaaGreat
namespace Go.Proofs.YtjiikpmkedkbkaaGreat
open Go.RowKit

def encI (x : Int) : List Value := [.int .i64 x]
theorem encI_len (x : Int) : (encI x).length = 1 := rfl
theorem encI_one (x : Int) : ∀ u ∈ encI x, u.oneCell' = true := by
  intro u hu
  simp only [encI, List.mem_singleton] at hu
  subst hu
  rfl
theorem etI : ∃ i z, ET Tryz.prog 96 3 1 8 i z := by
  have h : (Tryz.prog.info? 3).map (fun i => (i.zero, i.size, i.bytes)) = some (some (.int .i64 0), 1, 8) := by kernel_rfl
  obtain ⟨i0, hi, hz0, hz1, hz2⟩ := info_parts h
  exact ⟨i0, _, Tryz.underlying96, hi, hz0, hz1, hz2, rfl, by decide⟩
/-- Integers at an address. -/
def IntRow (w : World) (A : Option Addr) (xs : List Int) : Prop := 0 < xs.length → ∃ b off, A = some ⟨b, off, none⟩ ∧ b < w.heap.size ∧ ∀ k (h : k < xs.length), w.cell? ⟨b, off + k, none⟩ = some (.int .i64 xs[k])
theorem IntRow.fr0 {w w' : World} {A : Option Addr} {xs : List Int} (h : IntRow w A xs) (hf : Fr [] w w') : IntRow w' A xs := by
  intro h0
  obtain ⟨b, off, e, hb, hc⟩ := h h0
  exact ⟨b, off, e, Nat.lt_of_lt_of_le hb hf.size, fun k hk => by rw [hf.cell (p := ⟨b, off + k, none⟩) hb (by simp)]; exact hc k hk⟩
theorem IntRow.of_own {w : World} {A : Option Addr} {n cap : Nat} {xs : List Int} (h : OwnL 3 1 encI w (.slice A n cap) xs) : IntRow w A xs ∧ n = xs.length := by
  obtain ⟨h1, h2⟩ := h.at1 encI_len
  refine ⟨fun h0 => ?_, h2⟩
  obtain ⟨b, off, e, hb, hc⟩ := h1 h0
  refine ⟨b, off, e, hb, fun k hk => ?_⟩
  have h3 := hc k hk 0 (by decide)
  rw [Nat.mul_one, Nat.add_zero] at h3
  exact h3
/-- What a fold does to a number and a flag. -/
def foldS {X : Type} (g : Int → Bool → X → Int × Bool) (l : List X) (s : Int × Bool) : Int × Bool := l.foldl (fun s x => g s.1 s.2 x) s
theorem foldS_take {X : Type} (g : Int → Bool → X → Int × Bool) (l : List X) (s : Int × Bool) {k : Nat} (hk : k < l.length) {n : Int} {f : Bool} (h : foldS g (l.take k) s = (n, f)) : foldS g (l.take (k + 1)) s = g n f l[k] := by
  unfold foldS at *
  rw [List.take_succ_eq_append_getElem hk, List.foldl_append, h]
  rfl
/-- Between two rounds. -/
structure FoRel (w wr : World) (v : Value) (n : Int) (f : Bool) : Prop where
  box : Blk wr w.heap.size 34 #[v, .int .i64 n, .bool f]
  res : Blk wr (w.heap.size + 1) 34 #[.slice none 0 0, .int .i64 0, .bool false]
  fr : Fr [] w wr
theorem FoRel.new (w : World) (v : Value) (n : Int) (f : Bool) : FoRel w ((w.alloc (.cells #[v, .int .i64 n, .bool f] 34)).alloc (.cells #[.slice none 0 0, .int .i64 0, .bool false] 34)) v n f := by
  refine ⟨(Blk.new w _ _).alloc _, ?_, ((Fr.refl _ _).alloc _).alloc _⟩
  have h := Blk.new (w.alloc (.cells #[v, .int .i64 n, .bool f] 34)) 34 #[.slice none 0 0, .int .i64 0, .bool false]
  rw [World.size_alloc] at h
  exact h
theorem FoRel.fr0 {w wr w' : World} {v : Value} {n : Int} {f : Bool} (h : FoRel w wr v n f) (hf : Fr [] wr w') : FoRel w w' v n f := ⟨h.box.fr hf (by simp), h.res.fr hf (by simp), h.fr.trans hf⟩
theorem FoRel.put {w w2 : World} {v : Value} {n : Int} {f : Bool} (h : FoRel w w2 v n f) (n2 : Int) (f2 : Bool) :
    FoRel w (((w2.setCell ⟨w.heap.size, 0, none⟩ v).setCell ⟨w.heap.size, 1, none⟩ (.int .i64 n2)).setCell ⟨w.heap.size, 2, none⟩ (.bool f2)) v n2 f2 := by
  have hf : Fr [w.heap.size] w2 (((w2.setCell ⟨w.heap.size, 0, none⟩ v).setCell ⟨w.heap.size, 1, none⟩ (.int .i64 n2)).setCell ⟨w.heap.size, 2, none⟩ (.bool f2)) := (((Fr.refl _ _).setCell (.inl (by simp)) _).setCell (.inl (by simp)) _).setCell (.inl (by simp)) _
  exact ⟨((h.box.set_ 0 _).set_ 1 _).set_ 2 _, h.res.fr hf (by simp), h.fr.trans' hf (fun x hx => .inr (by simp only [List.mem_singleton] at hx; omega))⟩
theorem FoRel.fin {w w2 : World} {v : Value} {n : Int} {f : Bool} (h : FoRel w w2 v n f) (v2 : Value) (n2 : Int) (f2 : Bool) :
    ∃ w3, ((w2.setCell ⟨w.heap.size + 1, 0, none⟩ v2).setCell ⟨w.heap.size + 1, 1, none⟩ (.int .i64 n2)).setCell ⟨w.heap.size + 1, 2, none⟩ (.bool f2) = w3 ∧
      w3.cell? ⟨w.heap.size + 1, 0, none⟩ = some v2 ∧ w3.cell? ⟨w.heap.size + 1, 1, none⟩ = some (.int .i64 n2) ∧ w3.cell? ⟨w.heap.size + 1, 2, none⟩ = some (.bool f2) ∧ Fr [] w w3 := by
  have hq := ((h.res.set_ 0 v2).set_ 1 (.int .i64 n2)).set_ 2 (.bool f2)
  exact ⟨_, rfl, hq.cell 0, hq.cell 1, hq.cell 2, ((h.fr.setCell (.inr (Nat.le_succ _)) _).setCell (.inr (Nat.le_succ _)) _).setCell (.inr (Nat.le_succ _)) _⟩
set_option maxRecDepth 100000 in
set_option maxHeartbeats 4000000 in
theorem foldI_any (fn : Nat) (cb : Array Value) (g : Int → Bool → Int → Int × Bool) (A : Option Addr) (n cap : Nat) (xs : List Int) (B : Option Addr) (nb cb' : Nat) (m : Int) (f : Bool) (w : World) (hx : IntRow w A xs) (hn : n = xs.length) (hn63 : n ≤ 4000)
    (eg : ∀ args w, (callFunc fn args).run Tryz.prog w = .ok (.enter fn args) w)
    (hg : ∀ (W : World) (x m : Int) (f : Bool), Fr [] w W → Calls Tryz.prog fn (#[.agg #[.slice B nb cb', .int .i64 m, .bool f], .int .i64 x] ++ cb) W fun e w' => e = .returned (.agg #[.slice B nb cb', .int .i64 (g m f x).1, .bool (g m f x).2]) ∧ Fr [] W w') :
    Calls Tryz.prog 45 #[.slice A n cap, .agg #[.slice B nb cb', .int .i64 m, .bool f], .func (.func fn) #[] cb] w fun e w' => e = .returned (.agg #[.slice B nb cb', .int .i64 (foldS g xs (m, f)).1, .bool (foldS g xs (m, f)).2]) ∧ Fr [] w w' := by
  have HG := Lib.hid hg
  have HX := Lib.hid hx
  have HN := Lib.hid hn
  have R0 := Lib.hid (FoRel.new w (.slice B nb cb') m f)
  clear hg hx hn
  go_enter Tryz.func45, Tryz.ntmps45
  go_wp2_with fail
  go_loopw [11] (fun i wr => ∃ (k : Nat) (n1 : Int) (f1 : Bool), k ≤ n ∧ i = .int .i64 k ∧ Hid (FoRel w wr (.slice B nb cb') n1 f1) ∧ Hid (foldS g (xs.take k) (m, f) = (n1, f1))) (fun i _ => n - (intOf i).toNat)
  case atStart => exact ⟨0, m, f, Nat.zero_le _, rfl, R0, Lib.hid rfl⟩
  case round =>
    clear R0
    obtain ⟨k, n1, f1, hk, rfl, R, HS⟩ := hrel
    have b0 : wr.cell? ⟨w.heap.size, 0, none⟩ = some (.slice B nb cb') := R.out.box.cell 0
    have b1 : wr.cell? ⟨w.heap.size, 1, none⟩ = some (.int .i64 n1) := R.out.box.cell 1
    have b2 : wr.cell? ⟨w.heap.size, 2, none⟩ = some (.bool f1) := R.out.box.cell 2
    by_cases hlt : k < n
    · obtain ⟨b, off, rfl, hb, hc⟩ := (HX.out.fr0 R.out.fr) (by rw [← HN.out]; omega)
      have hkx : k < xs.length := by rw [← HN.out]; exact hlt
      have c0 := hc k hkx
      have HS' := Lib.hid (foldS_take g xs (m, f) hkx HS.out)
      generalize xs[k] = x at c0 HS'
      clear hb hc
      have HC := Lib.hid (HG.out wr x n1 f1 R.out.fr)
      obtain ⟨n2, f2, hnf⟩ : ∃ n2 f2, g n1 f1 x = (n2, f2) := ⟨_, _, rfl⟩
      rw [hnf] at HC HS'
      dsimp only at HC
      clear hnf
      go_wp2_with (go_at_fn fn; refine HC.out.mono ?_; rintro e w2 ⟨rfl, hf2⟩; have R2 := Lib.hid (R.out.fr0 hf2); have z0 := R2.out.box.frozen 0; have z1 := R2.out.box.frozen 1; have z2 := R2.out.box.frozen 2; have y0 : w2.cell? ⟨w.heap.size, 0, none⟩ = some (.slice B nb cb') := R2.out.box.cell 0; have y1 : w2.cell? ⟨w.heap.size, 1, none⟩ = some (.int .i64 n1) := R2.out.box.cell 1; have y2 : w2.cell? ⟨w.heap.size, 2, none⟩ = some (.bool f1) := R2.out.box.cell 2; clear hf2)
      go_roundw
      case rel => exact ⟨k + 1, n2, f2, by omega, by go_num, Lib.hid (R2.out.put n2 f2), HS'⟩
      case measure => simp [intOf]; omega
    · obtain rfl : k = n := by omega
      have hres : foldS g xs (m, f) = (n1, f1) := by
        have h := HS.out
        rwa [HN.out, List.take_length] at h
      have HRS := Lib.hid hres
      have z0 := R.out.res.frozen 0
      have z1 := R.out.res.frozen 1
      have z2 := R.out.res.frozen 2
      have r0 : wr.cell? ⟨w.heap.size + 1, 0, none⟩ = some (.slice none 0 0) := R.out.res.cell 0
      have r1 : wr.cell? ⟨w.heap.size + 1, 1, none⟩ = some (.int .i64 0) := R.out.res.cell 1
      have r2 : wr.cell? ⟨w.heap.size + 1, 2, none⟩ = some (.bool false) := R.out.res.cell 2
      have FIN := Lib.hid (R.out.fin (.slice B nb cb') n1 f1)
      clear hres
      go_wp2_with fail
      obtain ⟨w3, e3, q0, q1, q2, f3⟩ := FIN.out
      rw [e3]
      refine bodyPost_ret (v := .agg #[.slice B nb cb', .int .i64 n1, .bool f1]) (by simp [results, Tryz.results45, go_sem, q0, q1, q2]) rfl ⟨by rw [HRS.out], f3⟩
set_option maxRecDepth 100000 in
set_option maxHeartbeats 4000000 in
theorem foldR_any (fn : Nat) (cb : Array Value) (g : Int → Bool → RowV → Int × Bool) (A : Option Addr) (n cap : Nat) (xs : List RowV) (B : Option Addr) (nb cb' : Nat) (m : Int) (f : Bool) (w : World) (hx : RowsAt w A xs) (hn : n = xs.length) (hn63 : n ≤ 4000)
    (eg : ∀ args w, (callFunc fn args).run Tryz.prog w = .ok (.enter fn args) w)
    (hg : ∀ (W : World) (x : RowV) (m : Int) (f : Bool), Fr [] w W → Calls Tryz.prog fn (#[.agg #[.slice B nb cb', .int .i64 m, .bool f], x.val] ++ cb) W fun e w' => e = .returned (.agg #[.slice B nb cb', .int .i64 (g m f x).1, .bool (g m f x).2]) ∧ Fr [] W w') :
    Calls Tryz.prog 43 #[.slice A n cap, .agg #[.slice B nb cb', .int .i64 m, .bool f], .func (.func fn) #[] cb] w fun e w' => e = .returned (.agg #[.slice B nb cb', .int .i64 (foldS g xs (m, f)).1, .bool (foldS g xs (m, f)).2]) ∧ Fr [] w w' := by
  have HG := Lib.hid hg
  have HX := Lib.hid hx
  have HN := Lib.hid hn
  have R0 := Lib.hid (FoRel.new w (.slice B nb cb') m f)
  clear hg hx hn
  go_enter Tryz.func43, Tryz.ntmps43
  go_wp2_with fail
  go_loopw [11] (fun i wr => ∃ (k : Nat) (n1 : Int) (f1 : Bool), k ≤ n ∧ i = .int .i64 k ∧ Hid (FoRel w wr (.slice B nb cb') n1 f1) ∧ Hid (foldS g (xs.take k) (m, f) = (n1, f1))) (fun i _ => n - (intOf i).toNat)
  case atStart => exact ⟨0, m, f, Nat.zero_le _, rfl, R0, Lib.hid rfl⟩
  case round =>
    clear R0
    obtain ⟨k, n1, f1, hk, rfl, R, HS⟩ := hrel
    have b0 : wr.cell? ⟨w.heap.size, 0, none⟩ = some (.slice B nb cb') := R.out.box.cell 0
    have b1 : wr.cell? ⟨w.heap.size, 1, none⟩ = some (.int .i64 n1) := R.out.box.cell 1
    have b2 : wr.cell? ⟨w.heap.size, 2, none⟩ = some (.bool f1) := R.out.box.cell 2
    by_cases hlt : k < n
    · obtain ⟨b, off, rfl, hb, hc⟩ := (HX.out.fr R.out.fr (by simp)) (by rw [← HN.out]; omega)
      have hkx : k < xs.length := by rw [← HN.out]; exact hlt
      have c0 := hc k hkx 0 (by decide)
      have c1 := hc k hkx 1 (by decide)
      have c2 := hc k hkx 2 (by decide)
      have c3 := hc k hkx 3 (by decide)
      have c4 := hc k hkx 4 (by decide)
      have HS' := Lib.hid (foldS_take g xs (m, f) hkx HS.out)
      generalize xs[k] = x at c0 c1 c2 c3 c4 HS'
      obtain ⟨rt, rk, rx, ry, rz⟩ := x
      have d0 : wr.cell? ⟨b, off + k * 5, none⟩ = some (.int .i64 rt) := c0
      have d1 : wr.cell? ⟨b, off + k * 5 + 1, none⟩ = some (.int .i64 rk) := c1
      have d2 : wr.cell? ⟨b, off + k * 5 + 2, none⟩ = some (.int .i64 rx) := c2
      have d3 : wr.cell? ⟨b, off + k * 5 + 3, none⟩ = some (.int .i64 ry) := c3
      have d4 : wr.cell? ⟨b, off + k * 5 + 4, none⟩ = some (.int .i64 rz) := c4
      clear c0 c1 c2 c3 c4
      clear hb hc
      have RA := Lib.hid (R.out.fr0 ((Fr.refl [] wr).alloc (.cells #[.int .i64 rt, .int .i64 rk, .int .i64 rx, .int .i64 ry, .int .i64 rz] 53)))
      have p0 : (wr.alloc (.cells #[.int .i64 rt, .int .i64 rk, .int .i64 rx, .int .i64 ry, .int .i64 rz] 53)).cell? ⟨w.heap.size, 0, none⟩ = some (.slice B nb cb') := RA.out.box.cell 0
      have p1 : (wr.alloc (.cells #[.int .i64 rt, .int .i64 rk, .int .i64 rx, .int .i64 ry, .int .i64 rz] 53)).cell? ⟨w.heap.size, 1, none⟩ = some (.int .i64 n1) := RA.out.box.cell 1
      have p2 : (wr.alloc (.cells #[.int .i64 rt, .int .i64 rk, .int .i64 rx, .int .i64 ry, .int .i64 rz] 53)).cell? ⟨w.heap.size, 2, none⟩ = some (.bool f1) := RA.out.box.cell 2
      have HC := Lib.hid (HG.out _ ⟨rt, rk, rx, ry, rz⟩ n1 f1 RA.out.fr)
      obtain ⟨n2, f2, hnf⟩ : ∃ n2 f2, g n1 f1 ⟨rt, rk, rx, ry, rz⟩ = (n2, f2) := ⟨_, _, rfl⟩
      rw [hnf] at HC HS'
      dsimp only at HC
      clear hnf
      go_wp2_with (go_at_fn fn; refine HC.out.mono ?_; rintro e w2 ⟨rfl, hf2⟩; have R2 := Lib.hid (RA.out.fr0 hf2); have z0 := R2.out.box.frozen 0; have z1 := R2.out.box.frozen 1; have z2 := R2.out.box.frozen 2; have y0 : w2.cell? ⟨w.heap.size, 0, none⟩ = some (.slice B nb cb') := R2.out.box.cell 0; have y1 : w2.cell? ⟨w.heap.size, 1, none⟩ = some (.int .i64 n1) := R2.out.box.cell 1; have y2 : w2.cell? ⟨w.heap.size, 2, none⟩ = some (.bool f1) := R2.out.box.cell 2; clear hf2)
      go_roundw
      case rel => exact ⟨k + 1, n2, f2, by omega, by go_num, Lib.hid (R2.out.put n2 f2), HS'⟩
      case measure => simp [intOf]; omega
    · obtain rfl : k = n := by omega
      have hres : foldS g xs (m, f) = (n1, f1) := by
        have h := HS.out
        rwa [HN.out, List.take_length] at h
      have HRS := Lib.hid hres
      have z0 := R.out.res.frozen 0
      have z1 := R.out.res.frozen 1
      have z2 := R.out.res.frozen 2
      have r0 : wr.cell? ⟨w.heap.size + 1, 0, none⟩ = some (.slice none 0 0) := R.out.res.cell 0
      have r1 : wr.cell? ⟨w.heap.size + 1, 1, none⟩ = some (.int .i64 0) := R.out.res.cell 1
      have r2 : wr.cell? ⟨w.heap.size + 1, 2, none⟩ = some (.bool false) := R.out.res.cell 2
      have FIN := Lib.hid (R.out.fin (.slice B nb cb') n1 f1)
      clear hres
      go_wp2_with fail
      obtain ⟨w3, e3, q0, q1, q2, f3⟩ := FIN.out
      rw [e3]
      refine bodyPost_ret (v := .agg #[.slice B nb cb', .int .i64 n1, .bool f1]) (by simp [results, Tryz.results43, go_sem, q0, q1, q2]) rfl ⟨by rw [HRS.out], f3⟩
end Go.Proofs.YtjiikpmkedkbkaaGreat
namespace Go.Proofs.YtjiikpmkedkbkaaGreat
open Go.RowKit

/-- A result in memory. -/
def RsAt (w : World) (g : Nat) (v : Value) (n : Int) (f : Bool) : Prop := Blk w g 34 #[v, .int .i64 n, .bool f]
section
variable {w w' : World} {g : Nat} {v : Value} {n : Int} {f : Bool}
theorem RsAt.c0 (h : RsAt w g v n f) : w.cell? ⟨g, 0, none⟩ = some v := Blk.cell h 0
theorem RsAt.c1 (h : RsAt w g v n f) : w.cell? ⟨g, 1, none⟩ = some (.int .i64 n) := Blk.cell h 1
theorem RsAt.c2 (h : RsAt w g v n f) : w.cell? ⟨g, 2, none⟩ = some (.bool f) := Blk.cell h 2
theorem RsAt.z (h : RsAt w g v n f) (k : Nat) : w.frozen? ⟨g, k, none⟩ = false := Blk.frozen h k
theorem RsAt.new (w : World) (v : Value) (n : Int) (f : Bool) : RsAt (w.alloc (.cells #[v, .int .i64 n, .bool f] 34)) w.heap.size v n f := Blk.new _ _ _
theorem RsAt.fr {S : List Nat} (h : RsAt w g v n f) (hf : Fr S w w') (hs : g ∉ S) : RsAt w' g v n f := Blk.fr h hf hs
theorem RsAt.fill (h : RsAt w g v n f) (v2 : Value) (n2 : Int) (f2 : Bool) :
    ∃ w3, ((w.setCell ⟨g, 0, none⟩ v2).setCell ⟨g, 1, none⟩ (.int .i64 n2)).setCell ⟨g, 2, none⟩ (.bool f2) = w3 ∧ RsAt w3 g v2 n2 f2 ∧ Fr [g] w w3 :=
  ⟨_, rfl, ((Blk.set_ h 0 v2).set_ 1 (.int .i64 n2)).set_ 2 (.bool f2), (((Fr.refl [g] w).setCell (.inl (by simp)) _).setCell (.inl (by simp)) _).setCell (.inl (by simp)) _⟩
end
set_option maxRecDepth 100000 in
/-- A sum's closure. -/
theorem plus_any (B : Option Addr) (nb cb : Nat) (m x : Int) (f : Bool) (w : World) :
    Calls Tryz.prog 47 #[.agg #[.slice B nb cb, .int .i64 m, .bool f], .int .i64 x] w fun e w' => e = .returned (.agg #[.slice B nb cb, .int .i64 (wrap64 (m + x)), .bool f]) ∧ Fr [] w w' := by
  have hb := (RsAt.new w (.slice B nb cb) m f).fr ((Fr.refl [] _).alloc (.cells #[.slice none 0 0, .int .i64 0, .bool false] 34)) (by simp)
  have hr := RsAt.new (w.alloc (.cells #[.slice B nb cb, .int .i64 m, .bool f] 34)) (.slice none 0 0) 0 false
  rw [World.size_alloc] at hr
  have F0 := Lib.hid (((Fr.refl [] w).alloc (.cells #[.slice B nb cb, .int .i64 m, .bool f] 34)).alloc (.cells #[.slice none 0 0, .int .i64 0, .bool false] 34))
  go_enter Tryz.func47, Tryz.ntmps47
  go_upto_region 1 with (fail)
  generalize (w.alloc (.cells #[.slice B nb cb, .int .i64 m, .bool f] 34)).alloc (.cells #[.slice none 0 0, .int .i64 0, .bool false] 34) = w2 at *
  have b0 := hb.c0
  have b1 := hb.c1
  have b2 := hb.c2
  have zb := hb.z 1
  have r0 := hr.c0
  have r1 := hr.c1
  have r2 := hr.c2
  have z0 := hr.z 0
  have z1 := hr.z 1
  have z2 := hr.z 2
  have HR := Lib.hid hr
  clear hb hr
  go_wp2_with fail
  have hf1 : Fr [w.heap.size] w2 (w2.setCell ⟨w.heap.size, 1, none⟩ (.int .i64 (wrap64 (m + x)))) := (Fr.refl _ _).setCell (.inl (by simp)) _
  obtain ⟨w3, e3, h3, f3⟩ := (HR.out.fr hf1 (by simp)).fill (.slice B nb cb) (wrap64 (m + x)) f
  have q0 := h3.c0
  have q1 := h3.c1
  have q2 := h3.c2
  rw [e3]
  exact bodyPost_ret (v := .agg #[.slice B nb cb, .int .i64 (wrap64 (m + x)), .bool f]) (by simp [results, Tryz.results47, go_sem, q0, q1, q2]) rfl ⟨rfl, (F0.out.trans' hf1 (by simp)).trans' f3 (by simp)⟩
set_option maxRecDepth 100000 in
/-- A count's closure. -/
theorem count_any (B : Option Addr) (nb cb : Nat) (m : Int) (r : RowV) (f : Bool) (w : World) :
    Calls Tryz.prog 44 #[.agg #[.slice B nb cb, .int .i64 m, .bool f], r.val] w fun e w' => e = .returned (.agg #[.slice B nb cb, .int .i64 (wrap64 (m + 1)), .bool f]) ∧ Fr [] w w' := by
  have hb := (RsAt.new w (.slice B nb cb) m f).fr (((Fr.refl [] _).alloc (.cells #[.int .i64 r.t, .int .i64 r.k, .int .i64 r.x, .int .i64 r.y, .int .i64 r.z] 53)).alloc (.cells #[.slice none 0 0, .int .i64 0, .bool false] 34)) (by simp)
  have hr := RsAt.new ((w.alloc (.cells #[.slice B nb cb, .int .i64 m, .bool f] 34)).alloc (.cells #[.int .i64 r.t, .int .i64 r.k, .int .i64 r.x, .int .i64 r.y, .int .i64 r.z] 53)) (.slice none 0 0) 0 false
  rw [World.size_alloc, World.size_alloc] at hr
  have F0 := Lib.hid ((((Fr.refl [] w).alloc (.cells #[.slice B nb cb, .int .i64 m, .bool f] 34)).alloc (.cells #[.int .i64 r.t, .int .i64 r.k, .int .i64 r.x, .int .i64 r.y, .int .i64 r.z] 53)).alloc (.cells #[.slice none 0 0, .int .i64 0, .bool false] 34))
  go_enter Tryz.func44, Tryz.ntmps44
  go_upto_region 1 with (fail)
  generalize ((w.alloc (.cells #[.slice B nb cb, .int .i64 m, .bool f] 34)).alloc (.cells #[.int .i64 r.t, .int .i64 r.k, .int .i64 r.x, .int .i64 r.y, .int .i64 r.z] 53)).alloc (.cells #[.slice none 0 0, .int .i64 0, .bool false] 34) = w2 at *
  have b0 := hb.c0
  have b1 := hb.c1
  have b2 := hb.c2
  have zb := hb.z 1
  have r0 := hr.c0
  have r1 := hr.c1
  have r2 := hr.c2
  have z0 := hr.z 0
  have z1 := hr.z 1
  have z2 := hr.z 2
  have HR := Lib.hid hr
  clear hb hr
  go_wp2_with fail
  have hf1 : Fr [w.heap.size] w2 (w2.setCell ⟨w.heap.size, 1, none⟩ (.int .i64 (wrap64 (m + 1)))) := (Fr.refl _ _).setCell (.inl (by simp)) _
  obtain ⟨w3, e3, h3, f3⟩ := (HR.out.fr hf1 (by simp; omega)).fill (.slice B nb cb) (wrap64 (m + 1)) f
  have q0 := h3.c0
  have q1 := h3.c1
  have q2 := h3.c2
  rw [e3]
  exact bodyPost_ret (v := .agg #[.slice B nb cb, .int .i64 (wrap64 (m + 1)), .bool f]) (by simp [results, Tryz.results44, go_sem, q0, q1, q2]) rfl ⟨rfl, (F0.out.trans' hf1 (by simp)).trans' f3 (by simp; omega)⟩
theorem less_any (a b : Int) (w : World) : Calls Tryz.prog 49 #[.int .i64 a, .int .i64 b] w fun e w' => e = .returned (.bool (decide (a < b))) ∧ w = w' := by
  go_enter Tryz.func49, Tryz.ntmps49
  go_wp2
  go_ret
  exact ⟨rfl, rfl⟩
theorem more_any (a b : Int) (w : World) : Calls Tryz.prog 50 #[.int .i64 a, .int .i64 b] w fun e w' => e = .returned (.bool (decide (b < a))) ∧ w = w' := by
  go_enter Tryz.func50, Tryz.ntmps50
  go_wp2
  go_ret
  exact ⟨rfl, rfl⟩
set_option maxRecDepth 100000 in
theorem extreme_any (lf : Nat) (w : World) : Calls Tryz.prog 48 #[.func (.func lf) #[] #[]] w fun e w' => e = .returned (.func (.func 75) #[] #[.pointer (some ⟨w.heap.size, 0, none⟩)]) ∧ Blk w' w.heap.size 100 #[.func (.func lf) #[] #[]] ∧ Fr [] w w' := by
  go_enter Tryz.func48, Tryz.ntmps48
  go_wp2
  go_ret
  exact ⟨rfl, Blk.new _ _ _, (Fr.refl _ _).alloc _⟩
set_option maxRecDepth 100000 in
/-- The least (by L) of what has come. -/
theorem extreme1_any (lf g : Nat) (L : Int → Int → Bool) (B : Option Addr) (nb cb : Nat) (m x : Int) (f : Bool) (w : World) (hg : Blk w g 100 #[.func (.func lf) #[] #[]]) (eg : ∀ args w, (callFunc lf args).run Tryz.prog w = .ok (.enter lf args) w)
    (hl : ∀ (a b : Int) (w : World), Calls Tryz.prog lf #[.int .i64 a, .int .i64 b] w fun e w' => e = .returned (.bool (L a b)) ∧ w = w') :
    Calls Tryz.prog 75 #[.agg #[.slice B nb cb, .int .i64 m, .bool f], .int .i64 x, .pointer (some ⟨g, 0, none⟩)] w fun e w' => e = .returned (.agg #[.slice B nb cb, .int .i64 (if f = false ∨ L x m = true then x else m), .bool true]) ∧ Fr [] w w' := by
  have HL := Lib.hid hl
  clear hl
  obtain ⟨y, HY⟩ : ∃ y, Hid ((if f = false ∨ L x m = true then x else m) = y) := ⟨_, Lib.hid rfl⟩
  rw [HY.out]
  have hb := (RsAt.new w (.slice B nb cb) m f).fr ((Fr.refl [] _).alloc (.cells #[.slice none 0 0, .int .i64 0, .bool false] 34)) (by simp)
  have hr := RsAt.new (w.alloc (.cells #[.slice B nb cb, .int .i64 m, .bool f] 34)) (.slice none 0 0) 0 false
  rw [World.size_alloc] at hr
  have F0 := Lib.hid (((Fr.refl [] w).alloc (.cells #[.slice B nb cb, .int .i64 m, .bool f] 34)).alloc (.cells #[.slice none 0 0, .int .i64 0, .bool false] 34))
  have hg2 := hg.fr F0.out (by simp)
  go_enter Tryz.func75, Tryz.ntmps75
  go_upto_region 1 with (fail)
  generalize (w.alloc (.cells #[.slice B nb cb, .int .i64 m, .bool f] 34)).alloc (.cells #[.slice none 0 0, .int .i64 0, .bool false] 34) = w2 at *
  have b0 := hb.c0
  have b1 := hb.c1
  have b2 := hb.c2
  have zb1 := hb.z 1
  have zb2 := hb.z 2
  have r0 := hr.c0
  have r1 := hr.c1
  have r2 := hr.c2
  have z0 := hr.z 0
  have z1 := hr.z 1
  have z2 := hr.z 2
  have gc : w2.cell? ⟨g, 0, none⟩ = some (.func (.func lf) #[] #[]) := hg2.cell 0
  have HR := Lib.hid hr
  clear hb hr hg hg2
  have hkeep : Hid (∀ _ : Int, ∃ w3, ((((w2.setCell ⟨w.heap.size, 2, none⟩ (.bool true)).setCell ⟨w.heap.size + 1, 0, none⟩ (.slice B nb cb)).setCell ⟨w.heap.size + 1, 1, none⟩ (.int .i64 m)).setCell ⟨w.heap.size + 1, 2, none⟩ (.bool true)) = w3 ∧ RsAt w3 (w.heap.size + 1) (.slice B nb cb) m true ∧ Fr [] w w3) := Lib.hid (fun _ => by
    have hf1 : Fr [w.heap.size] w2 (w2.setCell ⟨w.heap.size, 2, none⟩ (.bool true)) := (Fr.refl _ _).setCell (.inl (by simp)) _
    obtain ⟨w3, e3, h3, f3⟩ := (HR.out.fr hf1 (by simp)).fill (.slice B nb cb) m true
    exact ⟨w3, e3, h3, (F0.out.trans' hf1 (by simp)).trans' f3 (by simp)⟩)
  have htake : Hid (∀ _ : Int, ∃ w3, (((((w2.setCell ⟨w.heap.size, 1, none⟩ (.int .i64 x)).setCell ⟨w.heap.size, 2, none⟩ (.bool true)).setCell ⟨w.heap.size + 1, 0, none⟩ (.slice B nb cb)).setCell ⟨w.heap.size + 1, 1, none⟩ (.int .i64 x)).setCell ⟨w.heap.size + 1, 2, none⟩ (.bool true)) = w3 ∧ RsAt w3 (w.heap.size + 1) (.slice B nb cb) x true ∧ Fr [] w w3) := Lib.hid (fun _ => by
    have hf1 : Fr [w.heap.size] w2 ((w2.setCell ⟨w.heap.size, 1, none⟩ (.int .i64 x)).setCell ⟨w.heap.size, 2, none⟩ (.bool true)) := ((Fr.refl _ _).setCell (.inl (by simp)) _).setCell (.inl (by simp)) _
    obtain ⟨w3, e3, h3, f3⟩ := (HR.out.fr hf1 (by simp)).fill (.slice B nb cb) x true
    exact ⟨w3, e3, h3, (F0.out.trans' hf1 (by simp)).trans' f3 (by simp)⟩)
  cases hff : f
  · subst hff
    go_wp2_with fail
    obtain ⟨w3, e3, h3, f3⟩ := htake.out 0
    have q0 := h3.c0
    have q1 := h3.c1
    have q2 := h3.c2
    rw [e3]
    exact bodyPost_ret (v := .agg #[.slice B nb cb, .int .i64 x, .bool true]) (by simp [results, Tryz.results75, go_sem, q0, q1, q2]) rfl ⟨by rw [← HY.out]; simp, f3⟩
  · subst hff
    cases hlx : L x m
    · have HLX := Lib.hid hlx
      go_wp2_with (go_at_fn lf; refine (HL.out _ _ _).mono ?_; rintro e w' ⟨rfl, rfl⟩)
      obtain ⟨w3, e3, h3, f3⟩ := hkeep.out 0
      have q0 := h3.c0
      have q1 := h3.c1
      have q2 := h3.c2
      rw [e3]
      exact bodyPost_ret (v := .agg #[.slice B nb cb, .int .i64 m, .bool true]) (by simp [results, Tryz.results75, go_sem, q0, q1, q2]) rfl ⟨by rw [← HY.out]; simp [HLX.out], f3⟩
    · have HLX := Lib.hid hlx
      go_wp2_with (go_at_fn lf; refine (HL.out _ _ _).mono ?_; rintro e w' ⟨rfl, rfl⟩)
      obtain ⟨w3, e3, h3, f3⟩ := htake.out 0
      have q0 := h3.c0
      have q1 := h3.c1
      have q2 := h3.c2
      rw [e3]
      exact bodyPost_ret (v := .agg #[.slice B nb cb, .int .i64 x, .bool true]) (by simp [results, Tryz.results75, go_sem, q0, q1, q2]) rfl ⟨by rw [← HY.out]; simp [HLX.out], f3⟩
end Go.Proofs.YtjiikpmkedkbkaaGreat
