/-
  What the reference's Valid computes: the same.
-/
import Derived.Test.YtjiikpmkedkbkaaFa
import Derived.StillTail
import Derived.Deep.QuietTactic
import Derived.Sort.Grow
import Derived.Shelf.SlSortCmp.QuietGrown
import Derived.Test.YtjiikpmkedkbkaaFl
import Derived.Test.YtjiikpmkedkbkaaFb
import Derived.Test.YtjiikpmkedkbkaaFm
import Derived.OpenShut
import Derived.ChangeArms
import Derived.Deep.Slices
import Derived.Laws.IdiomArrays
namespace Go.Proofs.Ytjiikpmkedkbkaa
open Go.RowKit

section
variable {P : Program} {ops : Array Oper} {md : Region.Mode} {C : World → Prop}
/-- Some operations of the head are still to come: whichever may come up is one of the head. -/
def HeadQ (P : Program) (md : Region.Mode) (ops : Array Oper) (C : World → Prop) (n : Nat) (L : Array Bool → Act → Prop) : Nat → Array Bool → Act → Prop
  | 0, done, a => L done a
  | f + 1, done, a => Region.ready md ops done ≠ [] ∧ ∀ i ∈ Region.ready md ops done, i < n ∧ qOp P ops C i (HeadQ P md ops C n L f (done.setIfInBounds i true)) a

theorem HeadQ.any {n g : Nat} {L : Array Bool → Act → Prop} {Q' : Exit → Act → World → Prop} (hL : ∀ done a w, C w → L done a → wpAny P md ops Q' g done a w) :
    ∀ (f : Nat) (done : Array Bool) (a : Act) (w : World), C w → HeadQ P md ops C n L f done a → wpAny P md ops Q' (f + g) done a w := by
  intro f
  induction f with
  | zero => intro done a w hw h; rw [Nat.zero_add]; exact hL _ _ _ hw h
  | succ f ih =>
    intro done a w hw h
    rw [Nat.add_right_comm]
    exact ⟨fun h0 => absurd h0 h.1, fun i hi => wpOp_of_qOp hw (fun a' w' hw' h' => ih _ a' w' hw' h') (h.2 i hi).2⟩

theorem HeadQ.first {n i : Nat} {oi : Oper} {v : Value} {L : Array Bool → Act → Prop} (hi : ops[i]? = some oi) (hsel : ∀ (j : Nat) (o : Oper) cs b, ops[j]? = some o → o.op ≠ .select cs b)
    (hs : Region.sinkB md ops n = true) (hc : Region.chainB md ops n = true) (hn : n < ops.size) (hin : i < n) (hend : ∀ done a, L done a → ∀ j ∈ Region.ready md ops done, n ≤ j) :
    ∀ (f : Nat) (done : Array Bool) (a : Act), HeadInv md ops n done →
      (∀ j oj, ops[j]? = some oj → j ≠ i → done.getD j true = false → (∀ e ∈ oj.after, Region.binds md e = true → e.on ≠ i) → oi.apart ops oj = true) →
      i ∈ Region.ready md ops done → YieldsIn P ops C oi v a → HeadQ P md ops C n L f (done.setIfInBounds i true) (a.put oi.dst v) → HeadQ P md ops C n L (f + 1) done a := by
  intro f
  induction f with
  | zero =>
    intro done a inv _ hr hy H
    have hun := (mem_ready.1 hr).1
    refine ⟨List.ne_nil_of_mem hr, fun j hj => ?_⟩
    have hjn : j < n := Nat.lt_of_not_le fun h => tail_waits hs hc hn inv _ i rfl hin hun j h hj
    refine ⟨hjn, ?_⟩
    by_cases e : j = i
    · subst e
      exact hy.qOp hi H
    · exact absurd (hend _ _ H j (ready_mono hj e)) (by omega)
  | succ f ih =>
    intro done a inv hfree hr hy H
    have hun := (mem_ready.1 hr).1
    refine ⟨List.ne_nil_of_mem hr, fun j hj => ?_⟩
    have hjn : j < n := Nat.lt_of_not_le fun h => tail_waits hs hc hn inv _ i rfl hin hun j h hj
    refine ⟨hjn, ?_⟩
    by_cases e : j = i
    · subst e
      exact hy.qOp hi H
    · obtain ⟨hjun, oj, hoj, hall⟩ := mem_ready.1 hj
      have hnot : ∀ e ∈ oj.after, Region.binds md e = true → e.on ≠ i := by
        intro x hx hb hxi
        have h1 := hall x hx hb
        rw [hxi, getD_both hun] at h1
        cases h1
      have hsw := qOp_put hoj (hfree j oj hoj e hjun hnot) (fun cs b => hsel i oi cs b hi) (fun cs b => hsel j oj cs b hoj) hy (H.2 j (ready_mono hj e)).2
      refine qOp_mono (fun a' h3 => ?_) hsw
      refine ih (done.setIfInBounds j true) a' (inv.set hj hjn) ?_ (ready_mono hr (Ne.symm e)) h3.1 ?_
      · intro k ok hk hki hkun hkn
        refine hfree k ok hk hki ?_ hkn
        by_cases hjk : j = k
        · subst hjk
          exact hjun
        · rwa [getD_set_ne true hjk] at hkun
      · rw [Array.setIfInBounds_comm _ _ e]
        exact h3.2

theorem HeadQ.lex {n g : Nat} {L : Act → Prop} (hsel : Region.noSelect ops = true) (hs : Region.sinkB md ops n = true) (hc : Region.chainB md ops n = true) (hn : n < ops.size) :
    ∀ (l : List Oper) (k : Nat) (done : Array Bool) (a : Act), (∀ j, j < l.length → l[j]? = ops[k + j]?) → k + l.length = n → HeadInv md ops n done → Region.lexHead md ops g l.length k done = true →
      wpQuiet P ops C L l a → HeadQ P md ops C n (fun d a' => Region.seqB md ops g n d = true ∧ L a') l.length done a := by
  intro l
  induction l with
  | nil =>
    intro k done a _ hk _ hB h
    have : k = n := by simpa using hk
    subst this
    exact ⟨by simpa [Region.lexHead] using hB, h⟩
  | cons o l ih =>
    intro k done a hl hk inv hB h
    have h0 : ops[k]? = some o := by simpa using (hl 0 (by simp)).symm
    simp only [List.length_cons, Region.lexHead, Bool.and_eq_true] at hB
    obtain ⟨⟨hr, hf⟩, hB'⟩ := hB
    have hkn : k < n := by simp only [List.length_cons] at hk; omega
    have hr' : k ∈ Region.ready md ops done := by simpa using hr
    have hq : qOp P ops C k (wpQuiet P ops C L l) a := by unfold qOp; simp only [h0]; exact h
    obtain ⟨v, hy, hK⟩ := yieldsIn_of_qOp h0 hq
    refine HeadQ.first h0 (Region.noSelect_spec hsel) hs hc hn hkn (fun d a' hL => seqB_ready hL.1) l.length done a inv (Region.free_spec h0 hf) hr' hy (ih (k + 1) _ _ (fun j hj => ?_) ?_ (inv.set hr' hkn) hB' hK)
    · have := hl (j + 1) (by simp; omega)
      simpa [Nat.add_assoc, Nat.add_comm 1 j] using this
    · simp only [List.length_cons] at hk
      omega

theorem wp_region_quiet_tail {id : Nat} {Q : Exit → Act → World → Prop} {a : Act} {w : World} {l : List Oper} (n : Nat) (hm : P.follows .mixedOrders = true) (hB : Region.lexTailB .any l.toArray n = true) (hC : C { w with drawn := w.drawn + 1 })
    (h : wpQuiet P l.toArray C (fun a' => ∀ w', C w' → wpList P l.toArray Q (l.drop n) a' w') (l.take n) a) : (Code.region id l.toArray true).wp P Q a w := by
  simp only [Region.lexTailB, Bool.and_eq_true, decide_eq_true_eq] at hB
  obtain ⟨⟨⟨⟨hsel, hn⟩, hs⟩, hc⟩, hlex⟩ := hB
  have hn' : n < l.length := by simpa using hn
  have htl : (l.take n).length = n := by rw [List.length_take]; omega
  have hdl : (l.drop n).length = l.toArray.size - n := by simp
  have inv0 : HeadInv .any l.toArray n (Array.replicate l.toArray.size false) :=
    ⟨by simp, fun j oj _ hl => (by rw [getD_replicate_false] at hl; cases hl), fun t _ ht => getD_in (by simpa using ht) (getD_replicate_false _ _)⟩
  have H := HeadQ.lex (P := P) (C := C) (md := .any) (g := l.toArray.size - n) (L := fun a' => ∀ w', C w' → wpList P l.toArray Q (l.drop n) a' w') hsel hs hc hn (l.take n) 0 _ a
    (fun j hj => by rw [htl] at hj; simp [hj]) (by simpa using htl) inv0 (by rw [htl]; exact hlex) h
  refine wp_region_any hm ?_
  have H2 := HeadQ.any (Q' := Q) (g := l.toArray.size - n) (fun d a' w' hw' hL => by
    have h1 := wpAny_of_seq (md := .any) (Q' := Q) (l.drop n) n d a' w' (fun j => by simp [List.getElem?_drop]) (by rw [hdl]; exact hL.1) (hL.2 w' hw')
    rwa [hdl] at h1) _ _ _ _ hC H
  rw [htl, show n + (l.toArray.size - n) = l.toArray.size by omega] at H2
  exact H2
end
end Go.Proofs.Ytjiikpmkedkbkaa
namespace Go.Proofs.Ytjiikpmkedkbkaa
open Go.RowKit

def pickI (c n : Int) : Int := (if c < 0 then -(c + 1) else c) % n
theorem pickI_nonneg (c : Int) {n : Int} (h : 1 ≤ n) : 0 ≤ pickI c n := Int.emod_nonneg _ (by omega)
theorem pickI_lt (c : Int) {n : Int} (h : 1 ≤ n) : pickI c n < n := Int.emod_lt_of_pos _ (by omega)
theorem pick_any (c n : Int) (w : World) (hc : okI c) (h3 : 1 ≤ n) (h4 : n ≤ 1000000000) :
    Calls Try.prog 27 #[.int .i64 c, .int .i64 n] w fun e w' => e = .returned (.int .i64 (pickI c n)) ∧ w = w' := by
  obtain ⟨h1, h2⟩ := okI_bounds hc
  have hn : (n == 0) = false := by simp; omega
  have hn' : ¬ n = 0 := by omega
  by_cases hc : c < 0
  · go_enter Try.func27, Try.ntmps27
    go_wp2
    go_ret
    have e1 : pickI c n = -(c + 1) % n := by unfold pickI; rw [if_pos hc]
    rw [e1]
    refine ⟨?_, rfl⟩
    show Ending.returned (.int .i64 (-((c + 1).tmod n))) = _
    rw [← Int.neg_tmod, Int.tmod_eq_emod_of_nonneg (by omega)]
  · go_enter Try.func27, Try.ntmps27
    go_wp2
    go_ret
    have e1 : pickI c n = c % n := by unfold pickI; rw [if_neg (by omega)]
    rw [e1]
    refine ⟨by simp, rfl⟩
abbrev PickIs (c n p : Int) : Prop := ∀ W : World, Calls Try.prog 27 #[.int .i64 c, .int .i64 n] W fun e w' => e = .returned (.int .i64 p) ∧ Fr [] W w'
theorem pick_is {c n : Int} (hc : okI c) (h3 : 1 ≤ n) (h4 : n ≤ 1000000000) : ∃ p, (0 ≤ p ∧ p < n) ∧ Hid (pickI c n = p) ∧ Hid (PickIs c n p) :=
  ⟨_, ⟨pickI_nonneg c h3, pickI_lt c h3⟩, Lib.hid rfl, Lib.hid (fun W => (pick_any c n W hc h3 h4).mono fun _ _ h => ⟨h.1, h.2 ▸ Fr.refl _ _⟩)⟩
abbrev PickEq (c n p : Int) : Prop := ∀ W : World, Calls Try.prog 27 #[.int .i64 c, .int .i64 n] W fun e w' => e = .returned (.int .i64 p) ∧ W = w'
theorem pick_is2 {c n : Int} (hc : okI c) (h3 : 1 ≤ n) (h4 : n ≤ 1000000000) : ∃ p, (0 ≤ p ∧ p < n) ∧ Hid (pickI c n = p) ∧ Hid (PickEq c n p) :=
  ⟨_, ⟨pickI_nonneg c h3, pickI_lt c h3⟩, Lib.hid rfl, Lib.hid (fun W => pick_any c n W hc h3 h4)⟩
theorem okI_tdiv {x : Int} (h : okI x) {n : Int} (hn : 2 ≤ n) : okI (x.tdiv n) := by
  obtain ⟨h1, h2⟩ := okI_bounds h
  rcases Int.le_total 0 x with h0 | h0
  · rw [Int.tdiv_eq_ediv_of_nonneg h0]
    have a1 : 0 ≤ x / n := Int.ediv_nonneg h0 (by omega)
    have a2 : x / n ≤ x := Int.ediv_le_self n h0
    exact okI_mk (by omega) (by omega)
  · have e : x.tdiv n = -((-x) / n) := by
      rw [← Int.tdiv_eq_ediv_of_nonneg (by omega), Int.neg_tdiv, Int.neg_neg]
    have a1 : 0 ≤ (-x) / n := Int.ediv_nonneg (by omega) (by omega)
    have a2 : (-x) / n < 9223372036854775808 := Int.ediv_lt_of_lt_mul (by omega) (by omega)
    rw [e]
    exact okI_mk (by omega) (by omega)
/-- Five integers in memory. -/
def Five (w : World) (g : Nat) (x0 x1 x2 x3 x4 : Int) : Prop := Blk w g 22 #[.int .i64 x0, .int .i64 x1, .int .i64 x2, .int .i64 x3, .int .i64 x4]
theorem Five.cells {w : World} {g : Nat} {x0 x1 x2 x3 x4 : Int} (h : Five w g x0 x1 x2 x3 x4) : w.cell? ⟨g, 0, none⟩ = some (.int .i64 x0) ∧ w.cell? ⟨g, 1, none⟩ = some (.int .i64 x1) ∧ w.cell? ⟨g, 2, none⟩ = some (.int .i64 x2) ∧ w.cell? ⟨g, 3, none⟩ = some (.int .i64 x3) ∧ w.cell? ⟨g, 4, none⟩ = some (.int .i64 x4) :=
  ⟨Blk.cell h 0, Blk.cell h 1, Blk.cell h 2, Blk.cell h 3, Blk.cell h 4⟩
theorem Five.fr {w w' : World} {g : Nat} {x0 x1 x2 x3 x4 : Int} {S : List Nat} (h : Five w g x0 x1 x2 x3 x4) (hf : Fr S w w') (hs : g ∉ S) : Five w' g x0 x1 x2 x3 x4 := Blk.fr h hf hs
/-- What stands between the parts of Query. -/
structure QwRel (w wc : World) (g : Nat) (x0 x1 x2 x3 x4 : Int) (q : Qry) : Prop where
  five : Five wc w.heap.size x0 x1 x2 x3 x4
  res : QAt wc (w.heap.size + 1) ⟨0, 0, 0, 0, 0, 0, 0⟩
  q : QAt wc g q
  fr : Fr [] w wc
  lt : w.heap.size + 1 < g
section
variable {w wc w' : World} {g : Nat} {x0 x1 x2 x3 x4 : Int} {q q' : Qry}
theorem QAt.z (h : QAt w g q) (k : Nat) : w.frozen? ⟨g, k, none⟩ = false := Blk.frozen h k
theorem QwRel.fr0 (h : QwRel w wc g x0 x1 x2 x3 x4 q) (hf : Fr [] wc w') : QwRel w w' g x0 x1 x2 x3 x4 q := ⟨h.five.fr hf (by simp), h.res.fr hf (by simp), h.q.fr hf (by simp), h.fr.trans hf, h.lt⟩
theorem QwRel.set {k : Nat} {v : Value} (h : QwRel w wc g x0 x1 x2 x3 x4 q) (hq : QAt (wc.setCell ⟨g, k, none⟩ v) g q') : QwRel w (wc.setCell ⟨g, k, none⟩ v) g x0 x1 x2 x3 x4 q' := by
  have hf : Fr [g] wc (wc.setCell ⟨g, k, none⟩ v) := (Fr.refl _ _).setCell (.inl (by simp)) _
  have := h.lt
  exact ⟨h.five.fr hf (by simp; omega), h.res.fr hf (by simp; omega), hq, h.fr.trans' hf (by simp; omega), h.lt⟩
theorem QwRel.set2 (h : QwRel w wc g x0 x1 x2 x3 x4 q) (v : Int) : QwRel w (wc.setCell ⟨g, 2, none⟩ (.int .i64 v)) g x0 x1 x2 x3 x4 ⟨q.kind, q.table, v, q.low, q.high, q.by_, q.other⟩ := h.set (Blk.set_ h.q 2 _)
theorem QwRel.set3 (h : QwRel w wc g x0 x1 x2 x3 x4 q) (v : Int) : QwRel w (wc.setCell ⟨g, 3, none⟩ (.int .i64 v)) g x0 x1 x2 x3 x4 ⟨q.kind, q.table, q.column, v, q.high, q.by_, q.other⟩ := h.set (Blk.set_ h.q 3 _)
theorem QwRel.set4 (h : QwRel w wc g x0 x1 x2 x3 x4 q) (v : Int) : QwRel w (wc.setCell ⟨g, 4, none⟩ (.int .i64 v)) g x0 x1 x2 x3 x4 ⟨q.kind, q.table, q.column, q.low, v, q.by_, q.other⟩ := h.set (Blk.set_ h.q 4 _)
theorem QwRel.set5 (h : QwRel w wc g x0 x1 x2 x3 x4 q) (v : Int) : QwRel w (wc.setCell ⟨g, 5, none⟩ (.int .i64 v)) g x0 x1 x2 x3 x4 ⟨q.kind, q.table, q.column, q.low, q.high, v, q.other⟩ := h.set (Blk.set_ h.q 5 _)
theorem QwRel.set6 (h : QwRel w wc g x0 x1 x2 x3 x4 q) (v : Int) : QwRel w (wc.setCell ⟨g, 6, none⟩ (.int .i64 v)) g x0 x1 x2 x3 x4 ⟨q.kind, q.table, q.column, q.low, q.high, q.by_, v⟩ := h.set (Blk.set_ h.q 6 _)
def lay7 (w : World) (g : Nat) (q : Qry) : World := ((((((w.setCell ⟨g, 0, none⟩ (.int .i64 q.kind)).setCell ⟨g, 1, none⟩ (.int .i64 q.table)).setCell ⟨g, 2, none⟩ (.int .i64 q.column)).setCell ⟨g, 3, none⟩ (.int .i64 q.low)).setCell ⟨g, 4, none⟩ (.int .i64 q.high)).setCell ⟨g, 5, none⟩ (.int .i64 q.by_)).setCell ⟨g, 6, none⟩ (.int .i64 q.other)
theorem QwRel.fin (h : QwRel w wc g x0 x1 x2 x3 x4 q) : ∃ w4, lay7 wc (w.heap.size + 1) q = w4 ∧ QAt w4 (w.heap.size + 1) q ∧ Fr [] w w4 := by
  have h2 := ((((((Blk.set_ h.res 0 (.int .i64 q.kind)).set_ 1 (.int .i64 q.table)).set_ 2 (.int .i64 q.column)).set_ 3 (.int .i64 q.low)).set_ 4 (.int .i64 q.high)).set_ 5 (.int .i64 q.by_)).set_ 6 (.int .i64 q.other)
  exact ⟨_, rfl, h2, ((((((h.fr.setCell (.inr (Nat.le_succ _)) _).setCell (.inr (Nat.le_succ _)) _).setCell (.inr (Nat.le_succ _)) _).setCell (.inr (Nat.le_succ _)) _).setCell (.inr (Nat.le_succ _)) _).setCell (.inr (Nat.le_succ _)) _).setCell (.inr (Nat.le_succ _)) _⟩
end
/-- What the law's queries keep to. -/
structure QrOk (q : Qry) : Prop where
  valid : Em.valid q = true
  t : 0 ≤ q.table ∧ q.table ≤ 2
  c : 0 ≤ q.column ∧ q.column ≤ 3
  k : 1 ≤ q.kind ∧ q.kind ≤ 7
  lo : -100 ≤ q.low ∧ q.low ≤ q.high ∧ q.high ≤ 100
  o : 0 ≤ q.other ∧ q.other ≤ 2
  b : 0 ≤ q.by_ ∧ q.by_ ≤ 3
set_option maxRecDepth 100000 in
set_option maxHeartbeats 8000000 in
theorem query_any (x0 x1 x2 x3 x4 : Int) (w : World) (h0 : okI x0) (h1 : okI x1) (h2 : okI x2) (h3 : okI x3) (h4 : okI x4) :
    Calls Try.prog 10 #[.agg #[.int .i64 x0, .int .i64 x1, .int .i64 x2, .int .i64 x3, .int .i64 x4]] w fun e w' => ∃ q : Qry, e = .returned q.val ∧ QrOk q ∧ Fr [] w w' := by
  have F0 := ((Fr.refl [] w).alloc (.cells #[.int .i64 x0, .int .i64 x1, .int .i64 x2, .int .i64 x3, .int .i64 x4] 22)).alloc (.cells #[.int .i64 0, .int .i64 0, .int .i64 0, .int .i64 0, .int .i64 0, .int .i64 0, .int .i64 0] 24)
  have HB : Hid (Five ((w.alloc (.cells #[.int .i64 x0, .int .i64 x1, .int .i64 x2, .int .i64 x3, .int .i64 x4] 22)).alloc (.cells #[.int .i64 0, .int .i64 0, .int .i64 0, .int .i64 0, .int .i64 0, .int .i64 0, .int .i64 0] 24)) w.heap.size x0 x1 x2 x3 x4) := Lib.hid (Blk.fr (Blk.new w _ _) ((Fr.refl [] _).alloc _) (by simp))
  have hr := QAt.new (w.alloc (.cells #[.int .i64 x0, .int .i64 x1, .int .i64 x2, .int .i64 x3, .int .i64 x4] 22)) ⟨0, 0, 0, 0, 0, 0, 0⟩
  rw [World.size_alloc] at hr
  have hs : ((w.alloc (.cells #[.int .i64 x0, .int .i64 x1, .int .i64 x2, .int .i64 x3, .int .i64 x4] 22)).alloc (.cells #[.int .i64 0, .int .i64 0, .int .i64 0, .int .i64 0, .int .i64 0, .int .i64 0, .int .i64 0] 24)).heap.size = w.heap.size + 1 + 1 := by rw [World.size_alloc, World.size_alloc]
  have HS := Lib.hid hs
  have HR := Lib.hid hr
  have HF0 := Lib.hid F0
  clear hr F0 hs
  obtain ⟨p0, b0, -, K0⟩ := pick_is2 h0 (n := 7) (by decide) (by decide)
  obtain ⟨p1, b1, -, K1⟩ := pick_is2 (okI_tdiv h0 (n := 7) (by decide)) (n := 3) (by decide) (by decide)
  obtain ⟨p2, b2, -, K2⟩ := pick_is2 h1 (n := 9) (by decide) (by decide)
  obtain ⟨p3, b3, -, K3⟩ := pick_is2 (okI_tdiv h1 (n := 9) (by decide)) (n := 4) (by decide) (by decide)
  obtain ⟨p4, b4, -, K4⟩ := pick_is2 h2 (n := 14) (by decide) (by decide)
  obtain ⟨p5, b5, -, K5⟩ := pick_is h3 (n := 14) (by decide) (by decide)
  obtain ⟨p6, b6, -, K6⟩ := pick_is2 h4 (n := 3) (by decide) (by decide)
  obtain ⟨p7, b7, -, K7⟩ := pick_is2 (okI_tdiv h4 (n := 3) (by decide)) (n := 3) (by decide) (by decide)
  obtain ⟨p8, b8, -, K8⟩ := pick_is2 (okI_tdiv h4 (n := 9) (by decide)) (n := 3) (by decide) (by decide)
  have HQ := Lib.hid (IntWalk.i64_in (x0.tdiv 7) (okI_bounds (okI_tdiv h0 (n := 7) (by decide))))
  rw [← HQ.out] at K1
  have K3' := K3
  have HQ3 := Lib.hid (IntWalk.wrap64_in (x1.tdiv 9) (okI_bounds (okI_tdiv h1 (n := 9) (by decide))))
  rw [← HQ3.out] at K3
  have K7' := K7
  have HQ7 := Lib.hid (IntWalk.wrap64_in (x4.tdiv 3) (okI_bounds (okI_tdiv h4 (n := 3) (by decide))))
  rw [← HQ7.out] at K7
  have K8' := K8
  have HQ8 := Lib.hid (IntWalk.wrap64_in (x4.tdiv 9) (okI_bounds (okI_tdiv h4 (n := 9) (by decide))))
  rw [← HQ8.out] at K8
  have HW0 : Hid (IntKind.i64.wrap (1 + p0) = 1 + p0) := Lib.hid (IntWalk.i64_in _ ⟨by omega, by omega⟩)
  clear h0 h1 h2 h3 h4
  go_enter Try.func10, Try.ntmps10
  go_upto_region 1 with (fail)
  generalize hw2 : (w.alloc (.cells #[.int .i64 x0, .int .i64 x1, .int .i64 x2, .int .i64 x3, .int .i64 x4] 22)).alloc (.cells #[.int .i64 0, .int .i64 0, .int .i64 0, .int .i64 0, .int .i64 0, .int .i64 0, .int .i64 0] 24) = w2 at *
  clear hw2
  have a0 : w2.cell? ⟨w.heap.size, 0, none⟩ = some (.int .i64 x0) := HB.out.cells.1
  go_cut [3] (fun v wc => v = .pointer (some ⟨w2.heap.size, 0, none⟩) ∧ Hid (QwRel w wc w2.heap.size x0 x1 x2 x3 x4 ⟨1 + p0, p1, 0, 0, 0, 0, 0⟩))
  case first =>
    go_region_held3 (fun w' => w'.cell? ⟨w.heap.size, 0, none⟩ = some (.int .i64 x0))
      (first | exact a0 | go_keep)
      (first
        | (go_at_call 27; (with_reducible refine (K0.out _).mono ?_); rintro e w' ⟨rfl, rfl⟩)
        | (go_at_call 27; (with_reducible refine (K1.out _).mono ?_); rintro e w' ⟨rfl, rfl⟩))
    all_goals
      go_wp2_with fail
      go_meet
      refine ⟨rfl, Lib.hid ?_⟩
      rw [HW0.out]
      have hn := QAt.new w2 ⟨1 + p0, p1, 0, 0, 0, 0, 0⟩
      have hf : Fr [] w2 (w2.alloc (.cells #[.int .i64 (1 + p0), .int .i64 p1, .int .i64 0, .int .i64 0, .int .i64 0, .int .i64 0, .int .i64 0] 24)).drew := ((Fr.refl [] w2).alloc _).drew
      exact ⟨HB.out.fr hf (by simp), HR.out.fr hf (by simp), hn.fr (Fr.refl [] _).drew (by simp), HF0.out.trans hf, by rw [HS.out]; omega⟩
  case rest =>
    obtain ⟨rfl, R1⟩ := hcut
    clear HB HR HF0 a0 HW0
    generalize w2.heap.size = g at *
    have g0 := R1.out.five.cells.1
    have g1 := R1.out.five.cells.2.1
    have g2 := R1.out.five.cells.2.2.1
    have g3 := R1.out.five.cells.2.2.2.1
    have g4 := R1.out.five.cells.2.2.2.2

    by_cases hk : p0 = 0
    · subst hk
      have ek : ((1 + 0 : Int) == 1) = true := by decide
      have c0 := R1.out.q.c0
      have z0 := R1.out.q.z 0
      have c1 := R1.out.q.c1
      have z1 := R1.out.q.z 1
      have c2 := R1.out.q.c2
      have z2 := R1.out.q.z 2
      have c3 := R1.out.q.c3
      have z3 := R1.out.q.z 3
      have c4 := R1.out.q.c4
      have z4 := R1.out.q.z 4
      have c5 := R1.out.q.c5
      have z5 := R1.out.q.z 5
      have c6 := R1.out.q.c6
      have z6 := R1.out.q.z 6
      go_upto_region 3 with (fail)
      go_cut [] (fun wc => Hid (QwRel w wc g x0 x1 x2 x3 x4 ⟨1, p1, 0, 1 + p2, 0, 0, 0⟩))
      case first =>
        go_wp2_with (first | (go_at_call 27; (with_reducible refine (K2.out _).mono ?_); rintro e w' ⟨rfl, rfl⟩))
        go_meet
        exact Lib.hid (R1.out.set3 _)
      case rest =>
      have R2 := hcut
      clear hcut R1 c0 c1 c2 c3 c4 c5 c6 z0 z1 z2 z3 z4 z5 z6 g0 g1 g2 g3 g4
      have c0 := R2.out.q.c0
      have z0 := R2.out.q.z 0
      have c1 := R2.out.q.c1
      have z1 := R2.out.q.z 1
      have c2 := R2.out.q.c2
      have z2 := R2.out.q.z 2
      have c3 := R2.out.q.c3
      have z3 := R2.out.q.z 3
      have c4 := R2.out.q.c4
      have z4 := R2.out.q.z 4
      have c5 := R2.out.q.c5
      have z5 := R2.out.q.z 5
      have c6 := R2.out.q.c6
      have z6 := R2.out.q.z 6
      have g0 := R2.out.five.cells.1
      have g1 := R2.out.five.cells.2.1
      have g2 := R2.out.five.cells.2.2.1
      have g3 := R2.out.five.cells.2.2.2.1
      have g4 := R2.out.five.cells.2.2.2.2
      go_upto_region 4 with (fail)
      go_cut [] (fun wc => Hid (QwRel w wc g x0 x1 x2 x3 x4 ⟨1, p1, 0, 1 + p2, 1 + p2, 0, 0⟩))
      case first =>
        go_wp2_with (fail)
        go_meet
        exact Lib.hid (R2.out.set4 _)
      case rest =>
      have R3 := hcut
      clear hcut R2 c0 c1 c2 c3 c4 c5 c6 z0 z1 z2 z3 z4 z5 z6 g0 g1 g2 g3 g4
      have c0 := R3.out.q.c0
      have z0 := R3.out.q.z 0
      have c1 := R3.out.q.c1
      have z1 := R3.out.q.z 1
      have c2 := R3.out.q.c2
      have z2 := R3.out.q.z 2
      have c3 := R3.out.q.c3
      have z3 := R3.out.q.z 3
      have c4 := R3.out.q.c4
      have z4 := R3.out.q.z 4
      have c5 := R3.out.q.c5
      have z5 := R3.out.q.z 5
      have c6 := R3.out.q.c6
      have z6 := R3.out.q.z 6
      have g0 := R3.out.five.cells.1
      have g1 := R3.out.five.cells.2.1
      have g2 := R3.out.five.cells.2.2.1
      have g3 := R3.out.five.cells.2.2.2.1
      have g4 := R3.out.five.cells.2.2.2.2
      clear c0 c1 c2 c3 c4 c5 c6 z0 z1 z2 z3 z4 z5 z6 g0 g1 g2 g3 g4
      have c0 := R3.out.q.c0
      have c1 := R3.out.q.c1
      have c2 := R3.out.q.c2
      have c3 := R3.out.q.c3
      have c4 := R3.out.q.c4
      have c5 := R3.out.q.c5
      have c6 := R3.out.q.c6
      have y0 := R3.out.res.c0
      have v0 := R3.out.res.z 0
      have y1 := R3.out.res.c1
      have v1 := R3.out.res.z 1
      have y2 := R3.out.res.c2
      have v2 := R3.out.res.z 2
      have y3 := R3.out.res.c3
      have v3 := R3.out.res.z 3
      have y4 := R3.out.res.c4
      have v4 := R3.out.res.z 4
      have y5 := R3.out.res.c5
      have v5 := R3.out.res.z 5
      have y6 := R3.out.res.c6
      have v6 := R3.out.res.z 6
      dsimp only at c0 c1 c2 c3 c4 c5 c6 y0 y1 y2 y3 y4 y5 y6
      go_wp2_with fail
      obtain ⟨w9, e9, h9, f9⟩ := R3.out.fin
      unfold lay7 at e9
      dsimp only at e9
      rw [e9]
      have r0 := h9.c0
      have r1 := h9.c1
      have r2 := h9.c2
      have r3 := h9.c3
      have r4 := h9.c4
      have r5 := h9.c5
      have r6 := h9.c6
      dsimp only at r0 r1 r2 r3 r4 r5 r6
      refine bodyPost_ret (v := .agg #[.int .i64 (1), .int .i64 (p1), .int .i64 (0), .int .i64 (1 + p2), .int .i64 (1 + p2), .int .i64 (0), .int .i64 (0)]) (by simp [results, Try.results10, go_sem, r0, r1, r2, r3, r4, r5, r6]) rfl ⟨⟨1, p1, 0, 1 + p2, 1 + p2, 0, 0⟩, rfl, ?_, f9⟩
      refine ⟨?_, by dsimp only; omega, by dsimp only; omega, by dsimp only; omega, by dsimp only; omega, by dsimp only; omega, by dsimp only; omega⟩
      unfold Em.valid Em.base Em.within
      dsimp only
      simp; omega

    have hk1 : ((1 + p0 : Int) == 1) = false := by simp; omega
    have c0 := R1.out.q.c0
    have z0 := R1.out.q.z 0
    have c1 := R1.out.q.c1
    have z1 := R1.out.q.z 1
    have c2 := R1.out.q.c2
    have z2 := R1.out.q.z 2
    have c3 := R1.out.q.c3
    have z3 := R1.out.q.z 3
    have c4 := R1.out.q.c4
    have z4 := R1.out.q.z 4
    have c5 := R1.out.q.c5
    have z5 := R1.out.q.z 5
    have c6 := R1.out.q.c6
    have z6 := R1.out.q.z 6
    go_upto_region 6 with (fail)
    go_cut [] (fun wc => Hid (QwRel w wc g x0 x1 x2 x3 x4 ⟨1 + p0, p1, p3, 0, 0, 0, 0⟩))
    case first =>
      go_wp2_with (first | (go_at_call 27; (with_reducible refine (K3.out _).mono ?_); rintro e w' ⟨rfl, rfl⟩) | (go_at_call 27; (with_reducible refine (K3'.out _).mono ?_); rintro e w' ⟨rfl, rfl⟩))
      go_meet
      exact Lib.hid (R1.out.set2 _)
    case rest =>
    have R2 := hcut
    clear hcut R1 c0 c1 c2 c3 c4 c5 c6 z0 z1 z2 z3 z4 z5 z6 g0 g1 g2 g3 g4
    have c0 := R2.out.q.c0
    have z0 := R2.out.q.z 0
    have c1 := R2.out.q.c1
    have z1 := R2.out.q.z 1
    have c2 := R2.out.q.c2
    have z2 := R2.out.q.z 2
    have c3 := R2.out.q.c3
    have z3 := R2.out.q.z 3
    have c4 := R2.out.q.c4
    have z4 := R2.out.q.z 4
    have c5 := R2.out.q.c5
    have z5 := R2.out.q.z 5
    have c6 := R2.out.q.c6
    have z6 := R2.out.q.z 6
    have g0 := R2.out.five.cells.1
    have g1 := R2.out.five.cells.2.1
    have g2 := R2.out.five.cells.2.2.1
    have g3 := R2.out.five.cells.2.2.2.1
    have g4 := R2.out.five.cells.2.2.2.2
    go_upto_region 7 with (fail)
    go_cut [] (fun wc => Hid (QwRel w wc g x0 x1 x2 x3 x4 ⟨1 + p0, p1, p3, p4 - 2, 0, 0, 0⟩))
    case first =>
      go_wp2_with (first | (go_at_call 27; (with_reducible refine (K4.out _).mono ?_); rintro e w' ⟨rfl, rfl⟩))
      go_meet
      exact Lib.hid (R2.out.set3 _)
    case rest =>
    have R3 := hcut
    clear hcut R2 c0 c1 c2 c3 c4 c5 c6 z0 z1 z2 z3 z4 z5 z6 g0 g1 g2 g3 g4
    have c0 := R3.out.q.c0
    have z0 := R3.out.q.z 0
    have c1 := R3.out.q.c1
    have z1 := R3.out.q.z 1
    have c2 := R3.out.q.c2
    have z2 := R3.out.q.z 2
    have c3 := R3.out.q.c3
    have z3 := R3.out.q.z 3
    have c4 := R3.out.q.c4
    have z4 := R3.out.q.z 4
    have c5 := R3.out.q.c5
    have z5 := R3.out.q.z 5
    have c6 := R3.out.q.c6
    have z6 := R3.out.q.z 6
    have g0 := R3.out.five.cells.1
    have g1 := R3.out.five.cells.2.1
    have g2 := R3.out.five.cells.2.2.1
    have g3 := R3.out.five.cells.2.2.2.1
    have g4 := R3.out.five.cells.2.2.2.2

    clear c0 c1 c2 c3 c4 c5 c6 z0 z1 z2 z3 z4 z5 z6 g0 g1 g2 g3 g4
    go_upto_region 8 with (fail)
    go_cut [] (fun wc => Hid (QwRel w wc g x0 x1 x2 x3 x4 ⟨1 + p0, p1, p3, p4 - 2, p4 - 2 + p5, 0, 0⟩))
    case first =>
      have hl2 := Blk.lt R3.out.five
      have hl3 := Blk.lt R3.out.q
      have a2 : ∀ p : Later wc, p.w.cell? ⟨w.heap.size, 3, none⟩ = some (.int .i64 x3) := fun p => p.cell hl2 R3.out.five.cells.2.2.2.1
      have a3 : ∀ p : Later wc, p.w.cell? ⟨g, 3, none⟩ = some (.int .i64 (p4 - 2)) := fun p => p.cell hl3 R3.out.q.c3
      clear hl2 hl3
      refine wp_region_quiet_tail (C := fun w' => ∃ p : Later wc, w' = p.w) 7 (by kernel_rfl) (by kernel_rfl) ⟨⟨_, (Fr.refl [] wc).drew⟩, rfl⟩ ?_
      simp only [List.take_succ_cons, List.take_zero, List.drop_succ_cons, List.drop_zero]
      repeat (go_big_quiet_step (with_reducible exact Later.calls (K5.out _)))
      refine wpQuiet_nil ?_
      rintro wq ⟨p, hp⟩
      have fq : Fr [] wc wq := hp ▸ p.fr
      clear hp p a2 a3
      have RQ := Lib.hid (R3.out.fr0 fq)
      clear fq R3
      have c4 := RQ.out.q.c4
      have z4 := RQ.out.q.z 4
      go_wp2_with fail
      go_meet
      exact Lib.hid (RQ.out.set4 _)
    case rest =>
    have R4 := hcut
    clear hcut R3
    have c0 := R4.out.q.c0
    have z0 := R4.out.q.z 0
    have c1 := R4.out.q.c1
    have z1 := R4.out.q.z 1
    have c2 := R4.out.q.c2
    have z2 := R4.out.q.z 2
    have c3 := R4.out.q.c3
    have z3 := R4.out.q.z 3
    have c4 := R4.out.q.c4
    have z4 := R4.out.q.z 4
    have c5 := R4.out.q.c5
    have z5 := R4.out.q.z 5
    have c6 := R4.out.q.c6
    have z6 := R4.out.q.z 6
    have g0 := R4.out.five.cells.1
    have g1 := R4.out.five.cells.2.1
    have g2 := R4.out.five.cells.2.2.1
    have g3 := R4.out.five.cells.2.2.2.1
    have g4 := R4.out.five.cells.2.2.2.2

    go_upto_if 44 with (fail)
    go_cut [] (fun wn => ∃ l h : Int, (-100 ≤ l ∧ l ≤ h ∧ h ≤ 100) ∧ Hid (QwRel w wn g x0 x1 x2 x3 x4 ⟨1 + p0, p1, p3, l, h, 0, 0⟩))
    case first =>
      by_cases h3 : p3 = 3
      · subst h3
        have ec : ((3 : Int) == 3) = true := by decide
        have RA := Lib.hid ((R4.out.set3 ((p4 - 2) * 3 - 20)).set4 ((p4 - 2 + p5) * 3 - 20))
        go_wp2_with fail
        go_meet
        exact ⟨_, _, ⟨by omega, by omega, by omega⟩, RA⟩
      · have ec : (p3 == 3) = false := by simp [h3]
        go_wp2_with fail
        go_meet
        exact ⟨_, _, ⟨by omega, by omega, by omega⟩, R4⟩
    case rest =>
    obtain ⟨l, h, ⟨bl, blh, bh⟩, R5⟩ := hcut
    clear R4 c0 c1 c2 c3 c4 c5 c6 z0 z1 z2 z3 z4 z5 z6 g0 g1 g2 g3 g4
    have c0 := R5.out.q.c0
    have z0 := R5.out.q.z 0
    have c1 := R5.out.q.c1
    have z1 := R5.out.q.z 1
    have c2 := R5.out.q.c2
    have z2 := R5.out.q.z 2
    have c3 := R5.out.q.c3
    have z3 := R5.out.q.z 3
    have c4 := R5.out.q.c4
    have z4 := R5.out.q.z 4
    have c5 := R5.out.q.c5
    have z5 := R5.out.q.z 5
    have c6 := R5.out.q.c6
    have z6 := R5.out.q.z 6
    have g0 := R5.out.five.cells.1
    have g1 := R5.out.five.cells.2.1
    have g2 := R5.out.five.cells.2.2.1
    have g3 := R5.out.five.cells.2.2.2.1
    have g4 := R5.out.five.cells.2.2.2.2
    go_upto_if 57 with (fail)
    go_cut [] (fun wn => ∃ b : Int, ((3 ≤ p0 ∧ 1 ≤ b ∧ b ≤ 3) ∨ (p0 < 3 ∧ b = 0)) ∧ Hid (QwRel w wn g x0 x1 x2 x3 x4 ⟨1 + p0, p1, p3, l, h, b, 0⟩))
    case first =>
      by_cases h3 : 3 ≤ p0
      · have e4 : (4 : Int) ≤ 1 + p0 := by omega
        have R6 := Lib.hid (R5.out.set5 (1 + p6))
        go_wp2_with (first | (go_at_call 27; (with_reducible refine (K6.out _).mono ?_); rintro e w' ⟨rfl, rfl⟩))
        go_meet
        exact ⟨_, .inl ⟨h3, by omega, by omega⟩, R6⟩
      · have e4 : ¬ (4 : Int) ≤ 1 + p0 := by omega
        go_wp2_with fail
        go_meet
        exact ⟨0, .inr ⟨by omega, rfl⟩, R5⟩
    case rest =>
    obtain ⟨qb, hqb, R6⟩ := hcut
    clear R5 c0 c1 c2 c3 c4 c5 c6 z0 z1 z2 z3 z4 z5 z6 g0 g1 g2 g3 g4
    have HQB := Lib.hid hqb
    clear hqb
    have c0 : wc.cell? ⟨g, 0, none⟩ = some (.int .i64 (1 + p0)) := R6.out.q.c0
    have c5 : wc.cell? ⟨g, 5, none⟩ = some (.int .i64 qb) := R6.out.q.c5
    have c6 : wc.cell? ⟨g, 6, none⟩ = some (.int .i64 0) := R6.out.q.c6
    have z5 := R6.out.q.z 5
    have z6 := R6.out.q.z 6
    have g4 := R6.out.five.cells.2.2.2.2
    go_upto_if 65 with (fail)
    go_cut [] (fun wn => ∃ q : Qry, Hid (QrOk q) ∧ Hid (QwRel w wn g x0 x1 x2 x3 x4 q))
    case first =>
      by_cases h6 : p0 = 6
      · subst h6
        have e7 : ((1 + 6 : Int) == 7) = true := by decide
        by_cases h8 : 0 < p8
        · have R8 := Lib.hid ((R6.out.set6 p7).set5 2)
          go_wp2_with (first | (go_at_call 27; (with_reducible refine (K7.out _).mono ?_); rintro e w' ⟨rfl, rfl⟩) | (go_at_call 27; (with_reducible refine (K7'.out _).mono ?_); rintro e w' ⟨rfl, rfl⟩) | (go_at_call 27; (with_reducible refine (K8.out _).mono ?_); rintro e w' ⟨rfl, rfl⟩) | (go_at_call 27; (with_reducible refine (K8'.out _).mono ?_); rintro e w' ⟨rfl, rfl⟩))
          go_meet
          exact ⟨_, Lib.hid (by
            refine ⟨?_, by dsimp only; omega, by dsimp only; omega, by dsimp only; omega, by dsimp only; omega, by dsimp only; omega, by dsimp only; omega⟩
            unfold Em.valid Em.base Em.within
            dsimp only
            simp
            omega), R8⟩
        · have R8 := Lib.hid (R6.out.set6 p7)
          go_wp2_with (first | (go_at_call 27; (with_reducible refine (K7.out _).mono ?_); rintro e w' ⟨rfl, rfl⟩) | (go_at_call 27; (with_reducible refine (K7'.out _).mono ?_); rintro e w' ⟨rfl, rfl⟩) | (go_at_call 27; (with_reducible refine (K8.out _).mono ?_); rintro e w' ⟨rfl, rfl⟩) | (go_at_call 27; (with_reducible refine (K8'.out _).mono ?_); rintro e w' ⟨rfl, rfl⟩))
          go_meet
          have hqb := HQB.out
          exact ⟨_, Lib.hid (by
            refine ⟨?_, by dsimp only; omega, by dsimp only; omega, by dsimp only; omega, by dsimp only; omega, by dsimp only; omega, by dsimp only; omega⟩
            unfold Em.valid Em.base Em.within
            dsimp only
            simp
            omega), R8⟩
      · have e7 : ((1 + p0 : Int) == 7) = false := by simp; omega
        go_wp2_with fail
        go_meet
        have hqb := HQB.out
        exact ⟨_, Lib.hid (by
          refine ⟨?_, by dsimp only; omega, by dsimp only; omega, by dsimp only; omega, by dsimp only; omega, by dsimp only; omega, by dsimp only; omega⟩
          unfold Em.valid Em.base Em.within
          dsimp only
          have hx : p0 = 1 ∨ p0 = 2 ∨ p0 = 3 ∨ p0 = 4 ∨ p0 = 5 := by omega
          rcases hx with rfl | rfl | rfl | rfl | rfl <;> simp <;> omega), R6⟩
    case rest =>
    obtain ⟨⟨qk, qt, qc, ql, qh, qb, qo⟩, HQR, R7⟩ := hcut
    clear R6 HQB c0 c5 c6 z5 z6 g4 b0 b1 b2 b3 b4 b5 b6 b7 b8 bl blh bh hk1 hk
    have HQF : Blk wc g 24 #[.int .i64 qk, .int .i64 qt, .int .i64 qc, .int .i64 ql, .int .i64 qh, .int .i64 qb, .int .i64 qo] := R7.out.q
    have HRF : Blk wc (w.heap.size + 1) 24 #[.int .i64 0, .int .i64 0, .int .i64 0, .int .i64 0, .int .i64 0, .int .i64 0, .int .i64 0] := R7.out.res
    go_upto_region 18 with (fail)
    go_cut [] (fun wn => Hid (QAt wn (w.heap.size + 1) ⟨qk, qt, qc, ql, qh, qb, qo⟩) ∧ Hid (Fr [] w wn))
    case first =>
      go_wp2_with (first
        | (refine wpList_load_row rfl _ _ rfl g rfl 24 _ (0, 0) _ HQF Try.underlying24 rfl (by kernel_rfl) ?_)
        | (refine wpList_store_blk rfl _ _ _ rfl (w.heap.size + 1) #[.int .i64 qk, .int .i64 qt, .int .i64 qc, .int .i64 ql, .int .i64 qh, .int .i64 qb, .int .i64 qo] rfl rfl 24 _ HRF (by kernel_rfl) rfl rfl ?_; intro w9 hb9 hf9; have HB9 := Lib.hid hb9; have HF9 := Lib.hid hf9; clear hb9 hf9))
      go_meet
      exact ⟨HB9, Lib.hid (R7.out.fr.trans' HF9.out (fun i hi => .inr (by rw [List.mem_singleton] at hi; omega)))⟩
    case rest =>
    obtain ⟨HB9, HF9⟩ := hcut
    clear R7 HQF HRF
    have HB9' : Blk wc (w.heap.size + 1) 24 #[.int .i64 qk, .int .i64 qt, .int .i64 qc, .int .i64 ql, .int .i64 qh, .int .i64 qb, .int .i64 qo] := HB9.out
    have r0 : wc.cell? ⟨w.heap.size + 1, 0, none⟩ = some (.int .i64 qk) := HB9'.cell 0
    have r1 : wc.cell? ⟨w.heap.size + 1, 1, none⟩ = some (.int .i64 qt) := HB9'.cell 1
    have r2 : wc.cell? ⟨w.heap.size + 1, 2, none⟩ = some (.int .i64 qc) := HB9'.cell 2
    have r3 : wc.cell? ⟨w.heap.size + 1, 3, none⟩ = some (.int .i64 ql) := HB9'.cell 3
    have r4 : wc.cell? ⟨w.heap.size + 1, 4, none⟩ = some (.int .i64 qh) := HB9'.cell 4
    have r5 : wc.cell? ⟨w.heap.size + 1, 5, none⟩ = some (.int .i64 qb) := HB9'.cell 5
    have r6 : wc.cell? ⟨w.heap.size + 1, 6, none⟩ = some (.int .i64 qo) := HB9'.cell 6
    refine (‹∀ (a : Act) (w : World), Code.wp Try.prog Code.ret _ a w → _› : _) _ _ ?_
    refine wp_ret ?_
    refine bodyPost_ret (v := .agg #[.int .i64 qk, .int .i64 qt, .int .i64 qc, .int .i64 ql, .int .i64 qh, .int .i64 qb, .int .i64 qo]) ?hr ?hd ?hR
    case hd => rfl
    case hR => exact ⟨⟨qk, qt, qc, ql, qh, qb, qo⟩, rfl, HQR.out, HF9.out⟩
    case hr =>
      simp [results, Try.results10, go_sem, r0, r1, r2, r3, r4, r5, r6]
end Go.Proofs.Ytjiikpmkedkbkaa
namespace Go.Proofs.Ytjiikpmkedkbkaa
open Go.RowKit Go.WideShapes Go.ChangeShapes


/-- The integers of a query fit. -/
structure QryFit (q : Qry) : Prop where
  k : okI q.kind
  t : okI q.table
  c : okI q.column
  lo : okI q.low
  hi : okI q.high
  b : okI q.by_
  o : okI q.other
set_option maxRecDepth 100000 in
theorem qryCells : Try.prog.cellsOf 24 = 7 := by kernel_rfl
set_option maxRecDepth 100000 in
theorem qryInt : Try.prog.cellsOf 3 = 1 := by kernel_rfl
set_option maxRecDepth 100000 in
theorem open_query {H : Type} {enc : TypeId × Value → H} {W : World} {base : Nat} {v : Value} {d : DataW H} {p : List MemPlace} (hv : Value.okWide Try.prog W .any base 24 v)
    (h : DataW.Trod enc Try.prog W 0 (fun _ => true) true 24 v d p) : ∃ q : Qry, v = q.val ∧ QryFit q := by
  obtain ⟨arr, rfl, hs⟩ := okWide_struct Try.underlying24 hv
  rw [qryCells] at hs
  obtain ⟨c0, c1, c2, c3, c4, c5, c6, rfl⟩ : ∃ c0 c1 c2 c3 c4 c5 c6, arr = #[c0, c1, c2, c3, c4, c5, c6] := by
    obtain ⟨l⟩ := arr
    match l, hs with
    | [c0, c1, c2, c3, c4, c5, c6], _ => exact ⟨_, _, _, _, _, _, _, rfl⟩
  obtain ⟨fuel, hf⟩ := h
  obtain ⟨xs, m, _, _, hl, hxl, hat⟩ := DataW.trod_struct Try.underlying24 hf
  have hxs : xs.length = 7 := hxl
  have h0 : DataW.trod enc Try.prog W 0 (fun _ => true) true m 3 (([c0, c1, c2, c3, c4, c5, c6].drop 0).take (Try.prog.cellsOf 3)) = xs[0]? := hat 0 _ rfl
  have h1 : DataW.trod enc Try.prog W 0 (fun _ => true) true m 3 (([c0, c1, c2, c3, c4, c5, c6].drop 1).take (Try.prog.cellsOf 3)) = xs[1]? := hat 1 _ rfl
  have h2 : DataW.trod enc Try.prog W 0 (fun _ => true) true m 3 (([c0, c1, c2, c3, c4, c5, c6].drop 2).take (Try.prog.cellsOf 3)) = xs[2]? := hat 2 _ rfl
  have h3 : DataW.trod enc Try.prog W 0 (fun _ => true) true m 3 (([c0, c1, c2, c3, c4, c5, c6].drop 3).take (Try.prog.cellsOf 3)) = xs[3]? := hat 3 _ rfl
  have h4 : DataW.trod enc Try.prog W 0 (fun _ => true) true m 3 (([c0, c1, c2, c3, c4, c5, c6].drop 4).take (Try.prog.cellsOf 3)) = xs[4]? := hat 4 _ rfl
  have h5 : DataW.trod enc Try.prog W 0 (fun _ => true) true m 3 (([c0, c1, c2, c3, c4, c5, c6].drop 5).take (Try.prog.cellsOf 3)) = xs[5]? := hat 5 _ rfl
  have h6 : DataW.trod enc Try.prog W 0 (fun _ => true) true m 3 (([c0, c1, c2, c3, c4, c5, c6].drop 6).take (Try.prog.cellsOf 3)) = xs[6]? := hat 6 _ rfl
  rw [List.getElem?_eq_getElem (by omega), qryInt] at h0 h1 h2 h3 h4 h5 h6
  obtain ⟨z0, e0, _, w0⟩ := DataW.trod_int Try.underlying3 h0
  obtain ⟨z1, e1, _, w1⟩ := DataW.trod_int Try.underlying3 h1
  obtain ⟨z2, e2, _, w2⟩ := DataW.trod_int Try.underlying3 h2
  obtain ⟨z3, e3, _, w3⟩ := DataW.trod_int Try.underlying3 h3
  obtain ⟨z4, e4, _, w4⟩ := DataW.trod_int Try.underlying3 h4
  obtain ⟨z5, e5, _, w5⟩ := DataW.trod_int Try.underlying3 h5
  obtain ⟨z6, e6, _, w6⟩ := DataW.trod_int Try.underlying3 h6
  injection e0 with e0
  injection e1 with e1
  injection e2 with e2
  injection e3 with e3
  injection e4 with e4
  injection e5 with e5
  injection e6 with e6
  subst e0 e1 e2 e3 e4 e5 e6
  exact ⟨⟨z0, z1, z2, z3, z4, z5, z6⟩, rfl, ⟨w0, w1, w2, w3, w4, w5, w6⟩⟩

/-- The integers of a row fit. -/
structure RowFit (r : RowV) : Prop where
  t : okI r.t
  k : okI r.k
  x : okI r.x
  y : okI r.y
  z : okI r.z
set_option maxRecDepth 100000 in
theorem rowCells : Try.prog.cellsOf 57 = 5 := by kernel_rfl
set_option maxRecDepth 100000 in
theorem threeCells : Try.prog.cellsOf 28 = 3 := by kernel_rfl
set_option maxRecDepth 100000 in
theorem boolCells : Try.prog.cellsOf 4 = 1 := by kernel_rfl
set_option maxRecDepth 100000 in
theorem rowsCells : Try.prog.cellsOf 25 = 1 := by kernel_rfl
set_option maxRecDepth 100000 in
theorem rsCells : Try.prog.cellsOf 27 = 3 := by kernel_rfl
section
variable {H : Type} {enc : TypeId × Value → H} {W : World}
set_option maxRecDepth 100000 in
theorem open_rowc {n : Nat} {cs : List Value} {x : DataW H × List MemPlace} (h : DataW.trod enc Try.prog W 0 (fun _ => true) true n 57 cs = some x) : ∃ c : RowV, cs = c.cells ∧ RowFit c := by
  obtain ⟨xs, m, _, _, hl, hxl, hat⟩ := DataW.trod_struct Try.underlying57 h
  rw [rowCells] at hl
  obtain ⟨c0, c1, c2, c3, c4, rfl⟩ : ∃ c0 c1 c2 c3 c4, cs = [c0, c1, c2, c3, c4] := by
    match cs, hl with
    | [c0, c1, c2, c3, c4], _ => exact ⟨_, _, _, _, _, rfl⟩
  have hxs : xs.length = 3 := hxl
  have h0 : DataW.trod enc Try.prog W 0 (fun _ => true) true m 3 (([c0, c1, c2, c3, c4].drop 0).take (Try.prog.cellsOf 3)) = xs[0]? := hat 0 _ rfl
  have h1 : DataW.trod enc Try.prog W 0 (fun _ => true) true m 3 (([c0, c1, c2, c3, c4].drop 1).take (Try.prog.cellsOf 3)) = xs[1]? := hat 1 _ rfl
  have h2 : DataW.trod enc Try.prog W 0 (fun _ => true) true m 28 (([c0, c1, c2, c3, c4].drop 2).take (Try.prog.cellsOf 28)) = xs[2]? := hat 2 _ rfl
  rw [List.getElem?_eq_getElem (by omega)] at h0 h1 h2
  rw [qryInt] at h0 h1
  rw [threeCells] at h2
  obtain ⟨z0, e0, _, w0⟩ := DataW.trod_int Try.underlying3 h0
  obtain ⟨z1, e1, _, w1⟩ := DataW.trod_int Try.underlying3 h1
  obtain ⟨y2, y3, y4, n2, _, g2, g3, g4⟩ := trod_array3 (c0 := c2) (c1 := c3) (c2 := c4) Try.underlying28 qryInt h2
  obtain ⟨z2, e2, _, w2⟩ := DataW.trod_int Try.underlying3 g2
  obtain ⟨z3, e3, _, w3⟩ := DataW.trod_int Try.underlying3 g3
  obtain ⟨z4, e4, _, w4⟩ := DataW.trod_int Try.underlying3 g4
  have k0 : [c0] = [Value.int .i64 z0] := e0
  have k1 : [c1] = [Value.int .i64 z1] := e1
  injection k0 with k0
  injection k1 with k1
  injection e2 with k2
  injection e3 with k3
  injection e4 with k4
  subst k0 k1 k2 k3 k4
  exact ⟨⟨z0, z1, z2, z3, z4⟩, rfl, ⟨w0, w1, w2, w3, w4⟩⟩
theorem addr_add (b o j : Nat) : (⟨b, o, none⟩ : Addr).add j = ⟨b, o + j, none⟩ := by unfold Addr.add; split <;> simp_all
/-- Rows that were handed in. -/
theorem open_rowsv {n : Nat} {cv : Value} {x : DataW H × List MemPlace} (h : DataW.trod enc Try.prog W 0 (fun _ => true) true n 25 [cv] = some x) :
    ∃ A len cap cs, cv = .slice A len cap ∧ len ≤ cap ∧ cap ≤ maxLen ∧ cs.length = len ∧ RowsAt W A cs ∧ ∀ c ∈ cs, RowFit c := by
  rcases Go.Deep.open_slice Try.underlying25 h with ⟨hcs, _⟩ | ⟨a, len, cap, m, n, D, Pl, hcs, _, hl, hm, hmm, _, hi⟩
  · injection hcs with hcs
    subst hcs
    exact ⟨none, 0, 0, [], rfl, Nat.le_refl _, by simp [maxLen], rfl, fun h => absurd h (by simp), by simp⟩
  · injection hcs with hcs
    subst hcs
    simp only [if_true] at hmm
    subst hmm
    have each : ∀ i, i < len → ∃ c : RowV, (∀ j, j < 5 → W.cell? ((a.add (i * 5)).add j) = c.cells[j]?) ∧ RowFit c := fun i hil => by
      obtain ⟨cs', hc, ht⟩ := hi i (by omega)
      rw [rowCells] at hc
      obtain ⟨c, rfl, hf⟩ := open_rowc ht
      obtain ⟨_, hcl, hcell⟩ := World.cells?_some hc
      exact ⟨c, fun j hj => hcell j hj, hf⟩
    refine ⟨some a, len, _, (List.range len).map (fun i => if h : i < len then (each i h).choose else ⟨0, 0, 0, 0, 0⟩), rfl, hl, hm, by simp, fun hp => ?_, fun c hc => ?_⟩
    · have h0 : 0 < len := by simpa using hp
      obtain ⟨b, off, spot⟩ := a
      have hz := (each 0 h0).choose_spec.1 0 (by decide)
      generalize (each 0 h0).choose = c0 at hz
      have hz' : W.cell? ((({ block := b, off := off, spot := spot } : Addr).add (0 * 5)).add 0) = some (.int .i64 c0.t) := hz
      have hspot : spot = none := by simpa [Addr.add] using World.cell?_spot hz'
      subst hspot
      refine ⟨b, off, rfl, ?_, fun i hil j hj => ?_⟩
      · have h4 := World.block_lt_of_cell? W _ hz'
        simpa [Addr.add] using h4
      · have hil' : i < len := by simpa using hil
        have h5 := (each i hil').choose_spec.1 j hj
        have e5 : ((⟨b, off, none⟩ : Addr).add (i * 5)).add j = ⟨b, off + i * 5 + j, none⟩ := by rw [addr_add, addr_add]
        rw [← e5]
        refine h5.trans ?_
        simp only [List.getElem_map, List.getElem_range, dif_pos hil']
    · obtain ⟨i, hir, rfl⟩ := List.mem_map.1 hc
      have hil : i < len := by simpa using hir
      rw [dif_pos hil]
      exact (each i hil).choose_spec.2
set_option maxRecDepth 100000 in
theorem open_rows {base : Nat} {v : Value} {d : DataW H} {p : List MemPlace} (hv : Value.okWide Try.prog W .any base 25 v)
    (h : DataW.Trod enc Try.prog W 0 (fun _ => true) true 25 v d p) :
    ∃ A n cap L, v = .slice A n cap ∧ n ≤ cap ∧ cap ≤ maxLen ∧ L.length = n ∧ RowsAt W A L ∧ ∀ r ∈ L, RowFit r := by
  obtain ⟨a0, len, cap, rfl⟩ := okWide_slice Try.underlying25 hv
  obtain ⟨fuel, hf⟩ := h
  obtain ⟨A, n, c, cs, e, h1, h2, h3, h4, h5⟩ := open_rowsv (cv := .slice a0 len cap) hf
  exact ⟨A, n, c, cs, e, h1, h2, h3, h4, h5⟩
set_option maxRecDepth 100000 in
theorem open_result {base : Nat} {v : Value} {d : DataW H} {p : List MemPlace} (hv : Value.okWide Try.prog W .any base 27 v)
    (h : DataW.Trod enc Try.prog W 0 (fun _ => true) true 27 v d p) :
    ∃ A n cap L z f, v = .agg #[.slice A n cap, .int .i64 z, .bool f] ∧ n ≤ cap ∧ cap ≤ maxLen ∧ L.length = n ∧ RowsAt W A L ∧ okI z := by
  obtain ⟨arr, rfl, hs⟩ := okWide_struct Try.underlying27 hv
  rw [rsCells] at hs
  obtain ⟨c0, c1, c2, rfl⟩ : ∃ c0 c1 c2, arr = #[c0, c1, c2] := by
    obtain ⟨l⟩ := arr
    match l, hs with
    | [c0, c1, c2], _ => exact ⟨_, _, _, rfl⟩
  obtain ⟨fuel, hf⟩ := h
  obtain ⟨xs, m, _, _, hl, hxl, hat⟩ := DataW.trod_struct Try.underlying27 hf
  have hxs : xs.length = 3 := hxl
  have h0 : DataW.trod enc Try.prog W 0 (fun _ => true) true m 25 (([c0, c1, c2].drop 0).take (Try.prog.cellsOf 25)) = xs[0]? := hat 0 _ rfl
  have h1 : DataW.trod enc Try.prog W 0 (fun _ => true) true m 3 (([c0, c1, c2].drop 1).take (Try.prog.cellsOf 3)) = xs[1]? := hat 1 _ rfl
  have h2 : DataW.trod enc Try.prog W 0 (fun _ => true) true m 4 (([c0, c1, c2].drop 2).take (Try.prog.cellsOf 4)) = xs[2]? := hat 2 _ rfl
  rw [List.getElem?_eq_getElem (by omega)] at h0 h1 h2
  rw [rowsCells] at h0
  rw [qryInt] at h1
  rw [boolCells] at h2
  obtain ⟨A, n, c, cs, e, g1, g2, g3, g4, g5⟩ := open_rowsv (cv := c0) h0
  obtain ⟨z1, e1, _, w1⟩ := DataW.trod_int Try.underlying3 h1
  obtain ⟨z2, e2, _⟩ := DataW.trod_bool Try.underlying4 h2
  have k1 : [c1] = [Value.int .i64 z1] := e1
  have k2 : [c2] = [Value.bool z2] := e2
  injection k1 with k1
  injection k2 with k2
  subst e k1 k2
  exact ⟨A, n, c, cs, z1, z2, rfl, g1, g2, g3, g4, w1⟩
end
/-- The integers of a change fit. -/
structure ChgFit (c : Chg) : Prop where
  t : okI c.t
  k : okI c.k
  o0 : okI c.o0
  o1 : okI c.o1
  o2 : okI c.o2
  n0 : okI c.n0
  n1 : okI c.n1
  n2 : okI c.n2
set_option maxRecDepth 100000 in
theorem chgCells : Try.prog.cellsOf 30 = 10 := by kernel_rfl
section
variable {H : Type} {enc : TypeId × Value → H} {W : World}
set_option maxRecDepth 100000 in
theorem open_chg {n : Nat} {cs : List Value} {x : DataW H × List MemPlace} (h : DataW.trod enc Try.prog W 0 (fun _ => true) true n 30 cs = some x) : ∃ c : Chg, cs = c.cells ∧ ChgFit c := by
  obtain ⟨xs, m, _, _, hl, hxl, hat⟩ := DataW.trod_struct Try.underlying30 h
  rw [chgCells] at hl
  obtain ⟨c0, c1, c2, c3, c4, c5, c6, c7, c8, c9, rfl⟩ : ∃ c0 c1 c2 c3 c4 c5 c6 c7 c8 c9, cs = [c0, c1, c2, c3, c4, c5, c6, c7, c8, c9] := by
    match cs, hl with
    | [c0, c1, c2, c3, c4, c5, c6, c7, c8, c9], _ => exact ⟨_, _, _, _, _, _, _, _, _, _, rfl⟩
  have hxs : xs.length = 6 := hxl
  have h0 : DataW.trod enc Try.prog W 0 (fun _ => true) true m 3 (([c0, c1, c2, c3, c4, c5, c6, c7, c8, c9].drop 0).take (Try.prog.cellsOf 3)) = xs[0]? := hat 0 _ rfl
  have h1 : DataW.trod enc Try.prog W 0 (fun _ => true) true m 3 (([c0, c1, c2, c3, c4, c5, c6, c7, c8, c9].drop 1).take (Try.prog.cellsOf 3)) = xs[1]? := hat 1 _ rfl
  have h2 : DataW.trod enc Try.prog W 0 (fun _ => true) true m 4 (([c0, c1, c2, c3, c4, c5, c6, c7, c8, c9].drop 2).take (Try.prog.cellsOf 4)) = xs[2]? := hat 2 _ rfl
  have h3 : DataW.trod enc Try.prog W 0 (fun _ => true) true m 28 (([c0, c1, c2, c3, c4, c5, c6, c7, c8, c9].drop 3).take (Try.prog.cellsOf 28)) = xs[3]? := hat 3 _ rfl
  have h4 : DataW.trod enc Try.prog W 0 (fun _ => true) true m 4 (([c0, c1, c2, c3, c4, c5, c6, c7, c8, c9].drop 6).take (Try.prog.cellsOf 4)) = xs[4]? := hat 4 _ rfl
  have h5 : DataW.trod enc Try.prog W 0 (fun _ => true) true m 28 (([c0, c1, c2, c3, c4, c5, c6, c7, c8, c9].drop 7).take (Try.prog.cellsOf 28)) = xs[5]? := hat 5 _ rfl
  rw [List.getElem?_eq_getElem (by omega)] at h0 h1 h2 h3 h4 h5
  rw [qryInt] at h0 h1
  rw [boolCells] at h2 h4
  rw [threeCells] at h3 h5
  obtain ⟨z0, e0, _, w0⟩ := DataW.trod_int Try.underlying3 h0
  obtain ⟨z1, e1, _, w1⟩ := DataW.trod_int Try.underlying3 h1
  obtain ⟨z2, e2, _⟩ := DataW.trod_bool Try.underlying4 h2
  obtain ⟨z6, e6, _⟩ := DataW.trod_bool Try.underlying4 h4
  obtain ⟨y3, y4, y5, n3, _, g3, g4, g5⟩ := trod_array3 (c0 := c3) (c1 := c4) (c2 := c5) Try.underlying28 qryInt h3
  obtain ⟨y7, y8, y9, n7, _, g7, g8, g9⟩ := trod_array3 (c0 := c7) (c1 := c8) (c2 := c9) Try.underlying28 qryInt h5
  obtain ⟨z3, e3, _, w3⟩ := DataW.trod_int Try.underlying3 g3
  obtain ⟨z4, e4, _, w4⟩ := DataW.trod_int Try.underlying3 g4
  obtain ⟨z5, e5, _, w5⟩ := DataW.trod_int Try.underlying3 g5
  obtain ⟨z7, e7, _, w7⟩ := DataW.trod_int Try.underlying3 g7
  obtain ⟨z8, e8, _, w8⟩ := DataW.trod_int Try.underlying3 g8
  obtain ⟨z9, e9, _, w9⟩ := DataW.trod_int Try.underlying3 g9
  have k0 : [c0] = [Value.int .i64 z0] := e0
  have k1 : [c1] = [Value.int .i64 z1] := e1
  have k2 : [c2] = [Value.bool z2] := e2
  have k6 : [c6] = [Value.bool z6] := e6
  injection k0 with k0
  injection k1 with k1
  injection k2 with k2
  injection e3 with k3
  injection e4 with k4
  injection e5 with k5
  injection k6 with k6
  injection e7 with k7
  injection e8 with k8
  injection e9 with k9
  subst k0 k1 k2 k3 k4 k5 k6 k7 k8 k9
  exact ⟨⟨z0, z1, z2, z3, z4, z5, z6, z7, z8, z9⟩, rfl, ⟨w0, w1, w3, w4, w5, w7, w8, w9⟩⟩
set_option maxRecDepth 100000 in
theorem open_change {base : Nat} {v : Value} {d : DataW H} {p : List MemPlace} (hv : Value.okWide Try.prog W .any base 30 v)
    (h : DataW.Trod enc Try.prog W 0 (fun _ => true) true 30 v d p) : ∃ c : Chg, v = c.val ∧ ChgFit c := by
  obtain ⟨arr, rfl, hs⟩ := okWide_struct Try.underlying30 hv
  obtain ⟨fuel, hf⟩ := h
  obtain ⟨l⟩ := arr
  obtain ⟨c, hc, hfit⟩ := open_chg hf
  have hc' : l = c.cells := hc
  subst hc'
  exact ⟨c, rfl, hfit⟩
set_option maxRecDepth 100000 in
theorem fiveCells : Try.prog.cellsOf 22 = 5 := by kernel_rfl
set_option maxRecDepth 100000 in
theorem open_five {base : Nat} {v : Value} {d : DataW H} {p : List MemPlace} (hv : Value.okWide Try.prog W .any base 22 v)
    (h : DataW.Trod enc Try.prog W 0 (fun _ => true) true 22 v d p) :
    ∃ a b c e f, v = .agg #[.int .i64 a, .int .i64 b, .int .i64 c, .int .i64 e, .int .i64 f] ∧ okI a ∧ okI b ∧ okI c ∧ okI e ∧ okI f := by
  unfold Value.okWide at hv
  rw [Try.underlying22] at hv
  obtain ⟨cs, rfl, hs, _⟩ := hv
  rw [fiveCells] at hs
  obtain ⟨c0, c1, c2, c3, c4, rfl⟩ : ∃ c0 c1 c2 c3 c4, cs = #[c0, c1, c2, c3, c4] := by
    obtain ⟨l⟩ := cs
    match l, hs with
    | [c0, c1, c2, c3, c4], _ => exact ⟨c0, c1, c2, c3, c4, rfl⟩
  obtain ⟨fuel, ht⟩ := h
  obtain ⟨xs, q, _, _, hlen, hxl, hat⟩ := DataW.trod_array Try.underlying22 ht
  rw [qryInt] at hat
  have h0 := hat 0 (by omega)
  have h1 := hat 1 (by omega)
  have h2 := hat 2 (by omega)
  have h3 := hat 3 (by omega)
  have h4 := hat 4 (by omega)
  rw [List.getElem?_eq_getElem (by omega)] at h0 h1 h2 h3 h4
  obtain ⟨z0, e0, _, w0⟩ := DataW.trod_int Try.underlying3 h0
  obtain ⟨z1, e1, _, w1⟩ := DataW.trod_int Try.underlying3 h1
  obtain ⟨z2, e2, _, w2⟩ := DataW.trod_int Try.underlying3 h2
  obtain ⟨z3, e3, _, w3⟩ := DataW.trod_int Try.underlying3 h3
  obtain ⟨z4, e4, _, w4⟩ := DataW.trod_int Try.underlying3 h4
  have k0 : [c0] = [Value.int .i64 z0] := e0
  have k1 : [c1] = [Value.int .i64 z1] := e1
  have k2 : [c2] = [Value.int .i64 z2] := e2
  have k3 : [c3] = [Value.int .i64 z3] := e3
  have k4 : [c4] = [Value.int .i64 z4] := e4
  injection k0 with k0
  injection k1 with k1
  injection k2 with k2
  injection k3 with k3
  injection k4 with k4
  subst k0 k1 k2 k3 k4
  exact ⟨z0, z1, z2, z3, z4, rfl, w0, w1, w2, w3, w4⟩
end

end Go.Proofs.Ytjiikpmkedkbkaa
namespace Go.Proofs.Ytjiikpmkedkbkaa
open Go.RowKit

namespace Pm
/-- The row before or behind a change, zero if there is none. -/
def rowB (c : Chg) : RowV := if c.had = true then ⟨c.t, c.k, c.o0, c.o1, c.o2⟩ else ⟨0, 0, 0, 0, 0⟩
def rowA (c : Chg) : RowV := if c.has = true then ⟨c.t, c.k, c.n0, c.n1, c.n2⟩ else ⟨0, 0, 0, 0, 0⟩
theorem inB (q : Qry) (c : Chg) : (c.had && inq q (rowB c)) = (B q c).isSome := by
  unfold B sc bef rowB
  cases c.had with
  | false => rfl
  | true =>
    rw [if_pos rfl, if_pos rfl]
    cases h : inq q ⟨c.t, c.k, c.o0, c.o1, c.o2⟩ <;> simp [Option.filter, h]
theorem inA (q : Qry) (c : Chg) : (c.has && inq q (rowA c)) = (A q c).isSome := by
  unfold A sc aft rowA
  cases c.has with
  | false => rfl
  | true =>
    rw [if_pos rfl, if_pos rfl]
    cases h : inq q ⟨c.t, c.k, c.n0, c.n1, c.n2⟩ <;> simp [Option.filter, h]
theorem B_some {q : Qry} {c : Chg} {b : RowV} (h : B q c = some b) : b = rowB c := by
  unfold B sc bef at h
  unfold rowB
  cases hh : c.had with
  | false => rw [hh] at h; cases h
  | true =>
    rw [hh, if_pos rfl] at h
    rw [if_pos rfl]
    cases hi : inq q ⟨c.t, c.k, c.o0, c.o1, c.o2⟩ <;> simp [Option.filter, hi] at h
    exact h.symm
theorem A_some {q : Qry} {c : Chg} {b : RowV} (h : A q c = some b) : b = rowA c := by
  unfold A sc aft at h
  unfold rowA
  cases hh : c.has with
  | false => rw [hh] at h; cases h
  | true =>
    rw [hh, if_pos rfl] at h
    rw [if_pos rfl]
    cases hi : inq q ⟨c.t, c.k, c.n0, c.n1, c.n2⟩ <;> simp [Option.filter, hi] at h
    exact h.symm
theorem mB (q : Qry) (c : Chg) : (if (B q c).isSome = true then (rowB c).value q.by_ else 0) = old q c := by
  unfold old
  cases h : B q c with
  | none => rfl
  | some b => rw [B_some h]; rfl
theorem mA (q : Qry) (c : Chg) : (if (A q c).isSome = true then (rowA c).value q.by_ else 0) = now q c := by
  unfold now
  cases h : A q c with
  | none => rfl
  | some b => rw [A_some h]; rfl
end Pm
theorem rhad_row (c : Chg) (w : World) : Calls Try.prog 21 #[c.val] w fun e w' => e = .returned (.tuple #[(Pm.rowB c).val, .bool c.had]) ∧ Fr [] w w' := by
  have h := rfBefore_any c w
  have e : (if c.had = true then rowVal c.t c.k c.o0 c.o1 c.o2 else rowVal 0 0 0 0 0) = (Pm.rowB c).val := by
    unfold Pm.rowB
    split <;> rfl
  rw [e] at h
  exact h
theorem rhas_row (c : Chg) (w : World) : Calls Try.prog 22 #[c.val] w fun e w' => e = .returned (.tuple #[(Pm.rowA c).val, .bool c.has]) ∧ Fr [] w w' := by
  have h := rfAfter_any c w
  have e : (if c.has = true then rowVal c.t c.k c.n0 c.n1 c.n2 else rowVal 0 0 0 0 0) = (Pm.rowA c).val := by
    unfold Pm.rowA
    split <;> rfl
  rw [e] at h
  exact h
end Go.Proofs.Ytjiikpmkedkbkaa
namespace Go.Proofs.Ytjiikpmkedkbkaa
open Go.RowKit

theorem Em.valid_base {q : Qry} (h : Em.base q = false) : Em.valid q = false := by
  unfold Em.valid
  rw [h]
  simp
theorem rwithin_any (n a b : Int) (w : World) : Calls Try.prog 47 #[.int .i64 n, .int .i64 a, .int .i64 b] w fun e w' => e = .returned (.bool (Em.within n a b)) ∧ w = w' := by
  go_enter Try.func47, Try.ntmps47
  by_cases h1 : a ≤ n
  · by_cases h2 : n ≤ b
    · go_wp2
      go_ret
      simp [Em.within, h1, h2]
    · go_wp2
      go_ret
      simp [Em.within, h1, h2]
  · have e : Em.within n a b = false := by simp [Em.within, h1]
    have E := Lib.hid e
    clear e
    go_wp2
    go_ret
    rw [E.out]
    exact ⟨rfl, rfl⟩
set_option maxRecDepth 100000 in
set_option maxHeartbeats 4000000 in
theorem rvalid_any (q : Qry) (w : World) : Calls Try.prog 25 #[q.val] w fun e w' => e = .returned (.bool (Em.valid q)) ∧ Fr [] w w' := by
  have F0 : Hid (Fr [] w (w.alloc (.cells #[.int .i64 q.kind, .int .i64 q.table, .int .i64 q.column, .int .i64 q.low, .int .i64 q.high, .int .i64 q.by_, .int .i64 q.other] 24))) := Lib.hid ((Fr.refl _ _).alloc _)
  have HB := Lib.hid (QAt.new w q)
  have HW := Lib.hid rwithin_any
  obtain ⟨k, t, c, lo, hi, b, o⟩ := q
  unfold Qry.val
  dsimp only at *
  have c0 := HB.out.c0
  have c1 := HB.out.c1
  have c2 := HB.out.c2
  have c3 := HB.out.c3
  have c4 := HB.out.c4
  have c5 := HB.out.c5
  have c6 := HB.out.c6
  dsimp only at c0 c1 c2 c3 c4 c5 c6
  go_enter Try.func25, Try.ntmps25
  go_upto_region 1 with (fail)
  generalize w.alloc (.cells #[.int .i64 k, .int .i64 t, .int .i64 c, .int .i64 lo, .int .i64 hi, .int .i64 b, .int .i64 o] 24) = w1 at *
  go_cut [37] (fun v wc => w1 = wc ∧ ∃ nb : Bool, v = .bool nb ∧ nb = !Em.base ⟨k, t, c, lo, hi, b, o⟩)
  case first =>
    go_wp2_with fail
    all_goals
      go_meet
      case rel => exact ⟨rfl, _, rfl, by rw [Bool.eq_iff_iff]; simp [Em.base, Em.within]; omega⟩
  case rest =>
    obtain ⟨rfl, nb, rfl, hnb⟩ := hcut
    cases nb
    case true =>
      have hbs : Em.base ⟨k, t, c, lo, hi, b, o⟩ = false := by simpa using hnb
      clear hnb
      have E : Hid (Em.valid ⟨k, t, c, lo, hi, b, o⟩ = false) := Lib.hid (Em.valid_base hbs)
      clear hbs
      go_wp2_with fail
      go_ret
      exact ⟨by rw [E.out]; rfl, F0.out⟩
    case false =>
      have hbs : Em.base ⟨k, t, c, lo, hi, b, o⟩ = true := by simpa using hnb
      clear hnb
      by_cases k1 : k = 1
      · subst k1
        cases h1 : Em.within lo 1 1000000
        · go_wp2_with (go_at_call 47; refine (HW.out _ _ _ _).mono ?_; rintro e w' ⟨rfl, rfl⟩)
          all_goals
            go_ret
            exact ⟨by simp_all [Em.valid] <;> rfl, F0.out⟩
        · skip
          go_wp2_with (go_at_call 47; refine (HW.out _ _ _ _).mono ?_; rintro e w' ⟨rfl, rfl⟩)
          all_goals
            go_ret
            exact ⟨by simp_all [Em.valid] <;> rfl, F0.out⟩
      · skip
        by_cases k2 : k = 2
        · subst k2
          go_wp2_with (go_at_call 47; refine (HW.out _ _ _ _).mono ?_; rintro e w' ⟨rfl, rfl⟩)
          all_goals
            go_ret
            exact ⟨by simp_all [Em.valid] <;> rfl, F0.out⟩
        · skip
          by_cases k3 : k = 3
          · subst k3
            go_wp2_with (go_at_call 47; refine (HW.out _ _ _ _).mono ?_; rintro e w' ⟨rfl, rfl⟩)
            all_goals
              go_ret
              exact ⟨by simp_all [Em.valid] <;> rfl, F0.out⟩
          · skip
            by_cases k4 : k = 4
            · subst k4
              cases h3 : Em.within b 1 3
              · go_wp2_with (go_at_call 47; refine (HW.out _ _ _ _).mono ?_; rintro e w' ⟨rfl, rfl⟩)
                all_goals
                  go_ret
                  exact ⟨by simp_all [Em.valid] <;> rfl, F0.out⟩
              · skip
                go_wp2_with (go_at_call 47; refine (HW.out _ _ _ _).mono ?_; rintro e w' ⟨rfl, rfl⟩)
                all_goals
                  go_ret
                  exact ⟨by simp_all [Em.valid] <;> rfl, F0.out⟩
            · skip
              by_cases k5 : k = 5
              · subst k5
                cases h3 : Em.within b 1 3
                · go_wp2_with (go_at_call 47; refine (HW.out _ _ _ _).mono ?_; rintro e w' ⟨rfl, rfl⟩)
                  all_goals
                    go_ret
                    exact ⟨by simp_all [Em.valid] <;> rfl, F0.out⟩
                · skip
                  go_wp2_with (go_at_call 47; refine (HW.out _ _ _ _).mono ?_; rintro e w' ⟨rfl, rfl⟩)
                  all_goals
                    go_ret
                    exact ⟨by simp_all [Em.valid] <;> rfl, F0.out⟩
              · skip
                by_cases k6 : k = 6
                · subst k6
                  cases h3 : Em.within b 1 3
                  · go_wp2_with (go_at_call 47; refine (HW.out _ _ _ _).mono ?_; rintro e w' ⟨rfl, rfl⟩)
                    all_goals
                      go_ret
                      exact ⟨by simp_all [Em.valid] <;> rfl, F0.out⟩
                  · skip
                    go_wp2_with (go_at_call 47; refine (HW.out _ _ _ _).mono ?_; rintro e w' ⟨rfl, rfl⟩)
                    all_goals
                      go_ret
                      exact ⟨by simp_all [Em.valid] <;> rfl, F0.out⟩
                · skip
                  by_cases k7 : k = 7
                  · subst k7
                    cases h3 : Em.within b 1 3
                    · go_wp2_with (go_at_call 47; refine (HW.out _ _ _ _).mono ?_; rintro e w' ⟨rfl, rfl⟩)
                      all_goals
                        go_ret
                        exact ⟨by simp_all [Em.valid] <;> rfl, F0.out⟩
                    · skip
                      cases h2 : Em.within o 0 3
                      · go_wp2_with (go_at_call 47; refine (HW.out _ _ _ _).mono ?_; rintro e w' ⟨rfl, rfl⟩)
                        all_goals
                          go_ret
                          exact ⟨by simp_all [Em.valid] <;> rfl, F0.out⟩
                      · skip
                        go_wp2_with (go_at_call 47; refine (HW.out _ _ _ _).mono ?_; rintro e w' ⟨rfl, rfl⟩)
                        all_goals
                          go_ret
                          exact ⟨by simp_all [Em.valid] <;> rfl, F0.out⟩
                  · skip
                    have e1 : (k == 1) = false := by simp [k1]
                    have e2 : (k == 2) = false := by simp [k2]
                    have e3 : (k == 3) = false := by simp [k3]
                    have e4 : (k == 4) = false := by simp [k4]
                    have e5 : (k == 5) = false := by simp [k5]
                    have e6 : (k == 6) = false := by simp [k6]
                    have e7 : (k == 7) = false := by simp [k7]
                    go_wp2_with (go_at_call 47; refine (HW.out _ _ _ _).mono ?_; rintro e w' ⟨rfl, rfl⟩)
                    all_goals
                      go_ret
                      exact ⟨by simp_all [Em.valid] <;> rfl, F0.out⟩
end Go.Proofs.Ytjiikpmkedkbkaa
