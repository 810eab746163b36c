/-
  A REGION THAT DRAWS ITS ORDER: a head that reads and calls, walked once in a class of worlds, and a tail that waits for the head, walked as it stands.
-/
import Derived.Test.YthiaaminkfkjpaaGreatGal
import Derived.Test.YthiaaminkfkjpaaGreatGaa
import Derived.StillTail
import Derived.Deep.QuietTactic
import Derived.Sort.Grow
import Derived.Shelf.SlSortCmp.QuietGrown
namespace Go.Proofs.YthiaaminkfkjpaaGreat
open Go.RowKit Go.ChangeMaps

section
variable {K V : Type} {P : Program} {t k e : TypeId} {ek : K → Value} {kl : K → Lit} {ev : V → Value} {ok : K → Prop} {z : Value} {o : Oper} {a : Act} {Q : Exit → Act → World → Prop} {ops : Array Oper} {rest : List Oper}
/-- An entry of a map's literal. -/
theorem wpList_vins [DecidableEq K] (w : World) (hg : o.guard = none) (m x v : Operand) (hop : o.op = Op.insert t m x v) (T : MT P t k e ek kl ev ok z) (b : Nat) (M : List (K × V)) (hm : a.eval m = .map (some b)) (h : VMap P k kl ev w b M) (x0 : K) (u0 : V) (hx : a.eval x = ek x0) (hv : a.eval v = ev u0) (hok : ok x0) (hn : M.length < maxLen)
    (hK : ∀ w', VMap P k kl ev w' b (mput M x0 u0) → w.mapTurned w' b → wpList P ops Q rest (a.put o.dst undef) w') : wpList P ops Q (o :: rest) a w :=
  wpList_plain hg fun _ hC => by
    obtain ⟨w', hrun, r1, r2⟩ := h.store T x0 hok u0 hn
    unfold Oper.wp
    simp [execOp, hop, hm, hx, hv, hrun, Result.andThen]
    exact hC _ _ (hK w' r1 r2)
end
theorem Blk.newP {w : World} {g t : Nat} {cs : Array Value} (h : g = w.heap.size) : Blk (w.alloc (.cells cs t)) g t cs := by
  subst h
  exact Blk.new w t cs
abbrev evK (p : Value × Value) : Value := .agg #[p.1, p.2]
theorem tyKind : MT Tryz.prog 116 3 115 (Value.int .i64) (Lit.int .i64) evK okI (.agg #[.nilFunc, .nilFunc]) where
  keyed := Maps.int_keyed Tryz.underlying3
  ht := Tryz.underlying116
  key := fun x hx => Maps.keyOf_int_mk Tryz.underlying3 hx
  inj := fun x y h => by injection h
  zero := fun w => by kernel_rfl
/-- What the map holds. -/
def KM (g5 g6 : Nat) : List (Int × Value × Value) := (mput (mput (mput (mput (mput (mput (mput ([] : List (Int × Value × Value)) 1 (fnV 75, fnV 76)) 2 (fnV 75, fnV 76)) 3 (fnV 77, fnV 78)) 4 (fnV 79, fnV 80)) 5 (fnV 81, .func (.func 101) #[] #[.pointer (some ⟨g5, 0, none⟩)])) 6 (fnV 84, .func (.func 101) #[] #[.pointer (some ⟨g6, 0, none⟩)])) 7 (fnV 86, fnV 87))
theorem KM.get (g5 g6 : Nat) : mget (KM g5 g6) 1 = some (fnV 75, fnV 76) ∧ mget (KM g5 g6) 2 = some (fnV 75, fnV 76) ∧ mget (KM g5 g6) 3 = some (fnV 77, fnV 78) ∧ mget (KM g5 g6) 4 = some (fnV 79, fnV 80) ∧ mget (KM g5 g6) 5 = some (fnV 81, .func (.func 101) #[] #[.pointer (some ⟨g5, 0, none⟩)]) ∧ mget (KM g5 g6) 6 = some (fnV 84, .func (.func 101) #[] #[.pointer (some ⟨g6, 0, none⟩)]) ∧ mget (KM g5 g6) 7 = some (fnV 86, fnV 87) := by
  refine ⟨by simp [KM, mget, mput, mdel], by simp [KM, mget, mput, mdel], by simp [KM, mget, mput, mdel], by simp [KM, mget, mput, mdel], by simp [KM, mget, mput, mdel], by simp [KM, mget, mput, mdel], by simp [KM, mget, mput, mdel]⟩
set_option maxRecDepth 100000 in
set_option maxHeartbeats 4000000 in
theorem kinds_any (w : World) : Calls Tryz.prog 62 #[] w fun e w' => ∃ b g5 g6, e = .returned (.map (some b)) ∧ VMap Tryz.prog 3 (Lit.int .i64) evK w' b (KM g5 g6) ∧ Blk w' g5 105 #[fnV 83] ∧ Blk w' g6 105 #[fnV 85] ∧ Fr [] w w' := by
  have V0 : Hid (VMap Tryz.prog 3 (Lit.int .i64) evK (w.alloc (.map #[] 0)) w.heap.size []) := Lib.hid (VMap.made _ _ _)
  have F0 : Hid (Fr [] w (w.alloc (.map #[] 0))) := Lib.hid ((Fr.refl _ _).alloc _)
  have S0 : Hid (w.heap.size < (w.alloc (.map #[] 0)).heap.size) := Lib.hid (by simp [World.size_alloc])
  have HX := Lib.hid pextreme_any
  have hmm := @run_makeMap Tryz.prog
  go_enter Tryz.func62, Tryz.ntmps62
  go_wp2_with (first
    | (refine wpList_vins _ rfl _ (.const (.int .i64 1)) _ rfl tyKind w.heap.size ([] : List (Int × Value × Value)) rfl V0.out 1 (fnV 75, fnV 76) rfl rfl (okI_mk (by decide) (by decide)) (by simp [maxLen]) ?_; intro w1 h1 t1; have V1 := Lib.hid h1; have F1 := Lib.hid (F0.out.trans' (turned_fr t1 (List.mem_singleton.2 rfl)) (fun i hi => .inr (by rw [List.mem_singleton] at hi; omega))); have S1 : Hid (w.heap.size < w1.heap.size) := Lib.hid (VMap.lt h1); clear h1 t1)
    | (refine wpList_vins _ rfl _ (.const (.int .i64 2)) _ rfl tyKind w.heap.size (mput ([] : List (Int × Value × Value)) 1 (fnV 75, fnV 76)) rfl V1.out 2 (fnV 75, fnV 76) rfl rfl (okI_mk (by decide) (by decide)) (by simp [mput, mdel, maxLen]) ?_; intro w2 h2 t2; have V2 := Lib.hid h2; have F2 := Lib.hid (F1.out.trans' (turned_fr t2 (List.mem_singleton.2 rfl)) (fun i hi => .inr (by rw [List.mem_singleton] at hi; omega))); have S2 : Hid (w.heap.size < w2.heap.size) := Lib.hid (VMap.lt h2); clear h2 t2)
    | (refine wpList_vins _ rfl _ (.const (.int .i64 3)) _ rfl tyKind w.heap.size (mput (mput ([] : List (Int × Value × Value)) 1 (fnV 75, fnV 76)) 2 (fnV 75, fnV 76)) rfl V2.out 3 (fnV 77, fnV 78) rfl rfl (okI_mk (by decide) (by decide)) (by simp [mput, mdel, maxLen]) ?_; intro w3 h3 t3; have V3 := Lib.hid h3; have F3 := Lib.hid (F2.out.trans' (turned_fr t3 (List.mem_singleton.2 rfl)) (fun i hi => .inr (by rw [List.mem_singleton] at hi; omega))); have S3 : Hid (w.heap.size < w3.heap.size) := Lib.hid (VMap.lt h3); clear h3 t3)
    | (refine wpList_vins _ rfl _ (.const (.int .i64 4)) _ rfl tyKind w.heap.size (mput (mput (mput ([] : List (Int × Value × Value)) 1 (fnV 75, fnV 76)) 2 (fnV 75, fnV 76)) 3 (fnV 77, fnV 78)) rfl V3.out 4 (fnV 79, fnV 80) rfl rfl (okI_mk (by decide) (by decide)) (by simp [mput, mdel, maxLen]) ?_; intro w4 h4 t4; have V4 := Lib.hid h4; have F4 := Lib.hid (F3.out.trans' (turned_fr t4 (List.mem_singleton.2 rfl)) (fun i hi => .inr (by rw [List.mem_singleton] at hi; omega))); have S4 : Hid (w.heap.size < w4.heap.size) := Lib.hid (VMap.lt h4); clear h4 t4)
    | (go_at_call 82; refine (HX.out 83 w4).mono ?_; rintro e wx ⟨rfl, rfl⟩; have V4b := Lib.hid (V4.out.alloc (.cells #[fnV 83] 105)); have F4b := Lib.hid (F4.out.alloc (.cells #[fnV 83] 105)); obtain ⟨g5, hg5⟩ : ∃ g, w4.heap.size = g := ⟨_, rfl⟩; have N5 : Hid (¬ g5 = w.heap.size) := Lib.hid (by have := S4.out; omega); have B5_4 := Lib.hid (Blk.newP (w := w4) (t := 105) (cs := #[fnV 83]) hg5.symm); rw [hg5]; clear hg5)
    | (refine wpList_vins _ rfl _ (.const (.int .i64 5)) _ rfl tyKind w.heap.size (mput (mput (mput (mput ([] : List (Int × Value × Value)) 1 (fnV 75, fnV 76)) 2 (fnV 75, fnV 76)) 3 (fnV 77, fnV 78)) 4 (fnV 79, fnV 80)) rfl V4b.out 5 (fnV 81, .func (.func 101) #[] #[.pointer (some ⟨g5, 0, none⟩)]) rfl rfl (okI_mk (by decide) (by decide)) (by simp [mput, mdel, maxLen]) ?_; intro w5 h5 t5; have V5 := Lib.hid h5; have F5 := Lib.hid (F4b.out.trans' (turned_fr t5 (List.mem_singleton.2 rfl)) (fun i hi => .inr (by rw [List.mem_singleton] at hi; omega))); have S5 : Hid (w.heap.size < w5.heap.size) := Lib.hid (VMap.lt h5); have B5_5 := Lib.hid (B5_4.out.fr (turned_fr t5 (List.mem_singleton.2 rfl)) (by rw [List.mem_singleton]; exact N5.out)); clear h5 t5)
    | (go_at_call 82; refine (HX.out 85 w5).mono ?_; rintro e wx ⟨rfl, rfl⟩; have V5b := Lib.hid (V5.out.alloc (.cells #[fnV 85] 105)); have F5b := Lib.hid (F5.out.alloc (.cells #[fnV 85] 105)); obtain ⟨g6, hg6⟩ : ∃ g, w5.heap.size = g := ⟨_, rfl⟩; have N6 : Hid (¬ g6 = w.heap.size) := Lib.hid (by have := S5.out; omega); have B6_5 := Lib.hid (Blk.newP (w := w5) (t := 105) (cs := #[fnV 85]) hg6.symm); have B5_5b := Lib.hid (B5_5.out.alloc (.cells #[fnV 85] 105)); rw [hg6]; clear hg6)
    | (refine wpList_vins _ rfl _ (.const (.int .i64 6)) _ rfl tyKind w.heap.size (mput (mput (mput (mput (mput ([] : List (Int × Value × Value)) 1 (fnV 75, fnV 76)) 2 (fnV 75, fnV 76)) 3 (fnV 77, fnV 78)) 4 (fnV 79, fnV 80)) 5 (fnV 81, .func (.func 101) #[] #[.pointer (some ⟨g5, 0, none⟩)])) rfl V5b.out 6 (fnV 84, .func (.func 101) #[] #[.pointer (some ⟨g6, 0, none⟩)]) rfl rfl (okI_mk (by decide) (by decide)) (by simp [mput, mdel, maxLen]) ?_; intro w6 h6 t6; have V6 := Lib.hid h6; have F6 := Lib.hid (F5b.out.trans' (turned_fr t6 (List.mem_singleton.2 rfl)) (fun i hi => .inr (by rw [List.mem_singleton] at hi; omega))); have S6 : Hid (w.heap.size < w6.heap.size) := Lib.hid (VMap.lt h6); have B5_6 := Lib.hid (B5_5b.out.fr (turned_fr t6 (List.mem_singleton.2 rfl)) (by rw [List.mem_singleton]; exact N5.out)); have B6_6 := Lib.hid (B6_5.out.fr (turned_fr t6 (List.mem_singleton.2 rfl)) (by rw [List.mem_singleton]; exact N6.out)); clear h6 t6)
    | (refine wpList_vins _ rfl _ (.const (.int .i64 7)) _ rfl tyKind w.heap.size (mput (mput (mput (mput (mput (mput ([] : List (Int × Value × Value)) 1 (fnV 75, fnV 76)) 2 (fnV 75, fnV 76)) 3 (fnV 77, fnV 78)) 4 (fnV 79, fnV 80)) 5 (fnV 81, .func (.func 101) #[] #[.pointer (some ⟨g5, 0, none⟩)])) 6 (fnV 84, .func (.func 101) #[] #[.pointer (some ⟨g6, 0, none⟩)])) rfl V6.out 7 (fnV 86, fnV 87) rfl rfl (okI_mk (by decide) (by decide)) (by simp [mput, mdel, maxLen]) ?_; intro w7 h7 t7; have V7 := Lib.hid h7; have F7 := Lib.hid (F6.out.trans' (turned_fr t7 (List.mem_singleton.2 rfl)) (fun i hi => .inr (by rw [List.mem_singleton] at hi; omega))); have S7 : Hid (w.heap.size < w7.heap.size) := Lib.hid (VMap.lt h7); have B5_7 := Lib.hid (B5_6.out.fr (turned_fr t7 (List.mem_singleton.2 rfl)) (by rw [List.mem_singleton]; exact N5.out)); have B6_7 := Lib.hid (B6_6.out.fr (turned_fr t7 (List.mem_singleton.2 rfl)) (by rw [List.mem_singleton]; exact N6.out)); clear h7 t7)
    )
  go_ret
  exact ⟨_, g5, g6, rfl, V7.out, B5_7.out, B6_7.out, F7.out⟩
end Go.Proofs.YthiaaminkfkjpaaGreat
namespace Go.Proofs.YthiaaminkfkjpaaGreat
open Go.RowKit

section
variable {P : Program} {ops : Array Oper} {md : Region.Mode} {C : World → Prop}
/-- Some operations of the head are still to come: whichever may come up is one of the head. -/
def HeadQ (P : Program) (md : Region.Mode) (ops : Array Oper) (C : World → Prop) (n : Nat) (L : Array Bool → Act → Prop) : Nat → Array Bool → Act → Prop
  | 0, done, a => L done a
  | f + 1, done, a => Region.ready md ops done ≠ [] ∧ ∀ i ∈ Region.ready md ops done, i < n ∧ qOp P ops C i (HeadQ P md ops C n L f (done.setIfInBounds i true)) a

theorem HeadQ.any {n g : Nat} {L : Array Bool → Act → Prop} {Q' : Exit → Act → World → Prop} (hL : ∀ done a w, C w → L done a → wpAny P md ops Q' g done a w) :
    ∀ (f : Nat) (done : Array Bool) (a : Act) (w : World), C w → HeadQ P md ops C n L f done a → wpAny P md ops Q' (f + g) done a w := by
  intro f
  induction f with
  | zero => intro done a w hw h; rw [Nat.zero_add]; exact hL _ _ _ hw h
  | succ f ih =>
    intro done a w hw h
    rw [Nat.add_right_comm]
    exact ⟨fun h0 => absurd h0 h.1, fun i hi => wpOp_of_qOp hw (fun a' w' hw' h' => ih _ a' w' hw' h') (h.2 i hi).2⟩

theorem HeadQ.first {n i : Nat} {oi : Oper} {v : Value} {L : Array Bool → Act → Prop} (hi : ops[i]? = some oi) (hsel : ∀ (j : Nat) (o : Oper) cs b, ops[j]? = some o → o.op ≠ .select cs b)
    (hs : Region.sinkB md ops n = true) (hc : Region.chainB md ops n = true) (hn : n < ops.size) (hin : i < n) (hend : ∀ done a, L done a → ∀ j ∈ Region.ready md ops done, n ≤ j) :
    ∀ (f : Nat) (done : Array Bool) (a : Act), HeadInv md ops n done →
      (∀ j oj, ops[j]? = some oj → j ≠ i → done.getD j true = false → (∀ e ∈ oj.after, Region.binds md e = true → e.on ≠ i) → oi.apart ops oj = true) →
      i ∈ Region.ready md ops done → YieldsIn P ops C oi v a → HeadQ P md ops C n L f (done.setIfInBounds i true) (a.put oi.dst v) → HeadQ P md ops C n L (f + 1) done a := by
  intro f
  induction f with
  | zero =>
    intro done a inv _ hr hy H
    have hun := (mem_ready.1 hr).1
    refine ⟨List.ne_nil_of_mem hr, fun j hj => ?_⟩
    have hjn : j < n := Nat.lt_of_not_le fun h => tail_waits hs hc hn inv _ i rfl hin hun j h hj
    refine ⟨hjn, ?_⟩
    by_cases e : j = i
    · subst e
      exact hy.qOp hi H
    · exact absurd (hend _ _ H j (ready_mono hj e)) (by omega)
  | succ f ih =>
    intro done a inv hfree hr hy H
    have hun := (mem_ready.1 hr).1
    refine ⟨List.ne_nil_of_mem hr, fun j hj => ?_⟩
    have hjn : j < n := Nat.lt_of_not_le fun h => tail_waits hs hc hn inv _ i rfl hin hun j h hj
    refine ⟨hjn, ?_⟩
    by_cases e : j = i
    · subst e
      exact hy.qOp hi H
    · obtain ⟨hjun, oj, hoj, hall⟩ := mem_ready.1 hj
      have hnot : ∀ e ∈ oj.after, Region.binds md e = true → e.on ≠ i := by
        intro x hx hb hxi
        have h1 := hall x hx hb
        rw [hxi, getD_both hun] at h1
        cases h1
      have hsw := qOp_put hoj (hfree j oj hoj e hjun hnot) (fun cs b => hsel i oi cs b hi) (fun cs b => hsel j oj cs b hoj) hy (H.2 j (ready_mono hj e)).2
      refine qOp_mono (fun a' h3 => ?_) hsw
      refine ih (done.setIfInBounds j true) a' (inv.set hj hjn) ?_ (ready_mono hr (Ne.symm e)) h3.1 ?_
      · intro k ok hk hki hkun hkn
        refine hfree k ok hk hki ?_ hkn
        by_cases hjk : j = k
        · subst hjk
          exact hjun
        · rwa [getD_set_ne true hjk] at hkun
      · rw [Array.setIfInBounds_comm _ _ e]
        exact h3.2

theorem HeadQ.lex {n g : Nat} {L : Act → Prop} (hsel : Region.noSelect ops = true) (hs : Region.sinkB md ops n = true) (hc : Region.chainB md ops n = true) (hn : n < ops.size) :
    ∀ (l : List Oper) (k : Nat) (done : Array Bool) (a : Act), (∀ j, j < l.length → l[j]? = ops[k + j]?) → k + l.length = n → HeadInv md ops n done → Region.lexHead md ops g l.length k done = true →
      wpQuiet P ops C L l a → HeadQ P md ops C n (fun d a' => Region.seqB md ops g n d = true ∧ L a') l.length done a := by
  intro l
  induction l with
  | nil =>
    intro k done a _ hk _ hB h
    have : k = n := by simpa using hk
    subst this
    exact ⟨by simpa [Region.lexHead] using hB, h⟩
  | cons o l ih =>
    intro k done a hl hk inv hB h
    have h0 : ops[k]? = some o := by simpa using (hl 0 (by simp)).symm
    simp only [List.length_cons, Region.lexHead, Bool.and_eq_true] at hB
    obtain ⟨⟨hr, hf⟩, hB'⟩ := hB
    have hkn : k < n := by simp only [List.length_cons] at hk; omega
    have hr' : k ∈ Region.ready md ops done := by simpa using hr
    have hq : qOp P ops C k (wpQuiet P ops C L l) a := by unfold qOp; simp only [h0]; exact h
    obtain ⟨v, hy, hK⟩ := yieldsIn_of_qOp h0 hq
    refine HeadQ.first h0 (Region.noSelect_spec hsel) hs hc hn hkn (fun d a' hL => seqB_ready hL.1) l.length done a inv (Region.free_spec h0 hf) hr' hy (ih (k + 1) _ _ (fun j hj => ?_) ?_ (inv.set hr' hkn) hB' hK)
    · have := hl (j + 1) (by simp; omega)
      simpa [Nat.add_assoc, Nat.add_comm 1 j] using this
    · simp only [List.length_cons] at hk
      omega

theorem wp_region_quiet_tail {id : Nat} {Q : Exit → Act → World → Prop} {a : Act} {w : World} {l : List Oper} (n : Nat) (hm : P.follows .mixedOrders = true) (hB : Region.lexTailB .any l.toArray n = true) (hC : C { w with drawn := w.drawn + 1 })
    (h : wpQuiet P l.toArray C (fun a' => ∀ w', C w' → wpList P l.toArray Q (l.drop n) a' w') (l.take n) a) : (Code.region id l.toArray true).wp P Q a w := by
  simp only [Region.lexTailB, Bool.and_eq_true, decide_eq_true_eq] at hB
  obtain ⟨⟨⟨⟨hsel, hn⟩, hs⟩, hc⟩, hlex⟩ := hB
  have hn' : n < l.length := by simpa using hn
  have htl : (l.take n).length = n := by rw [List.length_take]; omega
  have hdl : (l.drop n).length = l.toArray.size - n := by simp
  have inv0 : HeadInv .any l.toArray n (Array.replicate l.toArray.size false) :=
    ⟨by simp, fun j oj _ hl => (by rw [getD_replicate_false] at hl; cases hl), fun t _ ht => getD_in (by simpa using ht) (getD_replicate_false _ _)⟩
  have H := HeadQ.lex (P := P) (C := C) (md := .any) (g := l.toArray.size - n) (L := fun a' => ∀ w', C w' → wpList P l.toArray Q (l.drop n) a' w') hsel hs hc hn (l.take n) 0 _ a
    (fun j hj => by rw [htl] at hj; simp [hj]) (by simpa using htl) inv0 (by rw [htl]; exact hlex) h
  refine wp_region_any hm ?_
  have H2 := HeadQ.any (Q' := Q) (g := l.toArray.size - n) (fun d a' w' hw' hL => by
    have h1 := wpAny_of_seq (md := .any) (Q' := Q) (l.drop n) n d a' w' (fun j => by simp [List.getElem?_drop]) (by rw [hdl]; exact hL.1) (hL.2 w' hw')
    rwa [hdl] at h1) _ _ _ _ hC H
  rw [htl, show n + (l.toArray.size - n) = l.toArray.size by omega] at H2
  exact H2
end
end Go.Proofs.YthiaaminkfkjpaaGreat
