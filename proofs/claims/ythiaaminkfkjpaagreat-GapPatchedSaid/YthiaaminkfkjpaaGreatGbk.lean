/-
  A drawn region's head where two operations may come up: both orders.
-/
import Derived.Test.YthiaaminkfkjpaaGreatGbg
import Derived.Test.YthiaaminkfkjpaaGreatGbf
import Derived.Test.YthiaaminkfkjpaaGreatGai
import Derived.Test.YthiaaminkfkjpaaGreatGbj
import Derived.Test.YthiaaminkfkjpaaGreatGar
import Derived.Test.YthiaaminkfkjpaaGreatGas
import Derived.Test.YthiaaminkfkjpaaGreatGbe
import Derived.Test.YthiaaminkfkjpaaGreatGau
import Derived.Test.YthiaaminkfkjpaaGreatGaa
namespace Go.Proofs.YthiaaminkfkjpaaGreat
open Go.RowKit

/-- 'pick'. -/
def pickI (c n : Int) : Int := (if c < 0 then -(c + 1) else c) % n
theorem pickI_nonneg (c : Int) {n : Int} (h : 1 ≤ n) : 0 ≤ pickI c n := Int.emod_nonneg _ (by omega)
theorem pickI_lt (c : Int) {n : Int} (h : 1 ≤ n) : pickI c n < n := Int.emod_lt_of_pos _ (by omega)
theorem pick_any (c n : Int) (w : World) (h1 : -9223372036854775808 ≤ c) (h2 : c ≤ 9223372036854775807) (h3 : 1 ≤ n) (h4 : n ≤ 1000000000) :
    Calls Tryz.prog 6 #[.int .i64 c, .int .i64 n] w fun e w' => e = .returned (.int .i64 (pickI c n)) ∧ w = w' := by
  have hn : (n == 0) = false := by simp; omega
  have hn' : ¬ n = 0 := by omega
  by_cases hc : c < 0
  · go_enter Tryz.func6, Tryz.ntmps6
    go_wp2
    go_ret
    have e1 : pickI c n = -(c + 1) % n := by unfold pickI; rw [if_pos hc]
    rw [e1]
    refine ⟨?_, rfl⟩
    show Ending.returned (.int .i64 (-((c + 1).tmod n))) = _
    rw [← Int.neg_tmod, Int.tmod_eq_emod_of_nonneg (by omega)]
  · go_enter Tryz.func6, Tryz.ntmps6
    go_wp2
    go_ret
    have e1 : pickI c n = c % n := by unfold pickI; rw [if_neg (by omega)]
    rw [e1]
    refine ⟨by simp, rfl⟩

def Gm.sameS (a b : List (Int × Int)) : Bool := decide (a = b)
theorem neq_span (a b : Int × Int) (w : World) : (binOp .neq 58 (.agg #[.int .i64 a.1, .int .i64 a.2]) (.agg #[.int .i64 b.1, .int .i64 b.2])).run Tryz.prog w = .ok (.bool (!decide (a = b))) w := by
  rw [run_neq_struct, show (10000 : Nat) = 9998 + 2 from rfl]
  rw [run_equalIn_agg w (9998 + 1) 58 _ _ (by kernel_rfl) (by kernel_rfl)]
  simp only [Program.fieldsOf, Tryz.underlying58]
  have hI : ∀ (a b : Int) (w : World), (Op.equalIn (9998 + 1) 3 (.int .i64 a) (.int .i64 b)).run Tryz.prog w = .ok (a == b) w := fun a b w => run_equalIn_int (P := Tryz.prog) w 9998 3 .i64 .i64 a b Tryz.underlying3
  obtain ⟨a1, a2⟩ := a
  obtain ⟨b1, b2⟩ := b
  simp [Op.eqFields, Sem.run_bind, part, run_isAgg_int, hI]
  repeat' split
  all_goals simp_all [Result.andThen]
theorem eqGuard_span (op : BinOp) (x y : Operand) (xs ys : Array Value) (w : World) : (eqGuard op 58 x y (.agg xs) (.agg ys)).run Tryz.prog w = .ok () w :=
  run_eqGuard_agg w op _ x y xs ys (by kernel_rfl)

/-- 'SameSpans'. -/
theorem sameSpans_any (a b : List (Int × Int)) (A B : Option Addr) (ca cb : Nat) (w : World) (ha : AtL encS 2 w A a) (hb : AtL encS 2 w B b) (la : a.length ≤ 100000) (lb : b.length ≤ 100000) :
    Calls Tryz.prog 22 #[.slice A a.length ca, .slice B b.length cb] w fun e w' => e = .returned (.bool (Gm.sameS a b)) ∧ Fr [] w w' := by
  by_cases hl : a.length = b.length
  · go_enter Tryz.func22, Tryz.ntmps22
    have HL := Lib.hid hl
    have hd : ((a.length : Int) != (b.length : Int)) = false := by simp [hl]
    clear hl
    go_wp2_with fail
    go_loopw [5] (fun i wr => ∃ k : Nat, i = .int .i64 k ∧ (k ≤ a.length ∧ a.take k = b.take k) ∧ Fr [] w wr) (fun i _ => a.length - (intOf i).toNat)
    case atStart => exact ⟨0, rfl, ⟨Nat.zero_le _, by simp⟩, Fr.refl _ _⟩
    case round =>
      obtain ⟨k, rfl, ⟨hk, htk⟩, hf⟩ := hrel
      have HTK := Lib.hid htk
      clear htk
      by_cases hlt : k < a.length
      · obtain ⟨b1, o1, e1, hb1, hc1⟩ := (ha.fr0 hf) (by omega)
        obtain ⟨b2, o2, e2, hb2, hc2⟩ := (hb.fr0 hf) (by have := HL.out; omega)
        subst e1 e2
        have hlt2 : k < b.length := by have := HL.out; omega
        replace hc1 := Lib.hid (hc1 k hlt)
        replace hc2 := Lib.hid (hc2 k hlt2)
        have htake : a[k] = b[k] → a.take (k + 1) = b.take (k + 1) := fun e => by rw [List.take_succ_eq_append_getElem hlt, List.take_succ_eq_append_getElem hlt2, HTK.out, e]
        have hdiff : a[k] ≠ b[k] → a ≠ b := fun h e => h (by simp only [e])
        have hq := neq_span a[k] b[k]
        generalize a[k] = c at *
        generalize b[k] = d at *
        obtain ⟨x, y⟩ := c
        obtain ⟨x', y'⟩ := d
        dsimp only at hq
        have c0 : wr.cell? ⟨b1, o1 + k * 2, none⟩ = some (.int .i64 x) := hc1.out 0 (by decide)
        have c1 : wr.cell? ⟨b1, o1 + k * 2 + 1, none⟩ = some (.int .i64 y) := hc1.out 1 (by decide)
        have d0 : wr.cell? ⟨b2, o2 + k * 2, none⟩ = some (.int .i64 x') := hc2.out 0 (by decide)
        have d1 : wr.cell? ⟨b2, o2 + k * 2 + 1, none⟩ = some (.int .i64 y') := hc2.out 1 (by decide)
        have hg := eqGuard_span
        clear hc1 hc2
        by_cases he : (x, y) = (x', y')
        · have HT := Lib.hid (htake he)
          rw [decide_eq_true he] at hq
          clear htake hdiff he
          go_wp2_with fail
          go_quiet (fail)
          go_wp2_with fail
          have f1 : Fr [] w (wr.drewN nq) := hf.drewN _
          go_roundw
          case rel => exact ⟨k + 1, by go_num, ⟨by omega, HT.out⟩, f1⟩
          case measure => simp [intOf]; omega
        · have HD := Lib.hid (hdiff he)
          rw [decide_eq_false he] at hq
          clear htake hdiff he
          go_wp2_with fail
          go_quiet (fail)
          go_wp2_with fail
          go_ret
          have HF : Hid (Gm.sameS a b = false) := Lib.hid (by have := HD.out; simp [Gm.sameS, this])
          exact ⟨by rw [HF.out]; rfl, hf.drewN _⟩
      · go_wp2_with fail
        go_ret
        have HF : Hid (Gm.sameS a b = true) := Lib.hid (by
          have e1 := HTK.out
          have e2 := HL.out
          rw [List.take_of_length_le (by omega), List.take_of_length_le (by omega)] at e1
          simp [Gm.sameS, e1])
        exact ⟨by rw [HF.out]; rfl, hf⟩
  · have HF : Hid (Gm.sameS a b = false) := Lib.hid (by simp [Gm.sameS]; intro e; exact hl (by rw [e]))
    have hd : ((a.length : Int) != (b.length : Int)) = true := by simp; omega
    go_enter Tryz.func22, Tryz.ntmps22
    go_wp2_with fail
    go_ret
    exact ⟨by rw [HF.out]; rfl, Fr.refl _ _⟩

def Gm.sameR (a b : List Rec) : Bool := decide (a = b)
/-- 'SameRecords'. -/
theorem sameRecords_any (a b : List WRec) (A B : Option Addr) (ca cb : Nat) (w : World) (ha : AtL WRec.cells 2 w A a) (hb : AtL WRec.cells 2 w B b) (la : a.length ≤ 100000) (lb : b.length ≤ 100000)
    (ka : ∀ u ∈ a, ChgsAt w u.A u.r.cs ∧ u.r.cs.length ≤ 8) (kb : ∀ u ∈ b, ChgsAt w u.A u.r.cs ∧ u.r.cs.length ≤ 8) :
    Calls Tryz.prog 23 #[.slice A a.length ca, .slice B b.length cb] w fun e w' => e = .returned (.bool (Gm.sameR (a.map (·.r)) (b.map (·.r)))) ∧ Fr [] w w' := by
  by_cases hl : a.length = b.length
  · go_enter Tryz.func23, Tryz.ntmps23
    have HL := Lib.hid hl
    have hd : ((a.length : Int) != (b.length : Int)) = false := by simp [hl]
    clear hl
    go_wp2_with fail
    go_loopw [5] (fun i wr => ∃ k : Nat, i = .int .i64 k ∧ (k ≤ a.length ∧ (a.map (·.r)).take k = (b.map (·.r)).take k) ∧ Fr [] w wr) (fun i _ => a.length - (intOf i).toNat)
    case atStart => exact ⟨0, rfl, ⟨Nat.zero_le _, by simp⟩, Fr.refl _ _⟩
    case round =>
      obtain ⟨k, rfl, ⟨hk, htk⟩, hf⟩ := hrel
      have HTK := Lib.hid htk
      clear htk
      by_cases hlt : k < a.length
      · obtain ⟨b1, o1, e1, hb1, hc1⟩ := (ha.fr0 hf) (by omega)
        obtain ⟨b2, o2, e2, hb2, hc2⟩ := (hb.fr0 hf) (by have := HL.out; omega)
        subst e1 e2
        have hlt2 : k < b.length := by have := HL.out; omega
        replace hc1 := Lib.hid (hc1 k hlt)
        replace hc2 := Lib.hid (hc2 k hlt2)
        have ka1 := ka a[k] (List.getElem_mem _)
        have kb1 := kb b[k] (List.getElem_mem _)
        have htake : a[k].r = b[k].r → (a.map (·.r)).take (k + 1) = (b.map (·.r)).take (k + 1) := fun e => by
          rw [List.take_succ_eq_append_getElem (by simpa using hlt), List.take_succ_eq_append_getElem (by simpa using hlt2), HTK.out, List.getElem_map, List.getElem_map, e]
        have hdiff : a[k].r ≠ b[k].r → a.map (·.r) ≠ b.map (·.r) := fun h e => h (by
          have h1 : (a.map (·.r))[k]? = (b.map (·.r))[k]? := by rw [e]
          rw [List.getElem?_map, List.getElem?_map, List.getElem?_eq_getElem hlt, List.getElem?_eq_getElem hlt2] at h1
          simpa using h1)
        generalize a[k] = c at *
        generalize b[k] = d at *
        have c0 : wr.cell? ⟨b1, o1 + k * 2, none⟩ = some (.int .i64 c.r.p) := hc1.out 0 (by decide)
        have c1 : wr.cell? ⟨b1, o1 + k * 2 + 1, none⟩ = some (.slice c.A c.r.cs.length c.cap) := hc1.out 1 (by decide)
        have d0 : wr.cell? ⟨b2, o2 + k * 2, none⟩ = some (.int .i64 d.r.p) := hc2.out 0 (by decide)
        have d1 : wr.cell? ⟨b2, o2 + k * 2 + 1, none⟩ = some (.slice d.A d.r.cs.length d.cap) := hc2.out 1 (by decide)
        have hfd : Fr [] w wr.drew := hf.drew
        have ka2 := ka1.1.fr hfd (by simp)
        have kb2 := kb1.1.fr hfd (by simp)
        clear hc1 hc2
        go_wp2_with fail
        go_region_held3 (fun w' => w'.cell? ⟨b1, o1 + k * 2, none⟩ = some (.int .i64 c.r.p) ∧ w'.cell? ⟨b1, o1 + k * 2 + 1, none⟩ = some (.slice c.A c.r.cs.length c.cap) ∧ w'.cell? ⟨b2, o2 + k * 2, none⟩ = some (.int .i64 d.r.p) ∧ w'.cell? ⟨b2, o2 + k * 2 + 1, none⟩ = some (.slice d.A d.r.cs.length d.cap))
          (first | go_keep | exact ⟨(hcc _ _ hb1).trans c0, (hcc _ _ hb1).trans c1, (hcc _ _ hb2).trans d0, (hcc _ _ hb2).trans d1⟩)
          (first
            | (go_at_call 41; refine (same_any c.r d.r c.A d.A c.cap d.cap _ ka2 kb2 (by omega) (by omega)).mono ?_; rintro e w1 ⟨rfl, f1⟩; obtain ⟨hcc, hff⟩ := f1.rules))
        have f2 : Fr [] w w1 := hfd.trans f1
        clear hcc hff f1 c0 c1 d0 d1
        cases he : Rw.same c.r d.r
        · have hne : c.r ≠ d.r := fun e => by rw [e, Rw.same_self] at he; cases he
          have HD := Lib.hid (hdiff hne)
          clear he hne htake hdiff
          go_wp2_with fail
          go_ret
          have HF : Hid (Gm.sameR (a.map (·.r)) (b.map (·.r)) = false) := Lib.hid (by have := HD.out; simp [Gm.sameR, this])
          exact ⟨by rw [HF.out]; rfl, f2⟩
        · have HT := Lib.hid (htake (Rw.same_true.1 he))
          clear he htake hdiff
          go_wp2_with fail
          go_roundw
          case rel => exact ⟨k + 1, by go_num, ⟨by omega, HT.out⟩, f2⟩
          case measure => simp [intOf]; omega
      · go_wp2_with fail
        go_ret
        have HF : Hid (Gm.sameR (a.map (·.r)) (b.map (·.r)) = true) := Lib.hid (by
          have e1 := HTK.out
          have e2 := HL.out
          rw [List.take_of_length_le (by simp; omega), List.take_of_length_le (by simp; omega)] at e1
          simp only [Gm.sameR, e1, decide_true])
        exact ⟨by rw [HF.out]; rfl, hf⟩
  · have HF : Hid (Gm.sameR (a.map (·.r)) (b.map (·.r)) = false) := Lib.hid (by
      simp only [Gm.sameR, decide_eq_false_iff_not]
      intro e
      exact hl (by have := congrArg List.length e; simpa using this))
    have hd : ((a.length : Int) != (b.length : Int)) = true := by simp; omega
    go_enter Tryz.func23, Tryz.ntmps23
    go_wp2_with fail
    go_ret
    exact ⟨by rw [HF.out]; rfl, Fr.refl _ _⟩
end Go.Proofs.YthiaaminkfkjpaaGreat
namespace Go.Proofs.YthiaaminkfkjpaaGreat
open Go.RowKit

/-- A record of one change is received. -/
theorem recv_any (b m : Nat) (c : Gm.Rcv) (p : Int) (A : Option Addr) (w : World) (h : RcvAt w b m c) (hc : HoldsC w A (recOf p).cs) :
    Calls Tryz.prog 10 #[.pointer (some ⟨b, 0, none⟩), .agg #[.int .i64 p, .slice A 1 1]] w fun e w' =>
      e = .returned (.bool (Gm.took c (recOf p))) ∧ RcvAt w' b m (Gm.receive c (recOf p)) ∧ Fr [b, m] w w' :=
  receive_any b m 1 c (recOf p) A w h hc (by simp [recOf, maxLen])
theorem recv_nil (p : Int) (A : Option Addr) (w : World) :
    Calls Tryz.prog 10 #[.pointer none, .agg #[.int .i64 p, .slice A 1 1]] w fun e w' => e = .returned (.bool false) ∧ Fr [] w w' :=
  receive_nil (recOf p) A 1 w
theorem OwnL.keep {X : Type} {e size : Nat} {enc : X → List Value} {w w' : World} {v : Value} {L : List X} {b m : Nat} {c : Gm.Rcv} (h : OwnL e size enc w v L) (hr : RcvAt w b m c) (he : e ≠ 74) (hf : Fr [b, m] w w') : OwnL e size enc w' v L := by
  obtain ⟨M, hm, _⟩ := hr.map
  exact h.fr hf (fun g hg => by
    have e1 := h.ne hr.blk he hg
    have e2 := h.ne_map hm hg
    simp [e1, e2])
theorem OwnR.keep {w w' : World} {v : Value} {out : List Rec} {b m : Nat} {c : Gm.Rcv} (h : OwnR w v out) (hr : RcvAt w b m c) (hf : Fr [b, m] w w') : OwnR w' v out := h.fr hf (h.apart hr) hr.noC
end Go.Proofs.YthiaaminkfkjpaaGreat
namespace Go.Proofs.YthiaaminkfkjpaaGreat
open Go.RowKit

theorem ready1_nil (bx : Nat) (W : World) (l : Nat) (hx : W.cell? ⟨bx, 0, none⟩ = some (.pointer none)) :
    Calls Tryz.prog 61 #[.func (.yield l) #[] #[], .pointer (some ⟨bx, 0, none⟩)] W fun e W' => (∃ v, e = .returned v) ∧ W = W' := by
  go_enter Tryz.func61, Tryz.ntmps61
  go_wp2_with fail
  refine wp_loop_rounds 1 ?_
  rw [rounds_succ]
  go_wp2_with fail
  go_end0
  exact ⟨⟨_, rfl⟩, rfl⟩
theorem take_nil (w : World) : Calls Tryz.prog 11 #[.pointer none] w fun e w' => e = .returned (.slice none 0 0) ∧ Fr [] w w' := by
  refine (callsIn_wide (n := 6)).1 ?_
  refine callsIn_of_wp_marks Tryz.func11 rfl trivial ?_ rfl
  simp only [Tryz.ntmps11, List.size_toArray, List.length_cons, List.length_nil, Nat.reduceAdd, Nat.reduceSub, Array.replicate_succ, Array.replicate_zero, List.push_toArray, List.append_toArray, List.nil_append, List.cons_append]
  gi_wp2
  refine ⟨trivial, ?_⟩
  refine (callsIn_wide.2 (ready_any _ _)).mono ?_
  rintro e w' ⟨rfl, rfl⟩
  gi_wp2
  have F0 : Fr [] w ((w.alloc (.cells #[.slice none 0 0] 26)).alloc (.cells #[.pointer none] 31)) := ((Fr.refl _ _).alloc _).alloc _
  have hB0 := (Blk.new w 26 #[.slice none 0 0]).alloc (.cells #[.pointer none] 31)
  have hX0 := Blk.new (w.alloc (.cells #[.slice none 0 0] 26)) 31 #[.pointer none]
  rw [World.size_alloc] at hX0
  generalize ((w.alloc (.cells #[.slice none 0 0] 26)).alloc (.cells #[.pointer none] 31)) = W0 at *
  refine wpIn_range_rec rfl (by omega) (gf := 61) (lb := #[.pointer (some ⟨w.heap.size + 1, 0, none⟩)]) rfl trivial (enters_of Tryz.func61 (by kernel_rfl) rfl) ?_
  intro fn hfn rec hrec
  have F1 : Fr [] W0 ((W0.alloc (.deferred (some []))).alloc (.loop rec)) := ((Fr.refl _ _).alloc _).alloc _
  have hL1 : ((W0.alloc (.deferred (some []))).alloc (.loop rec)).heap[W0.heap.size + 1]? = some (.loop rec) := by
    have := World.alloc_heap_new (W0.alloc (.deferred (some []))) (.loop rec); rwa [World.size_alloc] at this
  have hK1 : ((W0.alloc (.deferred (some []))).alloc (.loop rec)).heap[W0.heap.size]? = some (.deferred (some [])) := (Below.heap_alloc _ _ _ (by simp)).trans (World.alloc_heap_new W0 _)
  have hX1 := hX0.fr F1 (by simp)
  have hB1 := hB0.fr F1 (by simp)
  have hbl : w.heap.size < W0.heap.size := hB0.lt
  refine (callsIn_wide.2 (ready1_nil (w.heap.size + 1) _ (W0.heap.size + 1) (hX1.cell 0))).mono ?_
  rintro e W2 ⟨⟨v, rfl⟩, rfl⟩
  have F2 := F0.trans F1
  generalize (W0.alloc (.deferred (some []))).alloc (.loop rec) = W2 at *
  have hend := run_endLoop (P := Tryz.prog) hL1 (by rw [hrec]; simp)
  have hz0 := F0.size
  have hpe : rec.pending = none := by rw [hrec]
  have F3 : Fr [] w (W2.putObj (W0.heap.size + 1) (.loop { rec with state := .exhausted })) := putObj_fr F2 (.inr (by omega)) _
  have hB3 : Blk (W2.putObj (W0.heap.size + 1) (.loop { rec with state := .exhausted })) w.heap.size 26 #[.slice none 0 0] := (World.putObj_heap_other (show w.heap.size ≠ W0.heap.size + 1 by omega)).trans hB1
  have hK3 : (W2.putObj (W0.heap.size + 1) (.loop { rec with state := .exhausted })).heap[W0.heap.size]? = some (.deferred (some [])) := (World.putObj_heap_other (by omega)).trans hK1
  refine ⟨none, W2.putObj (W0.heap.size + 1) (.loop { rec with state := .exhausted }), by rw [hend, hpe], ?_⟩
  clear hend
  generalize W2.putObj (W0.heap.size + 1) (.loop { rec with state := .exhausted }) = W3 at *
  have hc3 := hB3.cell 0
  have hf3 := hB3.frozen 0
  clear hrec
  dsimp only
  gi_wp2
  have hKs : (W3.setCell ⟨w.heap.size, 0, none⟩ (.slice none 0 0)).heap[W0.heap.size]? = some (.deferred (some [])) := (Below.heap_setCell W3 _ _ _ (show W0.heap.size ≠ w.heap.size by omega)).trans hK3
  refine ⟨by simp, .inl ⟨_, _, rfl, run_takeDeferred hKs, ?_⟩⟩
  have hB4 : Blk ((W3.setCell ⟨w.heap.size, 0, none⟩ (.slice none 0 0)).putObj W0.heap.size (.deferred none)) w.heap.size 26 #[.slice none 0 0] := by
    have := hB3.set_ 0 (.slice none 0 0)
    exact (World.putObj_heap_other (show w.heap.size ≠ W0.heap.size by omega)).trans this
  have F4 : Fr [] w ((W3.setCell ⟨w.heap.size, 0, none⟩ (.slice none 0 0)).putObj W0.heap.size (.deferred none)) := putObj_fr (F3.setCell (.inr (by simp)) _) (.inr (by omega)) _
  generalize (W3.setCell ⟨w.heap.size, 0, none⟩ (.slice none 0 0)).putObj W0.heap.size (.deferred none) = W4 at *
  have hc4 := hB4.cell 0
  refine ⟨_, ?_, rfl, F4⟩
  simp [results, Tryz.results11, go_sem, hc4]

theorem sameRecords_own (a : List Rec) (b : List WRec) (A B : Option Addr) (n ca cb : Nat) (w : World) (ha : OwnR w (.slice A n ca) a) (hb : AtL WRec.cells 2 w B b) (la : n ≤ 100000) (lb : b.length ≤ 100000)
    (kb : ∀ u ∈ b, ChgsAt w u.A u.r.cs ∧ u.r.cs.length ≤ 8) :
    Calls Tryz.prog 23 #[.slice A n ca, .slice B b.length cb] w fun e w' => e = .returned (.bool (Gm.sameR a (b.map (·.r)))) ∧ Fr [] w w' := by
  obtain ⟨us, h1, rfl, rfl, h4⟩ := ha.at1
  exact sameRecords_any us b A B ca cb w h1 hb la lb h4 kb

set_option maxRecDepth 100000 in
set_option maxHeartbeats 4000000 in
theorem sane_any (w : World) : Calls Tryz.prog 4 #[] w fun e w' => e = .returned (.bool true) ∧ Fr [] w w' := by
  go_enter Tryz.func4, Tryz.ntmps4
  go_wp2_with fail
  refine (gnew_any 3 _ (by decide) (by decide)).mono ?_
  rintro e w0 ⟨rfl, h0, F0⟩
  obtain ⟨b, m, hb, hm, hbm⟩ : ∃ b m, b = w.heap.size + 1 ∧ m = w.heap.size ∧ Hid (∀ i ∈ [b, m], i ∈ ([] : List Nat) ∨ w.heap.size ≤ i) := ⟨_, _, rfl, rfl, Lib.hid (by simp)⟩
  rw [← hb, ← hm] at h0
  rw [← hb]
  clear hb hm
  rw [show Gm.new 3 = ⟨3, 3, []⟩ from rfl] at h0
  go_wp2_with fail
  refine (gnew_bad (-1) _ (by decide)).mono ?_
  rintro e w' ⟨rfl, rfl⟩
  go_wp2_with fail
  refine (gnew_bad 10001 _ (by decide)).mono ?_
  rintro e w' ⟨rfl, rfl⟩
  go_wp2_with fail
  refine (record_any 6 _).mono ?_
  rintro e w1 ⟨rfl, hc, f⟩
  have h1 := h0.fr0 f
  have F1 : Fr [] w w1 := F0.trans f
  clear f h0 F0
  go_wp2_with fail
  refine (recv_any b m ⟨3, 3, []⟩ 6 _ _ h1 hc).mono ?_
  rintro e w2 ⟨rfl, h2, f⟩
  clear hc
  rw [show Gm.took ⟨3, 3, []⟩ (recOf 6) = true from by kernel_rfl]
  rw [show Gm.receive ⟨3, 3, []⟩ (recOf 6) = ⟨3, 6, [(6, recOf 6)]⟩ from by kernel_rfl] at h2
  have F2 : Fr [] w w2 := F1.trans' f (by exact hbm.out)
  clear f h1 F1
  go_wp2_with fail
  refine (record_any 4 _).mono ?_
  rintro e w3 ⟨rfl, hc, f⟩
  have h3 := h2.fr0 f
  have F3 : Fr [] w w3 := F2.trans f
  clear f h2 F2
  go_wp2_with fail
  refine (recv_any b m ⟨3, 6, [(6, recOf 6)]⟩ 4 _ _ h3 hc).mono ?_
  rintro e w4 ⟨rfl, h4, f⟩
  clear hc
  rw [show Gm.took ⟨3, 6, [(6, recOf 6)]⟩ (recOf 4) = true from by kernel_rfl]
  rw [show Gm.receive ⟨3, 6, [(6, recOf 6)]⟩ (recOf 4) = ⟨3, 6, [(4, recOf 4), (6, recOf 6)]⟩ from by kernel_rfl] at h4
  have F4 : Fr [] w w4 := F3.trans' f (by exact hbm.out)
  clear f h3 F3
  go_wp2_with fail
  refine (record_any 6 _).mono ?_
  rintro e w5 ⟨rfl, hc, f⟩
  have h5 := h4.fr0 f
  have F5 : Fr [] w w5 := F4.trans f
  clear f h4 F4
  go_wp2_with fail
  refine (recv_any b m ⟨3, 6, [(4, recOf 4), (6, recOf 6)]⟩ 6 _ _ h5 hc).mono ?_
  rintro e w6 ⟨rfl, h6, f⟩
  clear hc
  rw [show Gm.took ⟨3, 6, [(4, recOf 4), (6, recOf 6)]⟩ (recOf 6) = false from by kernel_rfl]
  rw [show Gm.receive ⟨3, 6, [(4, recOf 4), (6, recOf 6)]⟩ (recOf 6) = ⟨3, 6, [(4, recOf 4), (6, recOf 6)]⟩ from by kernel_rfl] at h6
  have F6 : Fr [] w w6 := F5.trans' f (by exact hbm.out)
  clear f h5 F5
  go_wp2_with fail
  refine (record_any 3 _).mono ?_
  rintro e w7 ⟨rfl, hc, f⟩
  have h7 := h6.fr0 f
  have F7 : Fr [] w w7 := F6.trans f
  clear f h6 F6
  go_wp2_with fail
  refine (recv_any b m ⟨3, 6, [(4, recOf 4), (6, recOf 6)]⟩ 3 _ _ h7 hc).mono ?_
  rintro e w8 ⟨rfl, h8, f⟩
  clear hc
  rw [show Gm.took ⟨3, 6, [(4, recOf 4), (6, recOf 6)]⟩ (recOf 3) = false from by kernel_rfl]
  rw [show Gm.receive ⟨3, 6, [(4, recOf 4), (6, recOf 6)]⟩ (recOf 3) = ⟨3, 6, [(4, recOf 4), (6, recOf 6)]⟩ from by kernel_rfl] at h8
  have F8 : Fr [] w w8 := F7.trans' f (by exact hbm.out)
  clear f h7 F7
  go_wp2_with fail
  refine (missing_any b m ⟨3, 6, [(4, recOf 4), (6, recOf 6)]⟩ _ h8).mono ?_
  rintro e w9 ⟨vM, ⟨rfl, hM⟩, f⟩
  rw [show Gm.missing (⟨3, 6, [(4, recOf 4), (6, recOf 6)]⟩ : Gm.Rcv).L (⟨3, 6, [(4, recOf 4), (6, recOf 6)]⟩ : Gm.Rcv).pos ((⟨3, 6, [(4, recOf 4), (6, recOf 6)]⟩ : Gm.Rcv).high - (⟨3, 6, [(4, recOf 4), (6, recOf 6)]⟩ : Gm.Rcv).pos).toNat = [(5, 5)] from by kernel_rfl] at hM
  have h9 := h8.fr0 f
  have F9 : Fr [] w w9 := F8.trans f
  clear f h8 F8
  obtain ⟨AM, cM, eM⟩ := hM.val
  subst eM
  go_wp2_with fail
  refine (highest_any b m ⟨3, 6, [(4, recOf 4), (6, recOf 6)]⟩ _ h9).mono ?_
  rintro e w' ⟨rfl, rfl⟩
  go_wp2_with fail
  refine (take_any b m ⟨3, 6, [(4, recOf 4), (6, recOf 6)]⟩ _ h9).mono ?_
  rintro e w10 ⟨vL, ⟨rfl, hL⟩, h10, f⟩
  rw [show Gm.take (⟨3, 6, [(4, recOf 4), (6, recOf 6)]⟩ : Gm.Rcv).L.length ⟨3, 6, [(4, recOf 4), (6, recOf 6)]⟩ = ([recOf 4], ⟨4, 6, [(6, recOf 6)]⟩) from by kernel_rfl] at hL h10
  dsimp only at hL h10
  replace hM := hM.keep h9 (by decide) f
  have F10 : Fr [] w w10 := F9.trans' f (by exact hbm.out)
  clear f h9 F9
  obtain ⟨uL, oL, rL, kL⟩ := hL
  obtain ⟨AL, cL, eL⟩ := oL.val
  subst eL
  have lL : uL.length = 1 := by have := congrArg List.length rL; simpa using this
  rw [lL] at oL ⊢
  have hL : OwnR w10 (.slice AL 1 cL) [recOf 4] := ⟨uL, oL, rL, kL⟩
  clear oL rL kL lL
  go_wp2_with fail
  refine (announce_any b m ⟨4, 6, [(6, recOf 6)]⟩ 8 _ h10).mono ?_
  rintro e w11 ⟨rfl, h11, f⟩
  rw [show Gm.announce ⟨4, 6, [(6, recOf 6)]⟩ 8 = ⟨4, 8, [(6, recOf 6)]⟩ from by kernel_rfl] at h11
  replace hM := hM.keep h10 (by decide) f
  replace hL := hL.keep h10 f
  have F11 : Fr [] w w11 := F10.trans' f (by exact hbm.out)
  clear f h10 F10
  go_wp2_with fail
  refine (missing_any b m ⟨4, 8, [(6, recOf 6)]⟩ _ h11).mono ?_
  rintro e w12 ⟨vN, ⟨rfl, hN⟩, f⟩
  rw [show Gm.missing (⟨4, 8, [(6, recOf 6)]⟩ : Gm.Rcv).L (⟨4, 8, [(6, recOf 6)]⟩ : Gm.Rcv).pos ((⟨4, 8, [(6, recOf 6)]⟩ : Gm.Rcv).high - (⟨4, 8, [(6, recOf 6)]⟩ : Gm.Rcv).pos).toNat = [(5, 5), (7, 8)] from by kernel_rfl] at hN
  have h12 := h11.fr0 f
  replace hM := hM.keep0 f
  replace hL := hL.keep0 f
  have F12 : Fr [] w w12 := F11.trans f
  clear f h11 F11
  obtain ⟨AN, cN, eN⟩ := hN.val
  subst eN
  go_wp2_with fail
  refine (record_any 5 _).mono ?_
  rintro e w13 ⟨rfl, hc, f⟩
  have h13 := h12.fr0 f
  replace hM := hM.keep0 f
  replace hL := hL.keep0 f
  replace hN := hN.keep0 f
  have F13 : Fr [] w w13 := F12.trans f
  clear f h12 F12
  go_wp2_with fail
  refine (recv_any b m ⟨4, 8, [(6, recOf 6)]⟩ 5 _ _ h13 hc).mono ?_
  rintro e w14 ⟨rfl, h14, f⟩
  clear hc
  rw [show Gm.took ⟨4, 8, [(6, recOf 6)]⟩ (recOf 5) = true from by kernel_rfl]
  rw [show Gm.receive ⟨4, 8, [(6, recOf 6)]⟩ (recOf 5) = ⟨4, 8, [(5, recOf 5), (6, recOf 6)]⟩ from by kernel_rfl] at h14
  replace hM := hM.keep h13 (by decide) f
  replace hL := hL.keep h13 f
  replace hN := hN.keep h13 (by decide) f
  have F14 : Fr [] w w14 := F13.trans' f (by exact hbm.out)
  clear f h13 F13
  go_wp2_with fail
  refine (take_any b m ⟨4, 8, [(5, recOf 5), (6, recOf 6)]⟩ _ h14).mono ?_
  rintro e w15 ⟨vK, ⟨rfl, hK⟩, h15, f⟩
  rw [show Gm.take (⟨4, 8, [(5, recOf 5), (6, recOf 6)]⟩ : Gm.Rcv).L.length ⟨4, 8, [(5, recOf 5), (6, recOf 6)]⟩ = ([recOf 5, recOf 6], ⟨6, 8, []⟩) from by kernel_rfl] at hK h15
  dsimp only at hK h15
  replace hM := hM.keep h14 (by decide) f
  replace hL := hL.keep h14 f
  replace hN := hN.keep h14 (by decide) f
  have F15 : Fr [] w w15 := F14.trans' f (by exact hbm.out)
  clear f h14 F14
  obtain ⟨uK, oK, rK, kK⟩ := hK
  obtain ⟨AK, cK, eK⟩ := oK.val
  subst eK
  have lK : uK.length = 2 := by have := congrArg List.length rK; simpa using this
  rw [lK] at oK ⊢
  have hK : OwnR w15 (.slice AK 2 cK) [recOf 5, recOf 6] := ⟨uK, oK, rK, kK⟩
  clear oK rK kK lK
  go_wp2_with fail
  refine (announce_nil 5 _).mono ?_
  rintro e w' ⟨rfl, rfl⟩
  go_wp2_with fail
  refine (greset_nil 5 _).mono ?_
  rintro e w' ⟨rfl, rfl⟩
  go_wp2_with fail
  refine (record_any 1 _).mono ?_
  rintro e w16 ⟨rfl, hc, f⟩
  have h16 := h15.fr0 f
  replace hM := hM.keep0 f
  replace hL := hL.keep0 f
  replace hN := hN.keep0 f
  replace hK := hK.keep0 f
  have F16 : Fr [] w w16 := F15.trans f
  clear f h15 F15
  clear hc
  go_wp2_with fail
  refine (recv_nil 1 _ _).mono ?_
  rintro e w17 ⟨rfl, f⟩
  have h17 := h16.fr0 f
  replace hM := hM.keep0 f
  replace hL := hL.keep0 f
  replace hN := hN.keep0 f
  replace hK := hK.keep0 f
  have F17 : Fr [] w w17 := F16.trans f
  clear f h16 F16
  go_wp2_with fail
  refine (position_nil _).mono ?_
  rintro e w' ⟨rfl, rfl⟩
  go_wp2_with fail
  refine (highest_nil _).mono ?_
  rintro e w' ⟨rfl, rfl⟩
  go_wp2_with fail
  refine (take_nil _).mono ?_
  rintro e w18 ⟨rfl, f⟩
  have h18 := h17.fr0 f
  replace hM := hM.keep0 f
  replace hL := hL.keep0 f
  replace hN := hN.keep0 f
  replace hK := hK.keep0 f
  have F18 : Fr [] w w18 := F17.trans f
  clear f h17 F17
  go_wp2_with fail
  refine (missing_nil _).mono ?_
  rintro e w' ⟨rfl, rfl⟩
  go_wp2_with fail
  have f : Fr [] w18 (w18.alloc (.cells #[.int .i64 5, .int .i64 5] 58)) := (Fr.refl _ _).alloc _
  have hb := Blk.new w18 58 #[.int .i64 5, .int .i64 5]
  have h19 := h18.fr0 f
  replace hM := hM.keep0 f
  replace hL := hL.keep0 f
  replace hN := hN.keep0 f
  replace hK := hK.keep0 f
  have F19 : Fr [] w _ := F18.trans f
  clear f h18 F18
  generalize w18.alloc (.cells #[.int .i64 5, .int .i64 5] 58) = w19 at *
  refine (sameSpans_any [(5, 5)] [(5, 5)] AM _ cM 1 _ (hM.at1 encS_len).1 (AtL.of_blk encS_len hb rfl) (by decide) (by decide)).mono ?_
  rintro e w20 ⟨rfl, f⟩
  clear hb
  rw [show Gm.sameS [(5, 5)] [(5, 5)] = true from by kernel_rfl]
  have h20 := h19.fr0 f
  replace hM := hM.keep0 f
  replace hL := hL.keep0 f
  replace hN := hN.keep0 f
  replace hK := hK.keep0 f
  have F20 : Fr [] w w20 := F19.trans f
  clear f h19 F19
  go_wp2_with fail
  have f : Fr [] w20 (w20.alloc (.cells #[.int .i64 5, .int .i64 5, .int .i64 7, .int .i64 8] 58)) := (Fr.refl _ _).alloc _
  have hb := Blk.new w20 58 #[.int .i64 5, .int .i64 5, .int .i64 7, .int .i64 8]
  have h21 := h20.fr0 f
  replace hL := hL.keep0 f
  replace hN := hN.keep0 f
  replace hK := hK.keep0 f
  have F21 : Fr [] w _ := F20.trans f
  clear f h20 F20
  generalize w20.alloc (.cells #[.int .i64 5, .int .i64 5, .int .i64 7, .int .i64 8] 58) = w21 at *
  refine (sameSpans_any [(5, 5), (7, 8)] [(5, 5), (7, 8)] AN _ cN 2 _ (hN.at1 encS_len).1 (AtL.of_blk encS_len hb rfl) (by decide) (by decide)).mono ?_
  rintro e w22 ⟨rfl, f⟩
  clear hb
  rw [show Gm.sameS [(5, 5), (7, 8)] [(5, 5), (7, 8)] = true from by kernel_rfl]
  have h22 := h21.fr0 f
  replace hL := hL.keep0 f
  replace hN := hN.keep0 f
  replace hK := hK.keep0 f
  have F22 : Fr [] w w22 := F21.trans f
  clear f h21 F21
  go_wp2_with fail
  refine (record_any 4 _).mono ?_
  rintro e w23 ⟨rfl, hc4, f⟩
  have h23 := h22.fr0 f
  replace hL := hL.keep0 f
  replace hK := hK.keep0 f
  generalize w22.heap.size + 1 = g4 at *
  have F23 : Fr [] w w23 := F22.trans f
  clear f h22 F22
  go_wp2_with fail
  have f : Fr [] w23 (w23.alloc (.cells #[.int .i64 4, .slice (some ⟨g4, 0, none⟩) 1 1] 44)) := (Fr.refl _ _).alloc _
  have hb := Blk.new w23 44 #[.int .i64 4, .slice (some ⟨g4, 0, none⟩) 1 1]
  replace hc4 := hc4.fr f NoC.nil
  have h24 := h23.fr0 f
  replace hL := hL.keep0 f
  replace hK := hK.keep0 f
  have F24 : Fr [] w _ := F23.trans f
  clear f h23 F23
  generalize w23.alloc (.cells #[.int .i64 4, .slice (some ⟨g4, 0, none⟩) 1 1] 44) = w24 at *
  refine (sameRecords_own [recOf 4] [⟨recOf 4, some ⟨g4, 0, none⟩, 1⟩] AL _ 1 cL 1 _ hL (AtL.of_blk WRec.len hb rfl) (by decide) (by simp) (by
    intro u hu
    simp only [List.mem_cons, List.not_mem_nil, or_false] at hu
    subst hu
    exact ⟨hc4.1, by simp [recOf]⟩)).mono ?_
  rintro e w25 ⟨rfl, f⟩
  clear hb hc4
  rw [show Gm.sameR [recOf 4] (([⟨recOf 4, some ⟨g4, 0, none⟩, 1⟩] : List WRec).map (·.r)) = true from by simp [Gm.sameR]]
  have h25 := h24.fr0 f
  replace hL := hL.keep0 f
  replace hK := hK.keep0 f
  have F25 : Fr [] w w25 := F24.trans f
  clear f h24 F24
  go_wp2_with fail
  refine (record_any 5 _).mono ?_
  rintro e w26 ⟨rfl, hc5, f⟩
  have h26 := h25.fr0 f
  replace hK := hK.keep0 f
  generalize w25.heap.size + 1 = g5 at *
  have F26 : Fr [] w w26 := F25.trans f
  clear f h25 F25
  go_wp2_with fail
  refine (record_any 6 _).mono ?_
  rintro e w27 ⟨rfl, hc6, f⟩
  have h27 := h26.fr0 f
  replace hK := hK.keep0 f
  replace hc5 := hc5.fr f NoC.nil
  generalize w26.heap.size + 1 = g6 at *
  have F27 : Fr [] w w27 := F26.trans f
  clear f h26 F26
  go_wp2_with fail
  have f : Fr [] w27 (w27.alloc (.cells #[.int .i64 5, .slice (some ⟨g5, 0, none⟩) 1 1, .int .i64 6, .slice (some ⟨g6, 0, none⟩) 1 1] 44)) := (Fr.refl _ _).alloc _
  have hb := Blk.new w27 44 #[.int .i64 5, .slice (some ⟨g5, 0, none⟩) 1 1, .int .i64 6, .slice (some ⟨g6, 0, none⟩) 1 1]
  replace hc5 := hc5.fr f NoC.nil
  replace hc6 := hc6.fr f NoC.nil
  have h28 := h27.fr0 f
  replace hK := hK.keep0 f
  have F28 : Fr [] w _ := F27.trans f
  clear f h27 F27
  generalize w27.alloc (.cells #[.int .i64 5, .slice (some ⟨g5, 0, none⟩) 1 1, .int .i64 6, .slice (some ⟨g6, 0, none⟩) 1 1] 44) = w28 at *
  refine (sameRecords_own [recOf 5, recOf 6] [⟨recOf 5, some ⟨g5, 0, none⟩, 1⟩, ⟨recOf 6, some ⟨g6, 0, none⟩, 1⟩] AK _ 2 cK 2 _ hK (AtL.of_blk WRec.len hb rfl) (by decide) (by simp) (by
    intro u hu
    simp only [List.mem_cons, List.not_mem_nil, or_false] at hu
    rcases hu with rfl | rfl
    · exact ⟨hc5.1, by simp [recOf]⟩
    · exact ⟨hc6.1, by simp [recOf]⟩
    )).mono ?_
  rintro e w29 ⟨rfl, f⟩
  clear hb hc5 hc6
  rw [show Gm.sameR [recOf 5, recOf 6] (([⟨recOf 5, some ⟨g5, 0, none⟩, 1⟩, ⟨recOf 6, some ⟨g6, 0, none⟩, 1⟩] : List WRec).map (·.r)) = true from by simp [Gm.sameR]]
  have h29 := h28.fr0 f
  replace hK := hK.keep0 f
  have F29 : Fr [] w w29 := F28.trans f
  clear f h28 F28
  go_wp2_with fail
  refine (position_any b m ⟨6, 8, []⟩ _ h29).mono ?_
  rintro e w' ⟨rfl, rfl⟩
  go_wp2_with fail
  go_ret
  exact ⟨rfl, F29⟩
end Go.Proofs.YthiaaminkfkjpaaGreat
namespace Go.Proofs.YthiaaminkfkjpaaGreat
open Go

section
variable {P : Program} {md : Region.Mode} {ops : Array Oper} {Q : Exit → Act → World → Prop} {S : World → Prop}
/-- Two operations may come up: each is carried out, S shown anew. -/
theorem wpHead_two {n i j : Nat} {oi oj : Oper} {f : Nat} {done : Array Bool} {a : Act} {w : World} (hoi : ops[i]? = some oi) (hoj : ops[j]? = some oj) (hr : Region.ready md ops done = [i, j]) (hin : i < n) (hjn : j < n)
    (h1 : ∀ K' : Act → World → Prop, Shut (∀ a w, S w → (S w → wpHead P md ops Q S n f (done.setIfInBounds i true) a w) → K' a w) → if Region.wanted oi (yielded ops a.tmps) = true then Oper.wp P oi a w K' Q else K' (a.put oi.dst undef) w)
    (h2 : ∀ K' : Act → World → Prop, Shut (∀ a w, S w → (S w → wpHead P md ops Q S n f (done.setIfInBounds j true) a w) → K' a w) → if Region.wanted oj (yielded ops a.tmps) = true then Oper.wp P oj a w K' Q else K' (a.put oj.dst undef) w) :
    wpHead P md ops Q S n (f + 1) done a w := fun inv => by
  refine ⟨by rw [hr]; simp, fun k hk => ?_⟩
  have hk' : k = i ∨ k = j := by rw [hr] at hk; simpa using hk
  rcases hk' with hk' | hk'
  · subst hk'
    exact ⟨hin, wpOp_step hoi (fun K' hK => h1 K' (fun a w hS hW => hK a w ⟨hS, hW hS (inv.set hk hin)⟩))⟩
  · subst hk'
    exact ⟨hjn, wpOp_step hoj (fun K' hK => h2 K' (fun a w hS hW => hK a w ⟨hS, hW hS (inv.set hk hjn)⟩))⟩
end
end Go.Proofs.YthiaaminkfkjpaaGreat
