/-
  'pick', 'SameSpans', 'SameRecords'.
-/
import Derived.Test.YtlolinaggobbdaaGapG
import Derived.Test.YtlolinaggobbdaaSame
namespace Go.Proofs.Ytlolinaggobbdaa
open Go.RowKit

/-- 'pick'. -/
def pickI (c n : Int) : Int := (if c < 0 then -(c + 1) else c) % n
theorem pickI_nonneg (c : Int) {n : Int} (h : 1 ≤ n) : 0 ≤ pickI c n := Int.emod_nonneg _ (by omega)
theorem pickI_lt (c : Int) {n : Int} (h : 1 ≤ n) : pickI c n < n := Int.emod_lt_of_pos _ (by omega)
theorem pick_any (c n : Int) (w : World) (h1 : -9223372036854775808 ≤ c) (h2 : c ≤ 9223372036854775807) (h3 : 1 ≤ n) (h4 : n ≤ 1000000000) :
    Calls Try.prog 7 #[.int .i64 c, .int .i64 n] w fun e w' => e = .returned (.int .i64 (pickI c n)) ∧ w = w' := by
  have hn : (n == 0) = false := by simp; omega
  have hn' : ¬ n = 0 := by omega
  by_cases hc : c < 0
  · go_enter Try.func7, Try.ntmps7
    go_wp2
    go_ret
    have e1 : pickI c n = -(c + 1) % n := by unfold pickI; rw [if_pos hc]
    rw [e1]
    refine ⟨?_, rfl⟩
    show Ending.returned (.int .i64 (-((c + 1).tmod n))) = _
    rw [← Int.neg_tmod, Int.tmod_eq_emod_of_nonneg (by omega)]
  · go_enter Try.func7, Try.ntmps7
    go_wp2
    go_ret
    have e1 : pickI c n = c % n := by unfold pickI; rw [if_neg (by omega)]
    rw [e1]
    refine ⟨by simp, rfl⟩

/-- At A lie the elements L. -/
def AtL {X : Type} (enc : X → List Value) (size : Nat) (w : World) (A : Option Addr) (L : List X) : Prop :=
  0 < L.length → ∃ b off, A = some ⟨b, off, none⟩ ∧ b < w.heap.size ∧ ∀ i (h : i < L.length) j, j < size → w.cell? ⟨b, off + i * size + j, none⟩ = (enc L[i])[j]?
section
variable {X : Type} {enc : X → List Value} {size e : Nat} {w w' : World} {A : Option Addr} {L : List X} {v : Value}
theorem AtL.fr {S : List Nat} (h : AtL enc size w A L) (hf : Fr S w w') (hs : ∀ ad, A = some ad → ad.block ∉ S) : AtL enc size w' A L := by
  intro hl
  obtain ⟨b, off, e, hb, hc⟩ := h hl
  refine ⟨b, off, e, Nat.lt_of_lt_of_le hb hf.size, fun i hi j hj => ?_⟩
  rw [hf.cell (p := ⟨b, off + i * size + j, none⟩) hb (hs ⟨b, off, none⟩ e)]
  exact hc i hi j hj
theorem AtL.fr0 (h : AtL enc size w A L) (hf : Fr [] w w') : AtL enc size w' A L := h.fr hf (by simp)
theorem OwnL.at_ (henc : ∀ x, (enc x).length = size) (h : OwnL e size enc w v L) : ∃ A cap, v = .slice A L.length cap ∧ AtL enc size w A L := by
  rcases Nat.eq_zero_or_pos L.length with h0 | h0
  · obtain ⟨A, cap, hv⟩ := h.val
    exact ⟨A, cap, hv, fun hl => absurd hl (by omega)⟩
  · obtain ⟨g, cap, hv, _, _, hlt, hcell, _⟩ := h.form henc h0
    exact ⟨_, cap, hv, fun _ => ⟨g, 0, rfl, hlt, fun i hi j hj => by rw [Nat.zero_add]; exact hcell i hi j hj⟩⟩
theorem AtL.of_blk (henc : ∀ x, (enc x).length = size) {g t : Nat} {arr : Array Value} (hB : Blk w g t arr) (h : L.flatMap enc = arr.toList) : AtL enc size w (some ⟨g, 0, none⟩) L :=
  fun _ => ⟨g, 0, rfl, hB.lt, fun i hi j hj => by
    rw [← flat_get henc L i hi j hj, h, Nat.zero_add, hB.cell]
    simp⟩
end

def Gm.sameS (a b : List (Int × Int)) : Bool := decide (a = b)
theorem neq_span (a b : Int × Int) (w : World) : (binOp .neq 42 (.agg #[.int .i64 a.1, .int .i64 a.2]) (.agg #[.int .i64 b.1, .int .i64 b.2])).run Try.prog w = .ok (.bool (!decide (a = b))) w := by
  rw [run_neq_struct, show (10000 : Nat) = 9998 + 2 from rfl]
  rw [run_equalIn_agg w (9998 + 1) 42 _ _ (by kernel_rfl) (by kernel_rfl)]
  simp only [Program.fieldsOf, Try.underlying42]
  have hI : ∀ (a b : Int) (w : World), (Op.equalIn (9998 + 1) 3 (.int .i64 a) (.int .i64 b)).run Try.prog w = .ok (a == b) w := fun a b w => run_equalIn_int (P := Try.prog) w 9998 3 .i64 .i64 a b Try.underlying3
  obtain ⟨a1, a2⟩ := a
  obtain ⟨b1, b2⟩ := b
  simp [Op.eqFields, Sem.run_bind, part, run_isAgg_int, hI]
  repeat' split
  all_goals simp_all [Result.andThen]
theorem eqGuard_span (op : BinOp) (x y : Operand) (xs ys : Array Value) (w : World) : (eqGuard op 42 x y (.agg xs) (.agg ys)).run Try.prog w = .ok () w :=
  run_eqGuard_agg w op _ x y xs ys (by kernel_rfl)

/-- 'SameSpans'. -/
theorem sameSpans_any (a b : List (Int × Int)) (A B : Option Addr) (ca cb : Nat) (w : World) (ha : AtL encS 2 w A a) (hb : AtL encS 2 w B b) (la : a.length ≤ 100000) (lb : b.length ≤ 100000) :
    Calls Try.prog 18 #[.slice A a.length ca, .slice B b.length cb] w fun e w' => e = .returned (.bool (Gm.sameS a b)) ∧ Fr [] w w' := by
  by_cases hl : a.length = b.length
  · go_enter Try.func18, Try.ntmps18
    have HL := Lib.hid hl
    have hd : ((a.length : Int) != (b.length : Int)) = false := by simp [hl]
    clear hl
    go_wp2_with fail
    go_loopw [5] (fun i wr => ∃ k : Nat, i = .int .i64 k ∧ (k ≤ a.length ∧ a.take k = b.take k) ∧ Fr [] w wr) (fun i _ => a.length - (intOf i).toNat)
    case atStart => exact ⟨0, rfl, ⟨Nat.zero_le _, by simp⟩, Fr.refl _ _⟩
    case round =>
      obtain ⟨k, rfl, ⟨hk, htk⟩, hf⟩ := hrel
      have HTK := Lib.hid htk
      clear htk
      by_cases hlt : k < a.length
      · obtain ⟨b1, o1, e1, hb1, hc1⟩ := (ha.fr0 hf) (by omega)
        obtain ⟨b2, o2, e2, hb2, hc2⟩ := (hb.fr0 hf) (by have := HL.out; omega)
        subst e1 e2
        have hlt2 : k < b.length := by have := HL.out; omega
        replace hc1 := Lib.hid (hc1 k hlt)
        replace hc2 := Lib.hid (hc2 k hlt2)
        have htake : a[k] = b[k] → a.take (k + 1) = b.take (k + 1) := fun e => by rw [List.take_succ_eq_append_getElem hlt, List.take_succ_eq_append_getElem hlt2, HTK.out, e]
        have hdiff : a[k] ≠ b[k] → a ≠ b := fun h e => h (by simp only [e])
        have hq := neq_span a[k] b[k]
        generalize a[k] = c at *
        generalize b[k] = d at *
        obtain ⟨x, y⟩ := c
        obtain ⟨x', y'⟩ := d
        dsimp only at hq
        have c0 : wr.cell? ⟨b1, o1 + k * 2, none⟩ = some (.int .i64 x) := hc1.out 0 (by decide)
        have c1 : wr.cell? ⟨b1, o1 + k * 2 + 1, none⟩ = some (.int .i64 y) := hc1.out 1 (by decide)
        have d0 : wr.cell? ⟨b2, o2 + k * 2, none⟩ = some (.int .i64 x') := hc2.out 0 (by decide)
        have d1 : wr.cell? ⟨b2, o2 + k * 2 + 1, none⟩ = some (.int .i64 y') := hc2.out 1 (by decide)
        have hg := eqGuard_span
        clear hc1 hc2
        by_cases he : (x, y) = (x', y')
        · have HT := Lib.hid (htake he)
          rw [decide_eq_true he] at hq
          clear htake hdiff he
          go_wp2_with fail
          go_quiet (fail)
          go_wp2_with fail
          have f1 : Fr [] w (wr.drewN nq) := hf.drewN _
          go_roundw
          case rel => exact ⟨k + 1, by go_num, ⟨by omega, HT.out⟩, f1⟩
          case measure => simp [intOf]; omega
        · have HD := Lib.hid (hdiff he)
          rw [decide_eq_false he] at hq
          clear htake hdiff he
          go_wp2_with fail
          go_quiet (fail)
          go_wp2_with fail
          go_ret
          have HF : Hid (Gm.sameS a b = false) := Lib.hid (by have := HD.out; simp [Gm.sameS, this])
          exact ⟨by rw [HF.out]; rfl, hf.drewN _⟩
      · go_wp2_with fail
        go_ret
        have HF : Hid (Gm.sameS a b = true) := Lib.hid (by
          have e1 := HTK.out
          have e2 := HL.out
          rw [List.take_of_length_le (by omega), List.take_of_length_le (by omega)] at e1
          simp [Gm.sameS, e1])
        exact ⟨by rw [HF.out]; rfl, hf⟩
  · have HF : Hid (Gm.sameS a b = false) := Lib.hid (by simp [Gm.sameS]; intro e; exact hl (by rw [e]))
    have hd : ((a.length : Int) != (b.length : Int)) = true := by simp; omega
    go_enter Try.func18, Try.ntmps18
    go_wp2_with fail
    go_ret
    exact ⟨by rw [HF.out]; rfl, Fr.refl _ _⟩

def Gm.sameR (a b : List Rec) : Bool := decide (a = b)
/-- 'SameRecords'. -/
theorem sameRecords_any (a b : List WRec) (A B : Option Addr) (ca cb : Nat) (w : World) (ha : AtL WRec.cells 2 w A a) (hb : AtL WRec.cells 2 w B b) (la : a.length ≤ 100000) (lb : b.length ≤ 100000)
    (ka : ∀ u ∈ a, ChgsAt w u.A u.r.cs ∧ u.r.cs.length ≤ 8) (kb : ∀ u ∈ b, ChgsAt w u.A u.r.cs ∧ u.r.cs.length ≤ 8) :
    Calls Try.prog 19 #[.slice A a.length ca, .slice B b.length cb] w fun e w' => e = .returned (.bool (Gm.sameR (a.map (·.r)) (b.map (·.r)))) ∧ Fr [] w w' := by
  by_cases hl : a.length = b.length
  · go_enter Try.func19, Try.ntmps19
    have HL := Lib.hid hl
    have hd : ((a.length : Int) != (b.length : Int)) = false := by simp [hl]
    clear hl
    go_wp2_with fail
    go_loopw [5] (fun i wr => ∃ k : Nat, i = .int .i64 k ∧ (k ≤ a.length ∧ (a.map (·.r)).take k = (b.map (·.r)).take k) ∧ Fr [] w wr) (fun i _ => a.length - (intOf i).toNat)
    case atStart => exact ⟨0, rfl, ⟨Nat.zero_le _, by simp⟩, Fr.refl _ _⟩
    case round =>
      obtain ⟨k, rfl, ⟨hk, htk⟩, hf⟩ := hrel
      have HTK := Lib.hid htk
      clear htk
      by_cases hlt : k < a.length
      · obtain ⟨b1, o1, e1, hb1, hc1⟩ := (ha.fr0 hf) (by omega)
        obtain ⟨b2, o2, e2, hb2, hc2⟩ := (hb.fr0 hf) (by have := HL.out; omega)
        subst e1 e2
        have hlt2 : k < b.length := by have := HL.out; omega
        replace hc1 := Lib.hid (hc1 k hlt)
        replace hc2 := Lib.hid (hc2 k hlt2)
        have ka1 := ka a[k] (List.getElem_mem _)
        have kb1 := kb b[k] (List.getElem_mem _)
        have htake : a[k].r = b[k].r → (a.map (·.r)).take (k + 1) = (b.map (·.r)).take (k + 1) := fun e => by
          rw [List.take_succ_eq_append_getElem (by simpa using hlt), List.take_succ_eq_append_getElem (by simpa using hlt2), HTK.out, List.getElem_map, List.getElem_map, e]
        have hdiff : a[k].r ≠ b[k].r → a.map (·.r) ≠ b.map (·.r) := fun h e => h (by
          have h1 : (a.map (·.r))[k]? = (b.map (·.r))[k]? := by rw [e]
          rw [List.getElem?_map, List.getElem?_map, List.getElem?_eq_getElem hlt, List.getElem?_eq_getElem hlt2] at h1
          simpa using h1)
        generalize a[k] = c at *
        generalize b[k] = d at *
        have c0 : wr.cell? ⟨b1, o1 + k * 2, none⟩ = some (.int .i64 c.r.p) := hc1.out 0 (by decide)
        have c1 : wr.cell? ⟨b1, o1 + k * 2 + 1, none⟩ = some (.slice c.A c.r.cs.length c.cap) := hc1.out 1 (by decide)
        have d0 : wr.cell? ⟨b2, o2 + k * 2, none⟩ = some (.int .i64 d.r.p) := hc2.out 0 (by decide)
        have d1 : wr.cell? ⟨b2, o2 + k * 2 + 1, none⟩ = some (.slice d.A d.r.cs.length d.cap) := hc2.out 1 (by decide)
        have hfd : Fr [] w wr.drew := hf.drew
        have ka2 := ka1.1.fr hfd (by simp)
        have kb2 := kb1.1.fr hfd (by simp)
        clear hc1 hc2
        go_wp2_with fail
        go_region_held3 (fun w' => w'.cell? ⟨b1, o1 + k * 2, none⟩ = some (.int .i64 c.r.p) ∧ w'.cell? ⟨b1, o1 + k * 2 + 1, none⟩ = some (.slice c.A c.r.cs.length c.cap) ∧ w'.cell? ⟨b2, o2 + k * 2, none⟩ = some (.int .i64 d.r.p) ∧ w'.cell? ⟨b2, o2 + k * 2 + 1, none⟩ = some (.slice d.A d.r.cs.length d.cap))
          (first | go_keep | exact ⟨(hcc _ _ hb1).trans c0, (hcc _ _ hb1).trans c1, (hcc _ _ hb2).trans d0, (hcc _ _ hb2).trans d1⟩)
          (first
            | (go_at_call 12; refine (same_any c.r d.r c.A d.A c.cap d.cap _ ka2 kb2 (by omega) (by omega)).mono ?_; rintro e w1 ⟨rfl, f1⟩; obtain ⟨hcc, hff⟩ := f1.rules))
        have f2 : Fr [] w w1 := hfd.trans f1
        clear hcc hff f1 c0 c1 d0 d1
        cases he : Rw.same c.r d.r
        · have hne : c.r ≠ d.r := fun e => by rw [e, Rw.same_self] at he; cases he
          have HD := Lib.hid (hdiff hne)
          clear he hne htake hdiff
          go_wp2_with fail
          go_ret
          have HF : Hid (Gm.sameR (a.map (·.r)) (b.map (·.r)) = false) := Lib.hid (by have := HD.out; simp [Gm.sameR, this])
          exact ⟨by rw [HF.out]; rfl, f2⟩
        · have HT := Lib.hid (htake (Rw.same_true.1 he))
          clear he htake hdiff
          go_wp2_with fail
          go_roundw
          case rel => exact ⟨k + 1, by go_num, ⟨by omega, HT.out⟩, f2⟩
          case measure => simp [intOf]; omega
      · go_wp2_with fail
        go_ret
        have HF : Hid (Gm.sameR (a.map (·.r)) (b.map (·.r)) = true) := Lib.hid (by
          have e1 := HTK.out
          have e2 := HL.out
          rw [List.take_of_length_le (by simp; omega), List.take_of_length_le (by simp; omega)] at e1
          simp only [Gm.sameR, e1, decide_true])
        exact ⟨by rw [HF.out]; rfl, hf⟩
  · have HF : Hid (Gm.sameR (a.map (·.r)) (b.map (·.r)) = false) := Lib.hid (by
      simp only [Gm.sameR, decide_eq_false_iff_not]
      intro e
      exact hl (by have := congrArg List.length e; simpa using this))
    have hd : ((a.length : Int) != (b.length : Int)) = true := by simp; omega
    go_enter Try.func19, Try.ntmps19
    go_wp2_with fail
    go_ret
    exact ⟨by rw [HF.out]; rfl, Fr.refl _ _⟩
end Go.Proofs.Ytlolinaggobbdaa
