/-
  patchRows.
-/
import Derived.Test.YtjiikpmkedkbkaaFa
import Derived.StillTail
import Derived.Deep.RegionHeld
import Derived.Test.YtjiikpmkedkbkaaFf
namespace Go.Proofs.Ytjiikpmkedkbkaa
open Go.RowKit

section
variable {P : Program} {ops : Array Oper} {md : Region.Mode} {Q : Exit → Act → World → Prop} {S : World → Prop}
/-- Some operations of the head are still to come; behind each S holds. -/
def HeadS (P : Program) (md : Region.Mode) (ops : Array Oper) (Q : Exit → Act → World → Prop) (S : World → Prop) (n : Nat) (L : Array Bool → Act → World → Prop) : Nat → Array Bool → Act → World → Prop
  | 0, done, a, w => L done a w
  | f + 1, done, a, w => Region.ready md ops done ≠ [] ∧ ∀ i ∈ Region.ready md ops done, i < n ∧ wpOp P ops Q i (fun a' w' => S w' ∧ HeadS P md ops Q S n L f (done.setIfInBounds i true) a' w') a w

theorem HeadS.any {n g : Nat} {L : Array Bool → Act → World → Prop} (hL : ∀ done a w, L done a w → wpAny P md ops Q g done a w) :
    ∀ (f : Nat) (done : Array Bool) (a : Act) (w : World), HeadS P md ops Q S n L f done a w → wpAny P md ops Q (f + g) done a w := by
  intro f
  induction f with
  | zero => intro done a w h; rw [Nat.zero_add]; exact hL _ _ _ h
  | succ f ih =>
    intro done a w h
    rw [Nat.add_right_comm]
    exact ⟨fun h0 => absurd h0 h.1, fun i hi => wpOp_mono (fun a' w' h' => ih _ a' w' h'.2) (h.2 i hi).2⟩

theorem HeadS.first {n i : Nat} {oi : Oper} {v : Value} {L : Array Bool → Act → World → Prop} (hi : ops[i]? = some oi) (hsel : ∀ (j : Nat) (o : Oper) cs b, ops[j]? = some o → o.op ≠ .select cs b)
    (hQ : ∀ c a w, Q (.panic c) (a.put oi.dst v) w → Q (.panic c) a w)
    (hs : Region.sinkB md ops n = true) (hc : Region.chainB md ops n = true) (hn : n < ops.size) (hin : i < n) (hend : ∀ done a w, L done a w → ∀ j ∈ Region.ready md ops done, n ≤ j) :
    ∀ (f : Nat) (done : Array Bool) (a : Act) (w : World), HeadInv md ops n done →
      (∀ j oj, ops[j]? = some oj → j ≠ i → done.getD j true = false → (∀ e ∈ oj.after, Region.binds md e = true → e.on ≠ i) → oi.apart ops oj = true) →
      i ∈ Region.ready md ops done → YieldsIf P ops S oi v a → S w → HeadS P md ops Q S n L f (done.setIfInBounds i true) (a.put oi.dst v) w → HeadS P md ops Q S n L (f + 1) done a w := by
  intro f
  induction f with
  | zero =>
    intro done a w inv _ hr hy hS H
    have hun := (mem_ready.1 hr).1
    refine ⟨List.ne_nil_of_mem hr, fun j hj => ?_⟩
    have hjn : j < n := Nat.lt_of_not_le fun h => tail_waits hs hc hn inv _ i rfl hin hun j h hj
    refine ⟨hjn, ?_⟩
    by_cases e : j = i
    · subst e
      exact hy.wpOp hi hS ⟨hS, H⟩
    · exact absurd (hend _ _ _ H j (ready_mono hj e)) (by omega)
  | succ f ih =>
    intro done a w inv hfree hr hy hS H
    have hun := (mem_ready.1 hr).1
    refine ⟨List.ne_nil_of_mem hr, fun j hj => ?_⟩
    have hjn : j < n := Nat.lt_of_not_le fun h => tail_waits hs hc hn inv _ i rfl hin hun j h hj
    refine ⟨hjn, ?_⟩
    by_cases e : j = i
    · subst e
      exact hy.wpOp hi hS ⟨hS, H⟩
    · obtain ⟨hjun, oj, hoj, hall⟩ := mem_ready.1 hj
      have hnot : ∀ e ∈ oj.after, Region.binds md e = true → e.on ≠ i := by
        intro x hx hb hxi
        have h1 := hall x hx hb
        rw [hxi, getD_both hun] at h1
        cases h1
      have h2 := wpOp_putIf hoj (hfree j oj hoj e hjun hnot) (fun cs b => hsel i oi cs b hi) (fun cs b => hsel j oj cs b hoj) hQ hy (H.2 j (ready_mono hj e)).2
      have hfree' : ∀ k ok, ops[k]? = some ok → k ≠ i → (done.setIfInBounds j true).getD k true = false →
          (∀ e ∈ ok.after, Region.binds md e = true → e.on ≠ i) → oi.apart ops ok = true := fun k ok hk hki hkun hkn => by
        refine hfree k ok hk hki ?_ hkn
        by_cases hjk : j = k
        · subst hjk
          exact hjun
        · rwa [getD_set_ne true hjk] at hkun
      refine wpOp_mono (fun a' w' h3 => ⟨h3.2.1, ih (done.setIfInBounds j true) a' w' (inv.set hj hjn) hfree' (ready_mono hr (Ne.symm e)) h3.1 h3.2.1 ?_⟩) h2
      rw [Array.setIfInBounds_comm _ _ e]
      exact h3.2.2

/-- The walk's goal within the head. -/
def wpHead (P : Program) (md : Region.Mode) (ops : Array Oper) (Q : Exit → Act → World → Prop) (S : World → Prop) (n f : Nat) (done : Array Bool) (a : Act) (w : World) : Prop :=
  HeadInv md ops n done → HeadS P md ops Q S n (fun d a' w' => Region.seqB md ops (ops.size - n) n d = true ∧ wpList P ops Q (ops.toList.drop n) a' w') f done a w

theorem wpHead_take {n i : Nat} {oi : Oper} {v : Value} {f : Nat} {done : Array Bool} {a : Act} {w : World} (hi : ops[i]? = some oi)
    (hB : (Region.noSelect ops && (Region.sinkB md ops n && (Region.chainB md ops n && (decide (n < ops.size) && (decide (i < n) && (Region.free md ops done i && (Region.ready md ops done).contains i)))))) = true)
    (hQ : ∀ c a w, Q (.panic c) (a.put oi.dst v) w → Q (.panic c) a w) (hy : YieldsIf P ops S oi v a) (hS : S w)
    (h : wpHead P md ops Q S n f (done.setIfInBounds i true) (a.put oi.dst v) w) : wpHead P md ops Q S n (f + 1) done a w := fun inv => by
  simp only [Bool.and_eq_true, decide_eq_true_eq] at hB
  obtain ⟨b1, b2, b3, b4, b5, b6, b7⟩ := hB
  have hr : i ∈ Region.ready md ops done := by simpa using b7
  exact HeadS.first hi (Region.noSelect_spec b1) hQ b2 b3 b4 b5 (fun d a' w' hL => seqB_ready hL.1) f done a w inv (Region.free_spec hi b6) hr hy hS (h (inv.set hr b5))

/-- One operation alone may come up: it is carried out, S shown anew. -/
theorem wpHead_one {n i : Nat} {o : Oper} {f : Nat} {done : Array Bool} {a : Act} {w : World} (ho : ops[i]? = some o) (hr : Region.ready md ops done = [i]) (hin : i < n)
    (h : ∀ K' : Act → World → Prop, Shut (∀ a w, S w → (S w → wpHead P md ops Q S n f (done.setIfInBounds i true) a w) → K' a w) → if Region.wanted o (yielded ops a.tmps) = true then Oper.wp P o a w K' Q else K' (a.put o.dst undef) w) :
    wpHead P md ops Q S n (f + 1) done a w := fun inv => by
  refine ⟨by rw [hr]; simp, fun j hj => ?_⟩
  have hj' : j = i := by rw [hr] at hj; simpa using hj
  subst hj'
  exact ⟨hin, wpOp_step ho (fun K' hK => h K' (fun a w hS hW => hK a w ⟨hS, hW hS (inv.set hj hin)⟩))⟩

/-- The head is done. -/
theorem wpHead_done {n : Nat} {done : Array Bool} {a : Act} {w : World} (hB : Region.seqB md ops (ops.size - n) n done = true) (h : wpList P ops Q (ops.toList.drop n) a w) : wpHead P md ops Q S n 0 done a w :=
  fun _ => ⟨hB, h⟩

theorem wp_region_head {id : Nat} {a : Act} {w : World} {l : List Oper} (S : World → Prop) (n : Nat) (hm : P.follows .mixedOrders = true) (hn : decide (n ≤ l.length) = true) (hS : S w.drew)
    (h : S w.drew → wpHead P .any l.toArray Q S n n (Array.replicate l.length false) a w.drew) : (Code.region id l.toArray true).wp P Q a w := by
  simp only [decide_eq_true_eq] at hn
  refine wp_region_any hm ?_
  have inv0 : HeadInv .any l.toArray n (Array.replicate l.length false) :=
    ⟨by simp, fun j oj _ hl => (by rw [getD_replicate_false] at hl; cases hl), fun t _ ht => getD_in (by simpa using ht) (getD_replicate_false _ _)⟩
  have H2 := HeadS.any (Q := Q) (g := l.toArray.size - n) (fun d a' w' hL => by
    have h1 := wpAny_of_seq (P := P) (ops := l.toArray) (md := .any) (Q' := Q) (l.drop n) n d a' w' (fun j => by simp [List.getElem?_drop]) (by
      have e : (l.drop n).length = l.toArray.size - n := by simp
      rw [e]; exact hL.1) (by simpa using hL.2)
    have e : (l.drop n).length = l.toArray.size - n := by simp
    rwa [e] at h1) _ _ _ _ (h hS inv0)
  have e : n + (l.toArray.size - n) = l.toArray.size := by simp; omega
  rw [e] at H2
  simpa using H2
/-- A load of a whole struct from the head of a block that S names. -/
theorem yieldsIf_load_blk {o : Oper} {a : Act} (hw : Region.wanted o (yielded ops a.tmps) = true) (ty : TypeId) (x : Operand) (ho : o.op = .load ty x) (g : Nat) (hx : a.eval x = .pointer (some ⟨g, 0, none⟩)) (t : TypeId) (cs : Array Value) (d : TypeDesc)
    (hS : ∀ w, S w → Blk w g t cs) (hu : P.underlying ty = some d) (hd : (match d with | .struct _ | .array _ _ => true | _ => false) = true) (hi : (P.info? ty).map (·.size) = some cs.size) : YieldsIf P ops S o (.agg cs) a := by
  refine .inl ⟨hw, fun w h => ?_⟩
  have hr := run_loadVar_row (P := P) w g t ty cs (0, 0) d (hS w h) hu hd hi
  unfold execOp
  simp only [ho, hx, Instr.loadAt, Instr.sureAddr, Sem.run_bind, Sem.run_pure, Result.andThen_ok, hr]
end
end Go.Proofs.Ytjiikpmkedkbkaa
namespace Go.Proofs.Ytjiikpmkedkbkaa
open Go.RowKit

set_option maxRecDepth 100000 in
set_option maxHeartbeats 4000000 in
/-- The rows of the change itself. -/
theorem prows1_any (q : Qry) (c : Chg) (pb pa : Option Addr) (u v : Int) (ge : Nat) (x : RowV) (w : World) (he : EffAt w ge q c pb pa u v) :
    Calls Try.prog 71 #[x.val, .pointer (some ⟨ge, 0, none⟩)] w fun e w' => e = .returned (.bool (Pm.own c x)) ∧ Fr [] w w' := by
  obtain ⟨r0, r1, r2, r3, r4⟩ := x
  have F0 := (Fr.refl [] w).alloc (.cells #[.int .i64 r0, .int .i64 r1, .int .i64 r2, .int .i64 r3, .int .i64 r4] 57)
  have hb := Blk.new w 57 #[.int .i64 r0, .int .i64 r1, .int .i64 r2, .int .i64 r3, .int .i64 r4]
  have HE := Lib.hid (he.fr0 F0)
  have HF := Lib.hid F0
  have HB := Lib.hid hb
  clear he F0 hb
  obtain ⟨R, hR⟩ : ∃ R, Pm.own c ⟨r0, r1, r2, r3, r4⟩ = R := ⟨_, rfl⟩
  rw [hR]
  have HP : Hid (R = (decide (r0 = c.t) && decide (r1 = c.k))) := Lib.hid hR.symm
  clear hR
  go_enter Try.func71, Try.ntmps71
  go_upto_region 1 with (fail)
  generalize w.alloc (.cells #[.int .i64 r0, .int .i64 r1, .int .i64 r2, .int .i64 r3, .int .i64 r4] 57) = w1 at *
  have b0 := HB.out.cell 0
  have b1 : w1.cell? ⟨w.heap.size, 1, none⟩ = some (.int .i64 r1) := HB.out.cell 1
  have e7 := HE.out.c7
  have e8 := HE.out.c8
  by_cases h1 : r0 = c.t
  · have E : Hid ((decide (r0 = c.t) && decide (r1 = c.k)) = (r1 == c.k)) := Lib.hid (by simp [h1]; rfl)
    have g1 : (r0 == c.t) = true := by simp [h1]
    have HH := Lib.hid h1
    clear h1
    go_wp2
    go_ret
    exact ⟨by rw [HP.out, E.out]; rfl, HF.out⟩
  · have E : Hid ((decide (r0 = c.t) && decide (r1 = c.k)) = false) := Lib.hid (by simp [h1])
    have g1 : (r0 == c.t) = false := by simp [h1]
    have HH := Lib.hid h1
    clear h1
    go_wp2
    go_ret
    exact ⟨by rw [HP.out, E.out]; rfl, HF.out⟩
set_option maxRecDepth 100000 in
set_option maxHeartbeats 8000000 in
theorem prows_any (q : Qry) (c : Chg) (pb pa : Option Addr) (u v : Int) (X : Option Addr) (n cap : Nat) (m : Int) (f : Bool) (L : List RowV) (w : World) (hx : AtL RowV.cells 5 w X L) (hn : n = L.length) (hl : n ≤ 100000) (hpa : PtrR w pa (Pm.A q c)) :
    Calls Try.prog 49 #[.agg (effArr q c pb pa u v), .agg #[.slice X n cap, .int .i64 m, .bool f]] w fun e w' => ∃ A' n' c', e = .returned (.tuple #[.agg #[.slice A' n' c', .int .i64 m, .bool f], .bool true]) ∧ OwnL 57 5 RowV.cells w' (.slice A' n' c') (Pm.rows q L c) ∧ Fr [] w w' := by
  have F0 : Hid (Fr [] w (((w.alloc (.cells (effArr q c pb pa u v) 78)).alloc (.cells #[.slice X n cap, .int .i64 m, .bool f] 27)).alloc (.cells #[.slice none 0 0, .int .i64 0, .bool false] 27))) := Lib.hid ((((Fr.refl _ _).alloc _).alloc _).alloc _)
  have HB : Hid (EffAt (((w.alloc (.cells (effArr q c pb pa u v) 78)).alloc (.cells #[.slice X n cap, .int .i64 m, .bool f] 27)).alloc (.cells #[.slice none 0 0, .int .i64 0, .bool false] 27)) w.heap.size q c pb pa u v) := Lib.hid (Blk.alloc (Blk.alloc (EffAt.new w q c pb pa u v) _) _)
  have hr := Blk.new (w.alloc (.cells (effArr q c pb pa u v) 78)) 27 #[.slice X n cap, .int .i64 m, .bool f]
  rw [World.size_alloc] at hr
  have HR : Hid (Blk (((w.alloc (.cells (effArr q c pb pa u v) 78)).alloc (.cells #[.slice X n cap, .int .i64 m, .bool f] 27)).alloc (.cells #[.slice none 0 0, .int .i64 0, .bool false] 27)) (w.heap.size + 1) 27 #[.slice X n cap, .int .i64 m, .bool f]) := Lib.hid (hr.alloc _)
  have hz := Blk.new ((w.alloc (.cells (effArr q c pb pa u v) 78)).alloc (.cells #[.slice X n cap, .int .i64 m, .bool f] 27)) 27 #[.slice none 0 0, .int .i64 0, .bool false]
  rw [World.size_alloc, World.size_alloc] at hz
  have HZ := Lib.hid hz
  have HS3 : Hid ((((w.alloc (.cells (effArr q c pb pa u v) 78)).alloc (.cells #[.slice X n cap, .int .i64 m, .bool f] 27)).alloc (.cells #[.slice none 0 0, .int .i64 0, .bool false] 27)).heap.size = w.heap.size + 3) := Lib.hid (by simp [World.size_alloc])
  clear hr hz
  have HX := Lib.hid (hx.fr0 F0.out)
  have HPA := Lib.hid (hpa.fr0 F0.out)
  have HN := Lib.hid hn
  have HGA : Hid (∀ r, Pm.A q c = some r → ∀ ga, pa = some ⟨ga, 0, none⟩ → ga < w.heap.size) := Lib.hid (fun r hr ga hga => by
    rw [hr] at hpa
    obtain ⟨g, h1, h2⟩ := hpa
    rw [hga] at h1
    injection h1 with h1
    injection h1 with h1
    subst h1
    exact h2.lt)
  clear hx hpa hn
  go_enter Try.func49, Try.ntmps49
  go_upto_region 1 with (fail)
  generalize (((w.alloc (.cells (effArr q c pb pa u v) 78)).alloc (.cells #[.slice X n cap, .int .i64 m, .bool f] 27)).alloc (.cells #[.slice none 0 0, .int .i64 0, .bool false] 27)) = w1 at *
  have c0 := HR.out.cell 0
  have HWO := Lib.hid (rowWithout_any 71 #[.pointer (some ⟨w.heap.size, 0, none⟩)] (Pm.own c) X n cap L w1 HX.out HN.out hl (enters_of Try.func71 (by kernel_rfl) rfl) (fun W x hf => prows1_any q c pb pa u v w.heap.size x W (HB.out.fr0 hf)))
  have HL2 : Hid ((L.filter fun x => !Pm.own c x).length ≤ 100000) := Lib.hid (Nat.le_trans (List.length_filter_le _ _) (by rw [← HN.out]; exact hl))
  go_upto_region 2 with (go_at_call 70; refine HWO.out.mono ?_; rintro e w2 ⟨A2, n2, c2, rfl, ho2, f2, hg2⟩; have HO2 := Lib.hid ho2; have F2 := Lib.hid f2; have HG2 : Hid (∀ ad, A2 = some ad → w.heap.size + 3 ≤ ad.block) := Lib.hid (fun ad ha => by have := hg2 ad ha; have := HS3.out; omega); have z0 := (HR.out.fr f2 (by simp)).frozen 0; have d0 := (HR.out.fr f2 (by simp)).cell 0; clear ho2 f2 hg2)
  clear z0 d0 c0 HWO
  have hfs : Fr [w.heap.size + 1] w2 (w2.setCell ⟨w.heap.size + 1, 0, none⟩ (.slice A2 n2 c2)) := (Fr.refl _ _).setCell (.inl (by simp)) _
  have HR2 : Hid (Blk (w2.setCell ⟨w.heap.size + 1, 0, none⟩ (.slice A2 n2 c2)) (w.heap.size + 1) 27 #[.slice A2 n2 c2, .int .i64 m, .bool f]) := Lib.hid ((HR.out.fr F2.out (by simp)).set_ 0 _)
  have HZ2 := Lib.hid ((HZ.out.fr F2.out (by simp)).fr hfs (by simp))
  have HB2 := Lib.hid ((HB.out.fr0 F2.out).fr hfs (by simp))
  have HO3 := Lib.hid (HO2.out.fr hfs (fun g hg => by obtain ⟨ad, h1, h2⟩ := mem_sliceB.1 (own_sliceB hg); have := HG2.out ad h1; simp; omega))
  have FA := Lib.hid ((F0.out.trans F2.out).trans' hfs (by simp))
  have HPA2 : Hid (PtrR (w2.setCell ⟨w.heap.size + 1, 0, none⟩ (.slice A2 n2 c2)) pa (Pm.A q c)) := Lib.hid ((HPA.out.fr0 F2.out).frE hfs (fun g' cs hb e => by
    subst e
    have h9 : Blk _ _ _ _ := HR.out.fr F2.out (by simp)
    unfold Blk at h9 hb
    rw [h9] at hb
    injection hb with hb
    injection hb with _ ht
    exact absurd ht (by decide)))
  have HS4 : Hid (w.heap.size + 3 ≤ (w2.setCell ⟨w.heap.size + 1, 0, none⟩ (.slice A2 n2 c2)).heap.size) := Lib.hid (by have h1 := F2.out.size; have h2 := hfs.size; have := HS3.out; omega)
  clear hfs HR HZ HB HO2 HPA HX F0 F2
  generalize w2.setCell ⟨w.heap.size + 1, 0, none⟩ (.slice A2 n2 c2) = w4 at *
  obtain ⟨T, HT⟩ : ∃ T, Hid (Pm.rows q L c = T) := ⟨_, Lib.hid rfl⟩
  cases hA : Pm.A q c with
  | none =>
    have hpn : pa = none := by have h := HPA2.out; rw [hA] at h; exact h
    subst hpn
    have HOR : Hid (OwnL 57 5 RowV.cells w4 (.slice A2 n2 c2) (Pm.rows q L c)) := Lib.hid (by
      unfold Pm.rows
      rw [hA]
      exact HO3.out)
    have e18 := HB2.out.c18
    have HR3 := HR2.out
    have HZ3 := HZ2.out
    clear hA HT HGA
    go_wp2_with (first
      | (refine wpList_load_row rfl _ _ rfl (w.heap.size + 1) rfl 27 _ (0, 0) _ HR3 Try.underlying27 rfl (by kernel_rfl) ?_)
      | (refine wpList_store_blk rfl _ _ _ rfl (w.heap.size + 1 + 1) #[.slice A2 n2 c2, .int .i64 m, .bool f] rfl rfl 27 _ HZ3 (by kernel_rfl) rfl rfl ?_; intro w9 hb9 hf9; have HB9 := Lib.hid hb9; have HF9 := Lib.hid hf9; clear hb9 hf9))
    have q0 := HB9.out.cell 0
    have q1 := HB9.out.cell 1
    have q2 := HB9.out.cell 2
    refine bodyPost_ret (v := .tuple #[.agg #[.slice A2 n2 c2, .int .i64 m, .bool f], .bool true]) (by simp [results, Try.results49, go_sem, q0, q1, q2]) rfl ⟨_, _, _, rfl, HOR.out.fr HF9.out (fun g hg => by obtain ⟨ad, h1, h2⟩ := mem_sliceB.1 (own_sliceB hg); have := HG2.out ad h1; simp; omega), FA.out.trans' HF9.out (fun i hi => .inr (by rw [List.mem_singleton] at hi; omega))⟩
  | some a =>
    have hpa : ∃ ga, pa = some ⟨ga, 0, none⟩ ∧ Blk w4 ga 57 a.cells.toArray := by have h := HPA2.out; rw [hA] at h; exact h
    obtain ⟨ga, rfl, hga⟩ := hpa
    have HA2 := Lib.hid hga
    have HGA2 : Hid (ga < w.heap.size) := Lib.hid (HGA.out _ hA ga rfl)
    clear HGA
    have HRO : Hid (Pm.rows q L c = Pm.ins (Pm.behind q a) a (L.filter fun x => !Pm.own c x)) := Lib.hid (by
      unfold Pm.rows
      rw [hA])
    clear hA hga HT
    obtain ⟨r0, r1, r2, r3, r4⟩ := a
    have e18 := HB2.out.c18
    go_upto_region 3 with (fail)
    clear e18
    have HS : Hid (∀ W, Fr [] w4 W → W.cell? ⟨w.heap.size + 1, 0, none⟩ = some (.slice A2 n2 c2) ∧ W.cell? ⟨w.heap.size, 18, none⟩ = some (.pointer (some ⟨ga, 0, none⟩)) ∧ Blk W w.heap.size 78 (effArr q c pb (some ⟨ga, 0, none⟩) u v) ∧ Blk W ga 57 #[.int .i64 r0, .int .i64 r1, .int .i64 r2, .int .i64 r3, .int .i64 r4]) := Lib.hid (fun W hf => ⟨(HR2.out.fr hf (by simp)).cell 0, (HB2.out.fr0 hf).c18, HB2.out.fr0 hf, HA2.out.fr hf (by simp)⟩)
    have HAF : Hid (∀ W, Fr [] w4 W → Blk W ga 57 (RowV.cells ⟨r0, r1, r2, r3, r4⟩).toArray) := Lib.hid (fun W hf => HA2.out.fr hf (by simp))
    have HNR : Hid (w.heap.size + 1 ∉ sliceB A2) := Lib.hid (fun hm => by obtain ⟨ad, h1, h2⟩ := mem_sliceB.1 hm; have := HG2.out ad h1; omega)
    have HNZ : Hid (w.heap.size + 1 + 1 ∉ sliceB A2) := Lib.hid (fun hm => by obtain ⟨ad, h1, h2⟩ := mem_sliceB.1 hm; have := HG2.out ad h1; omega)
    have HIN : Hid (∀ W ge gv, Fr [] w4 W → EffAt W ge q c pb (some ⟨ga, 0, none⟩) u v → Blk W gv 3 #[.int .i64 (RowV.value ⟨r0, r1, r2, r3, r4⟩ q.column)] → Calls Try.prog 72 #[.slice A2 n2 c2, .agg #[.int .i64 r0, .int .i64 r1, .int .i64 r2, .int .i64 r3, .int .i64 r4], .func (.func 81) #[] #[.pointer (some ⟨ge, 0, none⟩), .pointer (some ⟨gv, 0, none⟩)]] W fun e w' => ∃ A' n' c', e = .returned (.slice A' n' c') ∧ Hid (OwnL 57 5 RowV.cells w' (.slice A' n' c') (Pm.rows q L c)) ∧ Hid (Fr (sliceB A2) W w') ∧ Hid (∀ ad, A' = some ad → ad.block ∈ sliceB A2 ∨ W.heap.size ≤ ad.block)) := Lib.hid (fun W ge gv hf he hv => by
      have ho := HO3.out.fr hf (by simp)
      refine (rowInserted_any 81 #[.pointer (some ⟨ge, 0, none⟩), .pointer (some ⟨gv, 0, none⟩)] (Pm.behind q ⟨r0, r1, r2, r3, r4⟩) A2 n2 c2 _ ⟨r0, r1, r2, r3, r4⟩ W ho (by rw [ho.blk.1]; exact HL2.out) (enters_of Try.func81 (by kernel_rfl) rfl) (fun W' x hf' => pbehind1_any q c pb u v ga ge gv ⟨r0, r1, r2, r3, r4⟩ x W' (he.fr0 hf') (hv.fr hf' (by simp)) (HA2.out.fr (hf.trans hf') (by simp)))).mono ?_
      rintro e w' ⟨A', n', c', rfl, h1, h2, h3⟩
      exact ⟨A', n', c', rfl, Lib.hid (by rw [HRO.out]; exact h1), Lib.hid h2, Lib.hid h3⟩)
    have HSX : Hid (∀ W1 W, Fr [] w4 W1 → Fr (sliceB A2) W1 W → W.cell? ⟨w.heap.size + 1, 0, none⟩ = some (.slice A2 n2 c2) ∧ W.cell? ⟨w.heap.size, 18, none⟩ = some (.pointer (some ⟨ga, 0, none⟩)) ∧ Blk W w.heap.size 78 (effArr q c pb (some ⟨ga, 0, none⟩) u v) ∧ Blk W ga 57 #[.int .i64 r0, .int .i64 r1, .int .i64 r2, .int .i64 r3, .int .i64 r4]) := Lib.hid (fun W1 W h1 h2 => by
      have k : ∀ g, g < w.heap.size + 3 → g ∉ sliceB A2 := fun g hg hm => by obtain ⟨ad, e1, e2⟩ := mem_sliceB.1 hm; have := HG2.out ad e1; omega
      have b := (HB2.out.fr0 h1).fr h2 (k _ (by omega))
      have r := (HR2.out.fr h1 (by simp)).fr h2 (k _ (by omega))
      have a := (HA2.out.fr h1 (by simp)).fr h2 (k _ (by have := HGA2.out; omega))
      exact ⟨r.cell 0, b.c18, b, a⟩)
    refine wp_region_head (fun W => W.cell? ⟨w.heap.size + 1, 0, none⟩ = some (.slice A2 n2 c2) ∧ W.cell? ⟨w.heap.size, 18, none⟩ = some (.pointer (some ⟨ga, 0, none⟩)) ∧ Blk W w.heap.size 78 (effArr q c pb (some ⟨ga, 0, none⟩) u v) ∧ Blk W ga 57 #[.int .i64 r0, .int .i64 r1, .int .i64 r2, .int .i64 r3, .int .i64 r4]) 10 (by kernel_rfl) (by kernel_rfl) (HS.out _ (Fr.refl [] w4).drew) (fun hHeld => ?_)
    refine wpHead_take (i := 0) (oi := ⟨some 14, _, _, _, _, _⟩) (v := ?_) rfl (by kernel_rfl) (fun _ _ _ h => h) (Or.inl ⟨by rfl, ?_⟩) hHeld ?_
    rotate_left
    · (intro w hSw; (try dsimp only at hSw); go_simp; try with_reducible rfl)
    try simp only [Act.put, List.setIfInBounds_toArray, List.set_cons_zero, List.set_cons_succ]
    refine wpHead_take (i := 1) (oi := ⟨some 15, _, _, _, _, _⟩) (v := ?_) rfl (by kernel_rfl) (fun _ _ _ h => h) (Or.inl ⟨by rfl, ?_⟩) hHeld ?_
    rotate_left
    · (intro w hSw; (try dsimp only at hSw); go_simp; try with_reducible rfl)
    try simp only [Act.put, List.setIfInBounds_toArray, List.set_cons_zero, List.set_cons_succ]
    refine wpHead_take (i := 2) (oi := ⟨some 16, _, _, _, _, _⟩) (v := ?_) rfl (by kernel_rfl) (fun _ _ _ h => h) (Or.inl ⟨by rfl, ?_⟩) hHeld ?_
    rotate_left
    · (intro w hSw; (try dsimp only at hSw); go_simp; try with_reducible rfl)
    try simp only [Act.put, List.setIfInBounds_toArray, List.set_cons_zero, List.set_cons_succ]
    refine wpHead_take (i := 3) (oi := ⟨some 17, _, _, _, _, _⟩) (v := ?_) rfl (by kernel_rfl) (fun _ _ _ h => h) (Or.inl ⟨by rfl, ?_⟩) hHeld ?_
    rotate_left
    · (intro w hSw; (try dsimp only at hSw); go_simp; try with_reducible rfl)
    try simp only [Act.put, List.setIfInBounds_toArray, List.set_cons_zero, List.set_cons_succ]
    refine wpHead_take (i := 4) (oi := ⟨some 18, _, _, _, _, _⟩) (v := ?_) rfl (by kernel_rfl) (fun _ _ _ h => h) (Or.inl ⟨by rfl, ?_⟩) hHeld ?_
    rotate_left
    · (intro w hSw; (try dsimp only at hSw); go_simp; try with_reducible rfl)
    try simp only [Act.put, List.setIfInBounds_toArray, List.set_cons_zero, List.set_cons_succ]
    refine wpHead_take (i := 5) (oi := ⟨some 19, _, _, _, _, _⟩) (v := .agg (#[.int .i64 r0, .int .i64 r1, .int .i64 r2, .int .i64 r3, .int .i64 r4])) rfl (by kernel_rfl) (fun _ _ _ h => h) (yieldsIf_load_blk (by rfl) _ _ rfl ga rfl 57 (#[.int .i64 r0, .int .i64 r1, .int .i64 r2, .int .i64 r3, .int .i64 r4]) _ (fun _ h => h.2.2.2) Try.underlying57 rfl (by kernel_rfl)) hHeld ?_
    try simp only [Act.put, List.setIfInBounds_toArray, List.set_cons_zero, List.set_cons_succ]
    refine wpHead_take (i := 6) (oi := ⟨some 20, _, _, _, _, _⟩) (v := .agg (effArr q c pb (some ⟨ga, 0, none⟩) u v)) rfl (by kernel_rfl) (fun _ _ _ h => h) (yieldsIf_load_blk (by rfl) _ _ rfl w.heap.size rfl 78 (effArr q c pb (some ⟨ga, 0, none⟩) u v) _ (fun _ h => h.2.2.1) Try.underlying78 rfl (by kernel_rfl)) hHeld ?_
    try simp only [Act.put, List.setIfInBounds_toArray, List.set_cons_zero, List.set_cons_succ]
    refine wpHead_one (i := 7) (o := ⟨some 21, _, _, _, _, _⟩) rfl (by kernel_rfl) (by decide) (fun K hK => ?_)
    go_simp
    (with_reducible refine (pbehind_any q c pb u v ga ⟨r0, r1, r2, r3, r4⟩ _ (HAF.out _ (Fr.refl [] w4).drew)).mono ?_)
    rintro e wb ⟨ge, gv, rfl, he5, hv5, f5, -, -⟩
    have HE5 := Lib.hid he5
    have HV5 := Lib.hid hv5
    have FB : Hid (Fr [] w4 wb) := Lib.hid ((Fr.refl [] w4).drew.trans f5)
    clear he5 hv5 f5
    refine hK.out _ _ ?_ (fun hHeld => ?_)
    · exact HS.out _ FB.out
    clear hK K
    try simp only [Act.put, List.setIfInBounds_toArray, List.set_cons_zero, List.set_cons_succ]
    refine wpHead_one (i := 8) (o := ⟨some 22, _, _, _, _, _⟩) rfl (by kernel_rfl) (by decide) (fun K hK => ?_)
    go_simp
    (with_reducible refine (HIN.out _ _ _ FB.out HE5.out HV5.out).mono ?_)
    rintro e wi ⟨A3, n3, c3, rfl, HOi, HFi, HGi⟩
    refine hK.out _ _ ?_ (fun hHeld => ?_)
    · exact HSX.out _ _ FB.out HFi.out
    clear hK K
    try simp only [Act.put, List.setIfInBounds_toArray, List.set_cons_zero, List.set_cons_succ]
    refine wpHead_take (i := 9) (oi := ⟨some 23, _, _, _, _, _⟩) (v := ?_) rfl (by kernel_rfl) (fun _ _ _ h => h) (Or.inl ⟨by rfl, ?_⟩) hHeld ?_
    rotate_left
    · (intro w hSw; (try dsimp only at hSw); go_simp; try with_reducible rfl)
    try simp only [Act.put, List.setIfInBounds_toArray, List.set_cons_zero, List.set_cons_succ]
    refine wpHead_done (by kernel_rfl) ?_
    simp only [List.drop_succ_cons, List.drop_zero]
    
    have hr := (HR2.out.fr FB.out (by simp)).fr HFi.out HNR.out
    have z0 := hr.frozen 0
    have d0 := hr.cell 0
    have hfs : Fr [w.heap.size + 1] wi (wi.setCell ⟨w.heap.size + 1, 0, none⟩ (.slice A3 n3 c3)) := (Fr.refl _ _).setCell (.inl (by simp)) _
    have HR4 : Hid (Blk (wi.setCell ⟨w.heap.size + 1, 0, none⟩ (.slice A3 n3 c3)) (w.heap.size + 1) 27 #[.slice A3 n3 c3, .int .i64 m, .bool f]) := Lib.hid (hr.set_ 0 _)
    have HZ4 := Lib.hid (((HZ2.out.fr FB.out (by simp)).fr HFi.out HNZ.out).fr hfs (by simp))
    have hbig : ∀ ad, A3 = some ad → w.heap.size + 3 ≤ ad.block := fun ad ha => by
      rcases HGi.out ad ha with h | h
      · obtain ⟨ad2, e1, e2⟩ := mem_sliceB.1 h
        have := HG2.out ad2 e1
        omega
      · have h1 := FB.out.size
        have h2 := HS4.out
        omega
    have HO4 := Lib.hid (HOi.out.fr hfs (fun g hg => by obtain ⟨ad, h1, h2⟩ := mem_sliceB.1 (own_sliceB hg); have := hbig ad h1; simp; omega))
    have HBG := Lib.hid hbig
    have FA4 : Hid (Fr [] w (wi.setCell ⟨w.heap.size + 1, 0, none⟩ (.slice A3 n3 c3))) := Lib.hid (((FA.out.trans FB.out).trans' HFi.out (fun i hi => by obtain ⟨ad, h1, h2⟩ := mem_sliceB.1 hi; have := HG2.out ad h1; exact .inr (by omega))).trans' hfs (by simp))
    clear hr hbig
    go_upto_region 4 with (fail)
    clear z0 d0 hfs
    generalize wi.setCell ⟨w.heap.size + 1, 0, none⟩ (.slice A3 n3 c3) = w8 at *
    have HR5 := HR4.out
    have HZ5 := HZ4.out
    go_wp2_with (first
      | (refine wpList_load_row rfl _ _ rfl (w.heap.size + 1) rfl 27 _ (0, 0) _ HR5 Try.underlying27 rfl (by kernel_rfl) ?_)
      | (refine wpList_store_blk rfl _ _ _ rfl (w.heap.size + 1 + 1) #[.slice A3 n3 c3, .int .i64 m, .bool f] rfl rfl 27 _ HZ5 (by kernel_rfl) rfl rfl ?_; intro w9 hb9 hf9; have HB9 := Lib.hid hb9; have HF9 := Lib.hid hf9; clear hb9 hf9))
    have q0 := HB9.out.cell 0
    have q1 := HB9.out.cell 1
    have q2 := HB9.out.cell 2
    refine bodyPost_ret (v := .tuple #[.agg #[.slice A3 n3 c3, .int .i64 m, .bool f], .bool true]) (by simp [results, Try.results49, go_sem, q0, q1, q2]) rfl ⟨_, _, _, rfl, HO4.out.fr HF9.out (fun g hg => by obtain ⟨ad, h1, h2⟩ := mem_sliceB.1 (own_sliceB hg); have := HBG.out ad h1; simp; omega), FA4.out.trans' HF9.out (fun i hi => .inr (by rw [List.mem_singleton] at hi; omega))⟩
end Go.Proofs.Ytjiikpmkedkbkaa
