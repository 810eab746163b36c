/-
  Reference 07: left.
-/
import Derived.Test.YtjiikpmkedkbkaaRsC
import Derived.Test.YtjiikpmkedkbkaaRsE
namespace Go.Proofs.Ytjiikpmkedkbkaa
open Go.RowKit

section
variable {X : Type} {e size : Nat} {enc : X → List Value}
/-- A block of two elements, just laid, as a row of its own. -/
theorem own_two (w : World) (x y : X) (henc : ∀ x, (enc x).length = size) : OwnL e size enc (w.alloc (.cells (enc x ++ enc y).toArray e)) (.slice (some ⟨w.heap.size, 0, none⟩) 2 2) [x, y] := by
  refine ⟨by simp [henc]; omega, .inr ⟨w.heap.size, 2, (enc x ++ enc y).toArray, rfl, Nat.zero_le _, heap_alloc_new w _, Nat.le_refl _, by decide, by simp [henc]; omega, ?_⟩⟩
  simp only [List.flatMap_cons, List.flatMap_nil, List.append_nil]
  exact List.take_of_length_le (by simp [henc]; omega)
end
namespace Pm
theorem flat_take (l : List (RowV × RowV)) (j : Nat) : (flat l).take (2 * j) = flat (l.take j) := by
  induction l generalizing j with
  | nil => simp [flat]
  | cons p l ih =>
    cases j with
    | zero => simp [flat]
    | succ j =>
      have e : 2 * (j + 1) = 2 * j + 1 + 1 := by omega
      have h := ih j
      unfold flat at h ⊢
      rw [List.flatMap_cons, List.take_succ_cons, List.flatMap_cons, e]
      simp only [List.cons_append, List.nil_append, List.take_succ_cons]
      rw [h]
theorem flat_drop (l : List (RowV × RowV)) (j : Nat) : (flat l).drop (2 * j) = flat (l.drop j) := by
  induction l generalizing j with
  | nil => simp [flat]
  | cons p l ih =>
    cases j with
    | zero => simp [flat]
    | succ j =>
      have e : 2 * (j + 1) = 2 * j + 1 + 1 := by omega
      have h := ih j
      unfold flat at h ⊢
      rw [List.drop_succ_cons, List.flatMap_cons, e]
      simp only [List.cons_append, List.nil_append, List.drop_succ_cons]
      rw [h]
theorem flat_app (a b : List (RowV × RowV)) : flat (a ++ b) = flat a ++ flat b := by simp [flat]
theorem flat_get (l : List (RowV × RowV)) (j : Nat) (h : j < l.length) (h2 : 2 * j < (flat l).length) : (flat l)[2 * j] = l[j].1 := by
  have h3 : (flat l).drop (2 * j) = flat (l.drop j) := flat_drop l j
  rw [List.drop_eq_getElem_cons h2, List.drop_eq_getElem_cons h] at h3
  have h4 : flat (l[j] :: l.drop (j + 1)) = l[j].1 :: l[j].2 :: flat (l.drop (j + 1)) := rfl
  rw [h4] at h3
  exact (List.cons.inj h3).1
/-- A pair whose other row has the key. -/
def hit (v : Int) (p : RowV × RowV) : Bool := decide (p.2.k = v)
theorem find_snoc (v : Int) (l : List (RowV × RowV)) (p : RowV × RowV) (h : l.find? (hit v) = none) : (l ++ [p]).find? (hit v) = if p.2.k = v then some p else none := by
  rw [List.find?_append, h]
  simp only [Option.none_or, List.find?_cons, List.find?_nil, hit]
  by_cases e : p.2.k = v
  · rw [decide_eq_true e, if_pos e]
  · rw [decide_eq_false e, if_neg e]
theorem find_keep (v : Int) (l : List (RowV × RowV)) (p r : RowV × RowV) (h : l.find? (hit v) = some r) : (l ++ [p]).find? (hit v) = some r := by
  rw [List.find?_append, h]
  rfl
end Pm
/-- Whether the partner has been found, and which row it is. -/
def Fnd (v : Int) (l : List (RowV × RowV)) (fb : Bool) (pr : RowV) : Prop := (fb = false ∧ l.find? (Pm.hit v) = none) ∨ (fb = true ∧ ∃ p, l.find? (Pm.hit v) = some p ∧ p.2 = pr)
/-- What left leaves. -/
def LP (w w' : World) (J : Option (List (RowV × RowV))) (v : Value) (k : Bool) : Prop := (k = true → ∃ l, J = some l ∧ RowsOwn w' v (Pm.flat l)) ∧ (k = false → J = none) ∧ Fr [] w w'
theorem LP.yes {w w' : World} {J : Option (List (RowV × RowV))} {v : Value} {l : List (RowV × RowV)} (h : J = some l) (h2 : RowsOwn w' v (Pm.flat l)) (h3 : Fr [] w w') : LP w w' J v true := ⟨fun _ => ⟨l, h, h2⟩, fun h => (by cases h), h3⟩
theorem LP.no {w w' : World} {J : Option (List (RowV × RowV))} {v : Value} (h : J = none) (h3 : Fr [] w w') : LP w w' J v false := ⟨fun h => (by cases h), fun _ => h, h3⟩
theorem Fnd.start (v : Int) (pr : RowV) : Fnd v [] false pr := .inl ⟨rfl, rfl⟩
theorem Fnd.keep {v : Int} {l : List (RowV × RowV)} {pr : RowV} (h : Fnd v l true pr) (p : RowV × RowV) : Fnd v (l ++ [p]) true pr := by
  rcases h with ⟨h, -⟩ | ⟨-, r, h1, h2⟩
  · cases h
  · exact .inr ⟨rfl, r, Pm.find_keep v l p r h1, h2⟩
theorem Fnd.hit {v : Int} {l : List (RowV × RowV)} {pr : RowV} (h : Fnd v l false pr) (x y : RowV) (e : y.k = v) : Fnd v (l ++ [(x, y)]) true y := by
  rcases h with ⟨-, h⟩ | ⟨h, -⟩
  · exact .inr ⟨rfl, (x, y), by rw [Pm.find_snoc v l _ h, if_pos e], rfl⟩
  · cases h
theorem Fnd.miss {v : Int} {l : List (RowV × RowV)} {pr : RowV} (h : Fnd v l false pr) (x y : RowV) (e : ¬ y.k = v) : Fnd v (l ++ [(x, y)]) false pr := by
  rcases h with ⟨-, h⟩ | ⟨h, -⟩
  · exact .inl ⟨rfl, by rw [Pm.find_snoc v l _ h, if_neg e]⟩
  · cases h

set_option maxRecDepth 100000 in
set_option maxHeartbeats 8000000 in
theorem rleft_any (q : Qry) (c : Chg) (X : Option Addr) (n cap : Nat) (L : List RowV) (w : World) (hx : AtL RowV.cells 5 w X L) (hn : n = L.length) (hl : n ≤ 50000) :
    Calls Try.prog 36 #[q.val, .slice X n cap, c.val] w fun e w' => ∃ A' n' c' k, e = .returned (.tuple #[.slice A' n' c', .bool k]) ∧ LP w w' (Pm.left q (Pm.pairs L) c) (.slice A' n' c') k := by
  obtain ⟨J, HJJ⟩ : ∃ o, Hid (Pm.left q (Pm.pairs L) c = o) := ⟨_, Lib.hid rfl⟩
  rw [HJJ.out]
  have HX := Lib.hid hx
  have HX0 := Lib.hid hx
  have HN := Lib.hid hn
  clear hx hn
  have F0 : Hid (Fr [] w ((w.alloc (.cells #[.int .i64 q.kind, .int .i64 q.table, .int .i64 q.column, .int .i64 q.low, .int .i64 q.high, .int .i64 q.by_, .int .i64 q.other] 24)).alloc (.cells #[.int .i64 c.t, .int .i64 c.k, .bool c.had, .int .i64 c.o0, .int .i64 c.o1, .int .i64 c.o2, .bool c.has, .int .i64 c.n0, .int .i64 c.n1, .int .i64 c.n2] 30))) := Lib.hid ((((Fr.refl _ _).alloc _).alloc _))
  have hbq := Blk.new w 24 #[.int .i64 q.kind, .int .i64 q.table, .int .i64 q.column, .int .i64 q.low, .int .i64 q.high, .int .i64 q.by_, .int .i64 q.other]
  have hqB : Blk ((w.alloc (.cells #[.int .i64 q.kind, .int .i64 q.table, .int .i64 q.column, .int .i64 q.low, .int .i64 q.high, .int .i64 q.by_, .int .i64 q.other] 24)).alloc (.cells #[.int .i64 c.t, .int .i64 c.k, .bool c.had, .int .i64 c.o0, .int .i64 c.o1, .int .i64 c.o2, .bool c.has, .int .i64 c.n0, .int .i64 c.n1, .int .i64 c.n2] 30)) w.heap.size 24 #[.int .i64 q.kind, .int .i64 q.table, .int .i64 q.column, .int .i64 q.low, .int .i64 q.high, .int .i64 q.by_, .int .i64 q.other] := (hbq.alloc _)
  have hbc := Blk.new (w.alloc (.cells #[.int .i64 q.kind, .int .i64 q.table, .int .i64 q.column, .int .i64 q.low, .int .i64 q.high, .int .i64 q.by_, .int .i64 q.other] 24)) 30 #[.int .i64 c.t, .int .i64 c.k, .bool c.had, .int .i64 c.o0, .int .i64 c.o1, .int .i64 c.o2, .bool c.has, .int .i64 c.n0, .int .i64 c.n1, .int .i64 c.n2]
  rw [World.size_alloc] at hbc
  have hcB : Blk ((w.alloc (.cells #[.int .i64 q.kind, .int .i64 q.table, .int .i64 q.column, .int .i64 q.low, .int .i64 q.high, .int .i64 q.by_, .int .i64 q.other] 24)).alloc (.cells #[.int .i64 c.t, .int .i64 c.k, .bool c.had, .int .i64 c.o0, .int .i64 c.o1, .int .i64 c.o2, .bool c.has, .int .i64 c.n0, .int .i64 c.n1, .int .i64 c.n2] 30)) (w.heap.size + 1) 30 #[.int .i64 c.t, .int .i64 c.k, .bool c.had, .int .i64 c.o0, .int .i64 c.o1, .int .i64 c.o2, .bool c.has, .int .i64 c.n0, .int .i64 c.n1, .int .i64 c.n2] := hbc
  have AT : Hid (RtAt ((w.alloc (.cells #[.int .i64 q.kind, .int .i64 q.table, .int .i64 q.column, .int .i64 q.low, .int .i64 q.high, .int .i64 q.by_, .int .i64 q.other] 24)).alloc (.cells #[.int .i64 c.t, .int .i64 c.k, .bool c.had, .int .i64 c.o0, .int .i64 c.o1, .int .i64 c.o2, .bool c.has, .int .i64 c.n0, .int .i64 c.n1, .int .i64 c.n2] 30)) w.heap.size (w.heap.size + 1) q c) := Lib.hid ⟨hqB, hcB⟩
  clear hqB hcB
  clear hbq hbc
  obtain ⟨i0, TR⟩ := etRow
  have TW := TR
  go_enter Try.func36, Try.ntmps36
  go_upto_region 1 with (fail)
  replace HX := Lib.hid (HX.out.fr0 F0.out)
  generalize ((w.alloc (.cells #[.int .i64 q.kind, .int .i64 q.table, .int .i64 q.column, .int .i64 q.low, .int .i64 q.high, .int .i64 q.by_, .int .i64 q.other] 24)).alloc (.cells #[.int .i64 c.t, .int .i64 c.k, .bool c.had, .int .i64 c.o0, .int .i64 c.o1, .int .i64 c.o2, .bool c.has, .int .i64 c.n0, .int .i64 c.n1, .int .i64 c.n2] 30)) = w5 at *
  have HC := Lib.hid (fun W => rhad_row c W)
  have hc := AT.out.c
  go_upto_region 2 with (first
    | (refine wpList_load_row rfl _ _ rfl (w.heap.size + 1) rfl 30 _ (0, 0) _ hc Try.underlying30 rfl (by kernel_rfl) ?_)
    | (go_at_call 21; refine (HC.out _).mono ?_; rintro e w4 ⟨rfl, f3⟩; have F3 := Lib.hid f3; clear f3))
  clear hc HC
  have f5 := F3.out.alloc (.cells #[.int .i64 (Pm.rowB c).t, .int .i64 (Pm.rowB c).k, .int .i64 (Pm.rowB c).x, .int .i64 (Pm.rowB c).y, .int .i64 (Pm.rowB c).z] 57)
  have Brb := Lib.hid (Blk.new w4 57 #[.int .i64 (Pm.rowB c).t, .int .i64 (Pm.rowB c).k, .int .i64 (Pm.rowB c).x, .int .i64 (Pm.rowB c).y, .int .i64 (Pm.rowB c).z])
  have HGrb : Hid (w.heap.size ≤ w4.heap.size) := Lib.hid (Nat.le_trans F0.out.size F3.out.size)
  replace AT := Lib.hid (AT.out.fr0 f5)
  replace F0 := Lib.hid (F0.out.trans f5)
  replace HX := Lib.hid (HX.out.fr0 f5)
  clear f5 F3
  generalize hw5 : w4.alloc (.cells #[.int .i64 (Pm.rowB c).t, .int .i64 (Pm.rowB c).k, .int .i64 (Pm.rowB c).x, .int .i64 (Pm.rowB c).y, .int .i64 (Pm.rowB c).z] 57) = w5 at *
  clear hw5
  generalize w4.heap.size = grb at *
  have HC := Lib.hid (fun W => rhas_row c W)
  have hc := AT.out.c
  go_upto_region 3 with (first
    | (refine wpList_load_row rfl _ _ rfl (w.heap.size + 1) rfl 30 _ (0, 0) _ hc Try.underlying30 rfl (by kernel_rfl) ?_)
    | (go_at_call 22; refine (HC.out _).mono ?_; rintro e w4 ⟨rfl, f3⟩; have F3 := Lib.hid f3; clear f3))
  clear hc HC
  have f5 := F3.out.alloc (.cells #[.int .i64 (Pm.rowA c).t, .int .i64 (Pm.rowA c).k, .int .i64 (Pm.rowA c).x, .int .i64 (Pm.rowA c).y, .int .i64 (Pm.rowA c).z] 57)
  have Bra := Lib.hid (Blk.new w4 57 #[.int .i64 (Pm.rowA c).t, .int .i64 (Pm.rowA c).k, .int .i64 (Pm.rowA c).x, .int .i64 (Pm.rowA c).y, .int .i64 (Pm.rowA c).z])
  have HGra : Hid (w.heap.size ≤ w4.heap.size) := Lib.hid (Nat.le_trans F0.out.size F3.out.size)
  replace AT := Lib.hid (AT.out.fr0 f5)
  replace F0 := Lib.hid (F0.out.trans f5)
  replace Brb := Lib.hid (Brb.out.fr f5 (by simp))
  replace HX := Lib.hid (HX.out.fr0 f5)
  clear f5 F3
  generalize hw5 : w4.alloc (.cells #[.int .i64 (Pm.rowA c).t, .int .i64 (Pm.rowA c).k, .int .i64 (Pm.rowA c).x, .int .i64 (Pm.rowA c).y, .int .i64 (Pm.rowA c).z] 57) = w5 at *
  clear hw5
  generalize w4.heap.size = gra at *
  have HC := Lib.hid (fun W => rin_any q (Pm.rowB c) c.had W)
  rw [Pm.inB] at HC
  have hr := Brb.out
  have hq : Blk w5 w.heap.size 24 #[.int .i64 q.kind, .int .i64 q.table, .int .i64 q.column, .int .i64 q.low, .int .i64 q.high, .int .i64 q.by_, .int .i64 q.other] := AT.out.q
  go_upto_region 4 with (first
    | (refine wpList_load_row rfl _ _ rfl w.heap.size rfl 24 _ (0, 0) _ hq Try.underlying24 rfl (by kernel_rfl) ?_)
    | (refine wpList_load_row rfl _ _ rfl grb rfl 57 _ (0, 0) _ hr Try.underlying57 rfl (by kernel_rfl) ?_)
    | (go_at_call 31; refine (HC.out _).mono ?_; rintro e w4 ⟨rfl, f3⟩; have F3 := Lib.hid f3; clear f3))
  clear hr hq HC
  replace AT := Lib.hid (AT.out.fr0 F3.out)
  replace F0 := Lib.hid (F0.out.trans F3.out)
  replace Brb := Lib.hid (Brb.out.fr F3.out (by simp))
  replace Bra := Lib.hid (Bra.out.fr F3.out (by simp))
  replace HX := Lib.hid (HX.out.fr0 F3.out)
  clear F3
  generalize hw5 : w4 = w5 at *
  clear hw5
  have HC := Lib.hid (fun W => rin_any q (Pm.rowA c) c.has W)
  rw [Pm.inA] at HC
  have hr := Bra.out
  have hq : Blk w5 w.heap.size 24 #[.int .i64 q.kind, .int .i64 q.table, .int .i64 q.column, .int .i64 q.low, .int .i64 q.high, .int .i64 q.by_, .int .i64 q.other] := AT.out.q
  go_upto_region 5 with (first
    | (refine wpList_load_row rfl _ _ rfl w.heap.size rfl 24 _ (0, 0) _ hq Try.underlying24 rfl (by kernel_rfl) ?_)
    | (refine wpList_load_row rfl _ _ rfl gra rfl 57 _ (0, 0) _ hr Try.underlying57 rfl (by kernel_rfl) ?_)
    | (go_at_call 31; refine (HC.out _).mono ?_; rintro e w4 ⟨rfl, f3⟩; have F3 := Lib.hid f3; clear f3))
  clear hr hq HC
  replace AT := Lib.hid (AT.out.fr0 F3.out)
  replace F0 := Lib.hid (F0.out.trans F3.out)
  replace Brb := Lib.hid (Brb.out.fr F3.out (by simp))
  replace Bra := Lib.hid (Bra.out.fr F3.out (by simp))
  replace HX := Lib.hid (HX.out.fr0 F3.out)
  clear F3
  generalize hw5 : w4 = w5 at *
  clear hw5
  have HC := Lib.hid (fun W => rmeasure_any q (Pm.rowB c) (Pm.B q c).isSome W)
  rw [Pm.mB] at HC
  have hr := Brb.out
  have hq : Blk w5 w.heap.size 24 #[.int .i64 q.kind, .int .i64 q.table, .int .i64 q.column, .int .i64 q.low, .int .i64 q.high, .int .i64 q.by_, .int .i64 q.other] := AT.out.q
  go_upto_region 6 with (first
    | (refine wpList_load_row rfl _ _ rfl w.heap.size rfl 24 _ (0, 0) _ hq Try.underlying24 rfl (by kernel_rfl) ?_)
    | (refine wpList_load_row rfl _ _ rfl grb rfl 57 _ (0, 0) _ hr Try.underlying57 rfl (by kernel_rfl) ?_)
    | (go_at_call 33; refine (HC.out _).mono ?_; rintro e w4 ⟨rfl, f3⟩; have F3 := Lib.hid f3; clear f3))
  clear hr hq HC
  replace AT := Lib.hid (AT.out.fr0 F3.out)
  replace F0 := Lib.hid (F0.out.trans F3.out)
  replace Brb := Lib.hid (Brb.out.fr F3.out (by simp))
  replace Bra := Lib.hid (Bra.out.fr F3.out (by simp))
  replace HX := Lib.hid (HX.out.fr0 F3.out)
  clear F3
  generalize hw5 : w4 = w5 at *
  clear hw5
  have HC := Lib.hid (fun W => rmeasure_any q (Pm.rowA c) (Pm.A q c).isSome W)
  rw [Pm.mA] at HC
  have hr := Bra.out
  have hq : Blk w5 w.heap.size 24 #[.int .i64 q.kind, .int .i64 q.table, .int .i64 q.column, .int .i64 q.low, .int .i64 q.high, .int .i64 q.by_, .int .i64 q.other] := AT.out.q
  go_upto_region 7 with (first
    | (refine wpList_load_row rfl _ _ rfl w.heap.size rfl 24 _ (0, 0) _ hq Try.underlying24 rfl (by kernel_rfl) ?_)
    | (refine wpList_load_row rfl _ _ rfl gra rfl 57 _ (0, 0) _ hr Try.underlying57 rfl (by kernel_rfl) ?_)
    | (go_at_call 33; refine (HC.out _).mono ?_; rintro e w4 ⟨rfl, f3⟩; have F3 := Lib.hid f3; clear f3))
  clear hr hq HC
  replace AT := Lib.hid (AT.out.fr0 F3.out)
  replace F0 := Lib.hid (F0.out.trans F3.out)
  replace Brb := Lib.hid (Brb.out.fr F3.out (by simp))
  replace Bra := Lib.hid (Bra.out.fr F3.out (by simp))
  replace HX := Lib.hid (HX.out.fr0 F3.out)
  clear F3
  generalize hw5 : w4 = w5 at *
  clear hw5
  clear Brb HGrb
  go_upto_region 8 with (refine wpList_build_is rfl _ _ rfl #[.int .i64 0, .int .i64 0, .int .i64 0, .int .i64 0, .int .i64 0] (by kernel_rfl) ?_)
  have f5 : Fr [] w5 (w5.alloc (.cells #[.int .i64 0, .int .i64 0, .int .i64 0, .int .i64 0, .int .i64 0] 57)) := (Fr.refl _ _).alloc _
  have HP : Hid (Blk (w5.alloc (.cells #[.int .i64 0, .int .i64 0, .int .i64 0, .int .i64 0, .int .i64 0] 57)) w5.heap.size 57 #[.int .i64 (⟨0, 0, 0, 0, 0⟩ : RowV).t, .int .i64 (⟨0, 0, 0, 0, 0⟩ : RowV).k, .int .i64 (⟨0, 0, 0, 0, 0⟩ : RowV).x, .int .i64 (⟨0, 0, 0, 0, 0⟩ : RowV).y, .int .i64 (⟨0, 0, 0, 0, 0⟩ : RowV).z]) := Lib.hid (Blk.new w5 57 #[.int .i64 0, .int .i64 0, .int .i64 0, .int .i64 0, .int .i64 0])
  have HGP : Hid (w.heap.size ≤ w5.heap.size ∧ gra < w5.heap.size ∧ (w.heap.size + 1) < w5.heap.size ∧ w.heap.size < w5.heap.size) := Lib.hid ⟨F0.out.size, Bra.out.lt, AT.out.c.lt, Blk.lt AT.out.q⟩
  replace AT := Lib.hid (AT.out.fr0 f5)
  replace F0 := Lib.hid (F0.out.trans f5)
  replace Bra := Lib.hid (Bra.out.fr f5 (by simp))
  replace HX := Lib.hid (HX.out.fr0 f5)
  clear f5
  generalize hwb : w5.alloc (.cells #[.int .i64 0, .int .i64 0, .int .i64 0, .int .i64 0, .int .i64 0] 57) = wb at *
  clear hwb
  generalize w5.heap.size = gp at *
  have hpl := pairs_len L
  have HPL := Lib.hid hpl
  clear hpl
  have HRS : Hid (∀ l : List (RowV × RowV), (Pm.flat (Pm.rest l c)).length ≤ 2 * l.length) := Lib.hid (fun l => by
    rw [flat_len2]
    have := List.length_filter_le (fun p : RowV × RowV => !decide (p.1.k = c.k)) l
    unfold Pm.rest
    omega)
  obtain ⟨sb, HSB⟩ : ∃ b, Hid ((Pm.B q c).isSome = b) := ⟨_, Lib.hid rfl⟩
  obtain ⟨u, HU⟩ : ∃ b, Hid (Pm.old q c = b) := ⟨_, Lib.hid rfl⟩
  obtain ⟨v, HV⟩ : ∃ b, Hid (Pm.now q c = b) := ⟨_, Lib.hid rfl⟩
  rw [HSB.out, HU.out, HV.out]
  have HLE : Hid (Pm.left q (Pm.pairs L) c = match Pm.A q c with
    | none => some (Pm.rest (Pm.pairs L) c)
    | some a => match (Pm.pairs L).find? (Pm.hit v) with
      | none => if (sb && decide (u = v)) = true then some (Pm.rest (Pm.pairs L) c) else none
      | some p => some (Pm.ins (fun x => Pm.behind q a x.1) (a, p.2) (Pm.rest (Pm.pairs L) c))) := Lib.hid (by rw [← HSB.out, ← HU.out, ← HV.out]; rfl)
  rw [HJJ.out] at HLE
  clear HSB HU HV HJJ
  have HXG : Hid (∀ b off, X = some ⟨b, off, none⟩ → 0 < L.length → b ≠ gp) := Lib.hid (fun b off hA h0 h => by
    obtain ⟨b', off', hA', hb', -⟩ := HX0.out h0
    rw [hA] at hA'
    injection hA' with hA'
    injection hA' with e1 e2
    have := HGP.out
    subst e1
    omega)
  have HPW : Hid (gp < wb.heap.size) := Lib.hid HP.out.lt
  clear HX0
  cases hA : Pm.A q c with
  | none =>
    have HJN : Hid (J = some (Pm.rest (Pm.pairs L) c)) := Lib.hid (by rw [HLE.out, hA])
    clear HLE hA
    go_wp2_with fail
    go_loopw [17, 18, 19] (fun i7 i8 i9 wr => ∃ (j N : Nat) (fb : Bool) (pr : RowV) (Ao : Option Addr) (no co : Nat), i7 = .bool fb ∧ i8 = .slice Ao no co ∧ i9 = .int .i64 N ∧ Hid (N = 2 * j) ∧ N ≤ n + 1 ∧ Hid (j ≤ (Pm.pairs L).length) ∧ Hid (fb = false) ∧ Hid (Blk wr gp 57 #[.int .i64 pr.t, .int .i64 pr.k, .int .i64 pr.x, .int .i64 pr.y, .int .i64 pr.z]) ∧ Hid (LoRel [gp] wb wr (.slice Ao no co) (Pm.flat (Pm.rest ((Pm.pairs L).take j) c)))) (fun _ _ i9 _ => n + 2 - (intOf i9).toNat)
    case atStart => exact ⟨0, 0, false, ⟨0, 0, 0, 0, 0⟩, none, 0, 0, rfl, rfl, rfl, Lib.hid rfl, Nat.zero_le _, Lib.hid (Nat.zero_le _), Lib.hid rfl, HP, Lib.hid (LoRel.start [gp] wb)⟩
    case round =>
      clear HP
      obtain ⟨j, N, fb, pr, Ao, no, co, rfl, rfl, rfl, HNJ, hN, HJ, HF, HP, R⟩ := hrel
      have hn1 : IntKind.i64.wrap ((N : Int) + 1) = (N : Int) + 1 := by rw [IntKind.wrap_i64]; omega
      have ht1 : ((N : Int) + 1).toNat = N + 1 := by omega
      by_cases hlt : N + 1 < n
      · have hlt' : (N : Int) + 1 < (n : Int) := by omega
        have hq0 : (0 : Int) ≤ (N : Int) := by omega
        have hq1 : (N : Int) < (n : Int) := by omega
        have hq2 : (0 : Int) ≤ (N : Int) + 1 := by omega
        have hj2 : 2 * j + 1 < L.length := by have := HNJ.out; have := HN.out; omega
        obtain ⟨b, off, rfl, hb0, hcl⟩ := HX.out (by omega)
        have hbg : b ∉ [gp] := by
          intro h
          rw [List.mem_singleton] at h
          exact HXG.out b off rfl (by omega) h
        have hb : b < wr.heap.size := Nat.lt_of_lt_of_le hb0 R.out.fr.size
        have hpg := pairs_get L j hj2
        have HTP : Hid ((Pm.pairs L).take (j + 1) = (Pm.pairs L).take j ++ [(L[2 * j], L[2 * j + 1])]) := Lib.hid (by
          have hjl : j < (Pm.pairs L).length := (List.getElem?_eq_some_iff.1 hpg).1
          rw [List.take_succ_eq_append_getElem hjl, (List.getElem?_eq_some_iff.1 hpg).2])
        have HTK : Hid (Pm.flat (Pm.rest ((Pm.pairs L).take (j + 1)) c) = Pm.flat (Pm.rest ((Pm.pairs L).take j) c) ++ (if L[2 * j].k = c.k then [] else [L[2 * j], L[2 * j + 1]])) := Lib.hid (by
          rw [HTP.out]
          unfold Pm.rest
          rw [List.filter_append, Pm.flat_app]
          congr 1
          by_cases e : L[2 * j].k = c.k
          · rw [if_pos e, List.filter_cons_of_neg (by simp [e])]; rfl
          · rw [if_neg e, List.filter_cons_of_pos (by simp [e])]; rfl)
        have HJ1 : Hid (j + 1 ≤ (Pm.pairs L).length) := Lib.hid (List.getElem?_eq_some_iff.1 hpg).1
        have HJB : Hid ((Pm.flat (Pm.rest ((Pm.pairs L).take j) c)).length + 2 ≤ 50002) := Lib.hid (by
          have h1 := HRS.out ((Pm.pairs L).take j)
          rw [List.length_take] at h1
          have := HPL.out
          have := HN.out
          omega)
        have HNJ2 : Hid (N + 2 = 2 * (j + 1)) := Lib.hid (by have := HNJ.out; omega)
        have HBW : Hid (∀ W, Fr [gp] wb W → ∀ o, W.cell? ⟨b, o, none⟩ = wb.cell? ⟨b, o, none⟩) := Lib.hid (fun W hf o => hf.cell (p := ⟨b, o, none⟩) hb0 (by simpa using hbg))
        have HA : Hid (∀ W, Fr [gp] wb W → ∀ i, i < 5 → W.cell? ⟨b, off + N * 5 + i, none⟩ = (RowV.cells L[2 * j])[i]?) := Lib.hid (fun W hf i hi => (HBW.out W hf _).trans (by rw [HNJ.out]; exact hcl (2 * j) (by omega) i hi))
        have HD : Hid (∀ W, Fr [gp] wb W → ∀ i, i < 5 → W.cell? ⟨b, off + (N + 1) * 5 + i, none⟩ = (RowV.cells L[2 * j + 1])[i]?) := Lib.hid (fun W hf i hi => (HBW.out W hf _).trans (by rw [HNJ.out]; exact hcl (2 * j + 1) hj2 i hi))
        clear hcl hpg hlt hb0 hbg
        generalize L[2 * j] = x at *
        generalize L[2 * j + 1] = y at *
        clear hj2
        obtain ⟨x0, x1, x2, x3, x4⟩ := x
        obtain ⟨y0, y1, y2, y3, y4⟩ := y
        obtain rfl : fb = false := HF.out
        go_upto_region 16 with (fail)
        have HCC := Lib.hid (AT.out.c.fr R.out.fr (by have := HGP.out; simp only [List.mem_singleton]; omega))
        have k1 : ∀ p : Later wr, p.w.cell? ⟨b, off + N * 5 + 1, none⟩ = some (.int .i64 x1) := fun p => HA.out p.w (R.out.fr.trans (p.fr.mono (by simp))) 1 (by decide)
        have c1 : ∀ p : Later wr, p.w.cell? ⟨(w.heap.size + 1), 1, none⟩ = some (.int .i64 c.k) := fun p => p.cell HCC.out.lt (HCC.out.cell 1)
        by_cases e1 : x1 = c.k
        · have e1' : (x1 != c.k) = false := by simpa using e1
          have HT2 : Hid (Pm.flat (Pm.rest ((Pm.pairs L).take (j + 1)) c) = (Pm.flat (Pm.rest ((Pm.pairs L).take j) c))) := Lib.hid (by rw [HTK.out, if_pos e1, List.append_nil])
          clear e1
          go_wp2_with fail
          refine wp_region_later (by kernel_rfl) (by kernel_rfl) ?_
          repeat (go_big_quiet_step (fail))
          refine wpQuiet_nil ?_
          rintro w' ⟨⟨wq, fq⟩, rfl⟩
          have R2 := Lib.hid (R.out.fr0 fq)
          have HP2 := Lib.hid (HP.out.fr fq (by simp))
          clear fq k1 c1 R HP HCC
          go_wp2_with fail
          go_roundw
          case rel => exact ⟨j + 1, N + 2, false, pr, Ao, no, co, rfl, rfl, by go_num, HNJ2, by omega, HJ1, (Lib.hid rfl), HP2, by rw [HT2.out]; exact R2⟩
          case measure => simp [intOf]; omega
        · have e1' : (x1 != c.k) = true := by simpa using e1
          have HT2 : Hid (Pm.flat (Pm.rest ((Pm.pairs L).take (j + 1)) c) = (Pm.flat (Pm.rest ((Pm.pairs L).take j) c)) ++ [⟨x0, x1, x2, x3, x4⟩, ⟨y0, y1, y2, y3, y4⟩]) := Lib.hid (by rw [HTK.out, if_neg e1])
          clear e1
          go_wp2_with fail
          refine wp_region_later (by kernel_rfl) (by kernel_rfl) ?_
          repeat (go_big_quiet_step (fail))
          refine wpQuiet_nil ?_
          rintro w' ⟨⟨wq, fq⟩, rfl⟩
          have R2 := Lib.hid (R.out.fr0 fq)
          have HP2 := Lib.hid (HP.out.fr fq (by simp))
          clear fq k1 c1 R HP HCC
          go_wp2_with fail
          have HOA : Hid (RowsOwn (w'.drew.alloc (.cells #[.int .i64 x0, .int .i64 x1, .int .i64 x2, .int .i64 x3, .int .i64 x4, .int .i64 y0, .int .i64 y1, .int .i64 y2, .int .i64 y3, .int .i64 y4] 57)) (.slice Ao no co) (Pm.flat (Pm.rest ((Pm.pairs L).take j) c))) := Lib.hid (R2.out.row.fr ((Fr.refl [] w').drew.alloc _) (by simp))
          have HRD : Hid (Reads (w'.drew.alloc (.cells #[.int .i64 x0, .int .i64 x1, .int .i64 x2, .int .i64 x3, .int .i64 x4, .int .i64 y0, .int .i64 y1, .int .i64 y2, .int .i64 y3, .int .i64 y4] 57)) (w'.drew.alloc (.cells #[.int .i64 x0, .int .i64 x1, .int .i64 x2, .int .i64 x3, .int .i64 x4, .int .i64 y0, .int .i64 y1, .int .i64 y2, .int .i64 y3, .int .i64 y4] 57)).heap.size 5 (some ⟨w'.drew.heap.size, 0, none⟩) 2 (([⟨x0, x1, x2, x3, x4⟩, ⟨y0, y1, y2, y3, y4⟩] : List RowV).flatMap RowV.cells)) := Lib.hid (reads_of_at RowV.cells_len (by decide) (AtL.of_blk (L := [⟨x0, x1, x2, x3, x4⟩, ⟨y0, y1, y2, y3, y4⟩]) RowV.cells_len (Blk.new w'.drew 57 #[.int .i64 x0, .int .i64 x1, .int .i64 x2, .int .i64 x3, .int .i64 x4, .int .i64 y0, .int .i64 y1, .int .i64 y2, .int .i64 y3, .int .i64 y4]) (by simp [RowV.cells])))
          have HSW : Hid (∀ W, Fr [] w' W → W.cell? ⟨b, off + N * 5, none⟩ = some (.int .i64 x0) ∧ W.cell? ⟨b, off + N * 5 + 1, none⟩ = some (.int .i64 x1) ∧ W.cell? ⟨b, off + N * 5 + 2, none⟩ = some (.int .i64 x2) ∧ W.cell? ⟨b, off + N * 5 + 3, none⟩ = some (.int .i64 x3) ∧ W.cell? ⟨b, off + N * 5 + 4, none⟩ = some (.int .i64 x4) ∧ W.cell? ⟨b, off + (N + 1) * 5, none⟩ = some (.int .i64 y0) ∧ W.cell? ⟨b, off + (N + 1) * 5 + 1, none⟩ = some (.int .i64 y1) ∧ W.cell? ⟨b, off + (N + 1) * 5 + 2, none⟩ = some (.int .i64 y2) ∧ W.cell? ⟨b, off + (N + 1) * 5 + 3, none⟩ = some (.int .i64 y3) ∧ W.cell? ⟨b, off + (N + 1) * 5 + 4, none⟩ = some (.int .i64 y4)) := Lib.hid (fun W hf => ⟨HA.out W (R2.out.fr.trans (hf.mono (by simp))) 0 (by decide), HA.out W (R2.out.fr.trans (hf.mono (by simp))) 1 (by decide), HA.out W (R2.out.fr.trans (hf.mono (by simp))) 2 (by decide), HA.out W (R2.out.fr.trans (hf.mono (by simp))) 3 (by decide), HA.out W (R2.out.fr.trans (hf.mono (by simp))) 4 (by decide), HD.out W (R2.out.fr.trans (hf.mono (by simp))) 0 (by decide), HD.out W (R2.out.fr.trans (hf.mono (by simp))) 1 (by decide), HD.out W (R2.out.fr.trans (hf.mono (by simp))) 2 (by decide), HD.out W (R2.out.fr.trans (hf.mono (by simp))) 3 (by decide), HD.out W (R2.out.fr.trans (hf.mono (by simp))) 4 (by decide)⟩)
          refine wp_region_head (fun W => W.cell? ⟨b, off + N * 5, none⟩ = some (.int .i64 x0) ∧ W.cell? ⟨b, off + N * 5 + 1, none⟩ = some (.int .i64 x1) ∧ W.cell? ⟨b, off + N * 5 + 2, none⟩ = some (.int .i64 x2) ∧ W.cell? ⟨b, off + N * 5 + 3, none⟩ = some (.int .i64 x3) ∧ W.cell? ⟨b, off + N * 5 + 4, none⟩ = some (.int .i64 x4) ∧ W.cell? ⟨b, off + (N + 1) * 5, none⟩ = some (.int .i64 y0) ∧ W.cell? ⟨b, off + (N + 1) * 5 + 1, none⟩ = some (.int .i64 y1) ∧ W.cell? ⟨b, off + (N + 1) * 5 + 2, none⟩ = some (.int .i64 y2) ∧ W.cell? ⟨b, off + (N + 1) * 5 + 3, none⟩ = some (.int .i64 y3) ∧ W.cell? ⟨b, off + (N + 1) * 5 + 4, none⟩ = some (.int .i64 y4)) 11 (by kernel_rfl) (by kernel_rfl) (HSW.out _ (Fr.refl [] w').drew) (fun hHeld => ?_)
          refine wpHead_take (i := 0) (oi := ⟨some 84, _, _, _, _, _⟩) (v := ?_) rfl (by kernel_rfl) (fun _ _ _ h => h) (Or.inl ⟨by rfl, ?_⟩) hHeld ?_
          rotate_left
          · (intro w hSw; (try dsimp only at hSw); go_simp; try with_reducible rfl)
          try simp only [Act.put, List.setIfInBounds_toArray, List.set_cons_zero, List.set_cons_succ]
          refine wpHead_take (i := 1) (oi := ⟨some 85, _, _, _, _, _⟩) (v := ?_) rfl (by kernel_rfl) (fun _ _ _ h => h) (Or.inl ⟨by rfl, ?_⟩) hHeld ?_
          rotate_left
          · (intro w hSw; (try dsimp only at hSw); go_simp; try with_reducible rfl)
          try simp only [Act.put, List.setIfInBounds_toArray, List.set_cons_zero, List.set_cons_succ]
          refine wpHead_take (i := 2) (oi := ⟨some 86, _, _, _, _, _⟩) (v := ?_) rfl (by kernel_rfl) (fun _ _ _ h => h) (Or.inl ⟨by rfl, ?_⟩) hHeld ?_
          rotate_left
          · (intro w hSw; (try dsimp only at hSw); go_simp; try with_reducible rfl)
          try simp only [Act.put, List.setIfInBounds_toArray, List.set_cons_zero, List.set_cons_succ]
          refine wpHead_take (i := 3) (oi := ⟨some 87, _, _, _, _, _⟩) (v := ?_) rfl (by kernel_rfl) (fun _ _ _ h => h) (Or.inl ⟨by rfl, ?_⟩) hHeld ?_
          rotate_left
          · (intro w hSw; (try dsimp only at hSw); go_simp; try with_reducible rfl)
          try simp only [Act.put, List.setIfInBounds_toArray, List.set_cons_zero, List.set_cons_succ]
          refine wpHead_take (i := 4) (oi := ⟨some 88, _, _, _, _, _⟩) (v := ?_) rfl (by kernel_rfl) (fun _ _ _ h => h) (Or.inl ⟨by rfl, ?_⟩) hHeld ?_
          rotate_left
          · (intro w hSw; (try dsimp only at hSw); go_simp; try with_reducible rfl)
          try simp only [Act.put, List.setIfInBounds_toArray, List.set_cons_zero, List.set_cons_succ]
          refine wpHead_take (i := 5) (oi := ⟨some 89, _, _, _, _, _⟩) (v := ?_) rfl (by kernel_rfl) (fun _ _ _ h => h) (Or.inl ⟨by rfl, ?_⟩) hHeld ?_
          rotate_left
          · (intro w hSw; (try dsimp only at hSw); go_simp; try with_reducible rfl)
          try simp only [Act.put, List.setIfInBounds_toArray, List.set_cons_zero, List.set_cons_succ]
          refine wpHead_take (i := 6) (oi := ⟨some 90, _, _, _, _, _⟩) (v := ?_) rfl (by kernel_rfl) (fun _ _ _ h => h) (Or.inl ⟨by rfl, ?_⟩) hHeld ?_
          rotate_left
          · (intro w hSw; (try dsimp only at hSw); go_simp; try with_reducible rfl)
          try simp only [Act.put, List.setIfInBounds_toArray, List.set_cons_zero, List.set_cons_succ]
          refine wpHead_take (i := 7) (oi := ⟨some 91, _, _, _, _, _⟩) (v := ?_) rfl (by kernel_rfl) (fun _ _ _ h => h) (Or.inl ⟨by rfl, ?_⟩) hHeld ?_
          rotate_left
          · (intro w hSw; (try dsimp only at hSw); go_simp; try with_reducible rfl)
          try simp only [Act.put, List.setIfInBounds_toArray, List.set_cons_zero, List.set_cons_succ]
          refine wpHead_take (i := 8) (oi := ⟨some 92, _, _, _, _, _⟩) (v := ?_) rfl (by kernel_rfl) (fun _ _ _ h => h) (Or.inl ⟨by rfl, ?_⟩) hHeld ?_
          rotate_left
          · (intro w hSw; (try dsimp only at hSw); go_simp; try with_reducible rfl)
          try simp only [Act.put, List.setIfInBounds_toArray, List.set_cons_zero, List.set_cons_succ]
          refine wpHead_take (i := 9) (oi := ⟨some 93, _, _, _, _, _⟩) (v := ?_) rfl (by kernel_rfl) (fun _ _ _ h => h) (Or.inl ⟨by rfl, ?_⟩) hHeld ?_
          rotate_left
          · (intro w hSw; (try dsimp only at hSw); go_simp; try with_reducible rfl)
          try simp only [Act.put, List.setIfInBounds_toArray, List.set_cons_zero, List.set_cons_succ]
          refine wpHead_one (i := 10) (o := ⟨some 94, _, _, _, _, _⟩) rfl (by kernel_rfl) (by decide) (fun K hK => ?_)
          go_simp
          skip
          refine hK.out _ _ ?_ (fun hHeld => ?_)
          · exact HSW.out _ ((Fr.refl [] w').drew.alloc _)
          clear hK K
          try simp only [Act.put, List.setIfInBounds_toArray, List.set_cons_zero, List.set_cons_succ]
          refine wpHead_done (by kernel_rfl) ?_
          simp only [List.drop_succ_cons, List.drop_zero]
          clear HSW 
          go_wp2_with (at_builtin; refine wpList_appendL rfl _ _ rfl TW RowV.cells_len RowV.cells_one rfl HOA.out _ _ _ _ ([⟨x0, x1, x2, x3, x4⟩, ⟨y0, y1, y2, y3, y4⟩] : List RowV) rfl rfl HRD.out (Nat.le_trans HJB.out (by decide)) (Nat.le_trans (Nat.mul_le_mul_right 40 HJB.out) (by decide)) ?_; intro v5 w5 hrow5 hg5 hat5; have HR5 := Lib.hid hrow5; have HG5 := Lib.hid hg5; have HA5 := Lib.hid hat5; obtain ⟨A5, n5, cap5, hv5⟩ : ∃ A n c, v5 = .slice A n c := (match hrow5.val with | ⟨_, _, hv⟩ => ⟨_, _, _, hv⟩); subst hv5; clear hrow5 hg5 hat5)
          have R3 := Lib.hid (R2.out.grow (R2 := Pm.flat (Pm.rest ((Pm.pairs L).take (j + 1)) c)) ((Fr.refl [] w').drew.alloc _) (by rw [HT2.out]; exact HR5.out) HG5.out HA5.out)
          have HP3 := Lib.hid (Blk.grown (HP2.out.fr ((Fr.refl [] w').drew.alloc _) (by simp)) HG5.out (fun e => by have h1 := R2.out.own gp e.symm; have h2 := HPW.out; omega))
          go_roundw
          case rel => exact ⟨j + 1, N + 2, false, pr, A5, n5, cap5, rfl, rfl, by go_num, HNJ2, by omega, HJ1, (Lib.hid rfl), HP3, R3⟩
          case measure => simp [intOf]; omega
      · have hlt' : ¬ (N : Int) + 1 < (n : Int) := by omega
        have hjl : (Pm.pairs L).take j = Pm.pairs L := List.take_of_length_le (by have := HNJ.out; have := HN.out; have := HPL.out; omega)
        rw [hjl] at R
        clear hjl HX HXG
        go_wp2_with fail
        go_ret2
        (first | exact ⟨_, _, _, true, rfl, LP.yes HJN.out R.out.row (F0.out.trans' R.out.fr (fun i hi => .inr (by rw [List.mem_singleton] at hi; have := HGP.out; omega)))⟩ | exact ⟨_, _, _, .inr ⟨rfl, LP.yes HJN.out R.out.row (F0.out.trans' R.out.fr (fun i hi => .inr (by rw [List.mem_singleton] at hi; have := HGP.out; omega)))⟩⟩)
  | some a =>
    obtain rfl := Pm.A_some hA
    have HJS : Hid (J = match (Pm.pairs L).find? (Pm.hit v) with
      | none => if (sb && decide (u = v)) = true then some (Pm.rest (Pm.pairs L) c) else none
      | some p => some (Pm.ins (fun x => Pm.behind q (Pm.rowA c) x.1) (Pm.rowA c, p.2) (Pm.rest (Pm.pairs L) c))) := Lib.hid (by rw [HLE.out, hA])
    clear HLE hA
    go_wp2_with fail
    go_loopw [17, 18, 19] (fun i7 i8 i9 wr => ∃ (j N : Nat) (fb : Bool) (pr : RowV) (Ao : Option Addr) (no co : Nat), i7 = .bool fb ∧ i8 = .slice Ao no co ∧ i9 = .int .i64 N ∧ Hid (N = 2 * j) ∧ N ≤ n + 1 ∧ Hid (j ≤ (Pm.pairs L).length) ∧ Hid (Fnd v ((Pm.pairs L).take j) fb pr) ∧ Hid (Blk wr gp 57 #[.int .i64 pr.t, .int .i64 pr.k, .int .i64 pr.x, .int .i64 pr.y, .int .i64 pr.z]) ∧ Hid (LoRel [gp] wb wr (.slice Ao no co) (Pm.flat (Pm.rest ((Pm.pairs L).take j) c)))) (fun _ _ i9 _ => n + 2 - (intOf i9).toNat)
    case atStart => exact ⟨0, 0, false, ⟨0, 0, 0, 0, 0⟩, none, 0, 0, rfl, rfl, rfl, Lib.hid rfl, Nat.zero_le _, Lib.hid (Nat.zero_le _), Lib.hid (Fnd.start v _), HP, Lib.hid (LoRel.start [gp] wb)⟩
    case round =>
      clear HP
      obtain ⟨j, N, fb, pr, Ao, no, co, rfl, rfl, rfl, HNJ, hN, HJ, HF, HP, R⟩ := hrel
      have hn1 : IntKind.i64.wrap ((N : Int) + 1) = (N : Int) + 1 := by rw [IntKind.wrap_i64]; omega
      have ht1 : ((N : Int) + 1).toNat = N + 1 := by omega
      by_cases hlt : N + 1 < n
      · have hlt' : (N : Int) + 1 < (n : Int) := by omega
        have hq0 : (0 : Int) ≤ (N : Int) := by omega
        have hq1 : (N : Int) < (n : Int) := by omega
        have hq2 : (0 : Int) ≤ (N : Int) + 1 := by omega
        have hj2 : 2 * j + 1 < L.length := by have := HNJ.out; have := HN.out; omega
        obtain ⟨b, off, rfl, hb0, hcl⟩ := HX.out (by omega)
        have hbg : b ∉ [gp] := by
          intro h
          rw [List.mem_singleton] at h
          exact HXG.out b off rfl (by omega) h
        have hb : b < wr.heap.size := Nat.lt_of_lt_of_le hb0 R.out.fr.size
        have hpg := pairs_get L j hj2
        have HTP : Hid ((Pm.pairs L).take (j + 1) = (Pm.pairs L).take j ++ [(L[2 * j], L[2 * j + 1])]) := Lib.hid (by
          have hjl : j < (Pm.pairs L).length := (List.getElem?_eq_some_iff.1 hpg).1
          rw [List.take_succ_eq_append_getElem hjl, (List.getElem?_eq_some_iff.1 hpg).2])
        have HTK : Hid (Pm.flat (Pm.rest ((Pm.pairs L).take (j + 1)) c) = Pm.flat (Pm.rest ((Pm.pairs L).take j) c) ++ (if L[2 * j].k = c.k then [] else [L[2 * j], L[2 * j + 1]])) := Lib.hid (by
          rw [HTP.out]
          unfold Pm.rest
          rw [List.filter_append, Pm.flat_app]
          congr 1
          by_cases e : L[2 * j].k = c.k
          · rw [if_pos e, List.filter_cons_of_neg (by simp [e])]; rfl
          · rw [if_neg e, List.filter_cons_of_pos (by simp [e])]; rfl)
        have HJ1 : Hid (j + 1 ≤ (Pm.pairs L).length) := Lib.hid (List.getElem?_eq_some_iff.1 hpg).1
        have HJB : Hid ((Pm.flat (Pm.rest ((Pm.pairs L).take j) c)).length + 2 ≤ 50002) := Lib.hid (by
          have h1 := HRS.out ((Pm.pairs L).take j)
          rw [List.length_take] at h1
          have := HPL.out
          have := HN.out
          omega)
        have HNJ2 : Hid (N + 2 = 2 * (j + 1)) := Lib.hid (by have := HNJ.out; omega)
        have HBW : Hid (∀ W, Fr [gp] wb W → ∀ o, W.cell? ⟨b, o, none⟩ = wb.cell? ⟨b, o, none⟩) := Lib.hid (fun W hf o => hf.cell (p := ⟨b, o, none⟩) hb0 (by simpa using hbg))
        have HA : Hid (∀ W, Fr [gp] wb W → ∀ i, i < 5 → W.cell? ⟨b, off + N * 5 + i, none⟩ = (RowV.cells L[2 * j])[i]?) := Lib.hid (fun W hf i hi => (HBW.out W hf _).trans (by rw [HNJ.out]; exact hcl (2 * j) (by omega) i hi))
        have HD : Hid (∀ W, Fr [gp] wb W → ∀ i, i < 5 → W.cell? ⟨b, off + (N + 1) * 5 + i, none⟩ = (RowV.cells L[2 * j + 1])[i]?) := Lib.hid (fun W hf i hi => (HBW.out W hf _).trans (by rw [HNJ.out]; exact hcl (2 * j + 1) hj2 i hi))
        clear hcl hpg hlt hb0 hbg
        generalize L[2 * j] = x at *
        generalize L[2 * j + 1] = y at *
        clear hj2
        obtain ⟨x0, x1, x2, x3, x4⟩ := x
        obtain ⟨y0, y1, y2, y3, y4⟩ := y
        cases fb
        · by_cases ek : y1 = v
          · have HF2 : Hid (Fnd v ((Pm.pairs L).take (j + 1)) true ⟨y0, y1, y2, y3, y4⟩) := Lib.hid (by rw [HTP.out]; exact HF.out.hit _ _ ek)
            have ek' : (y1 == v) = true := by simpa using ek
            clear ek
            have d0 : wr.cell? ⟨b, off + (N + 1) * 5, none⟩ = some (.int .i64 y0) := HD.out wr R.out.fr 0 (by decide)
            have d1 : wr.cell? ⟨b, off + (N + 1) * 5 + 1, none⟩ = some (.int .i64 y1) := HD.out wr R.out.fr 1 (by decide)
            have d2 : wr.cell? ⟨b, off + (N + 1) * 5 + 2, none⟩ = some (.int .i64 y2) := HD.out wr R.out.fr 2 (by decide)
            have d3 : wr.cell? ⟨b, off + (N + 1) * 5 + 3, none⟩ = some (.int .i64 y3) := HD.out wr R.out.fr 3 (by decide)
            have d4 : wr.cell? ⟨b, off + (N + 1) * 5 + 4, none⟩ = some (.int .i64 y4) := HD.out wr R.out.fr 4 (by decide)
            have HPB := HP.out
            go_upto_region 16 with (refine wpList_store_blk rfl _ _ _ rfl gp #[.int .i64 y0, .int .i64 y1, .int .i64 y2, .int .i64 y3, .int .i64 y4] rfl rfl 57 _ HPB (by kernel_rfl) rfl rfl ?_; intro w9 hb9 hf9; have HB9 := Lib.hid hb9; have HF9 := Lib.hid hf9; clear hb9 hf9)
            clear HPB d0 d1 d2 d3 d4 ek'
            have R9 : Hid (LoRel [gp] wb w9 (.slice Ao no co) (Pm.flat (Pm.rest ((Pm.pairs L).take j) c))) := Lib.hid ⟨R.out.row.fr HF9.out (fun g hg h => by rw [List.mem_singleton] at h; have h1 := R.out.own g hg; have h2 := HPW.out; omega), R.out.fr.trans HF9.out, R.out.own⟩
            have hb : b < w9.heap.size := Nat.lt_of_lt_of_le hb HF9.out.size
            clear R HP HF9 HF
            generalize w9 = wr at *
            have R := R9
            have HP := HB9
            clear R9 HB9
            have HCC := Lib.hid (AT.out.c.fr R.out.fr (by have := HGP.out; simp only [List.mem_singleton]; omega))
            have k1 : ∀ p : Later wr, p.w.cell? ⟨b, off + N * 5 + 1, none⟩ = some (.int .i64 x1) := fun p => HA.out p.w (R.out.fr.trans (p.fr.mono (by simp))) 1 (by decide)
            have c1 : ∀ p : Later wr, p.w.cell? ⟨(w.heap.size + 1), 1, none⟩ = some (.int .i64 c.k) := fun p => p.cell HCC.out.lt (HCC.out.cell 1)
            by_cases e1 : x1 = c.k
            · have e1' : (x1 != c.k) = false := by simpa using e1
              have HT2 : Hid (Pm.flat (Pm.rest ((Pm.pairs L).take (j + 1)) c) = (Pm.flat (Pm.rest ((Pm.pairs L).take j) c))) := Lib.hid (by rw [HTK.out, if_pos e1, List.append_nil])
              clear e1
              go_wp2_with fail
              refine wp_region_later (by kernel_rfl) (by kernel_rfl) ?_
              repeat (go_big_quiet_step (fail))
              refine wpQuiet_nil ?_
              rintro w' ⟨⟨wq, fq⟩, rfl⟩
              have R2 := Lib.hid (R.out.fr0 fq)
              have HP2 := Lib.hid (HP.out.fr fq (by simp))
              clear fq k1 c1 R HP HCC
              go_wp2_with fail
              go_roundw
              case rel => exact ⟨j + 1, N + 2, true, ⟨y0, y1, y2, y3, y4⟩, Ao, no, co, rfl, rfl, by go_num, HNJ2, by omega, HJ1, HF2, HP2, by rw [HT2.out]; exact R2⟩
              case measure => simp [intOf]; omega
            · have e1' : (x1 != c.k) = true := by simpa using e1
              have HT2 : Hid (Pm.flat (Pm.rest ((Pm.pairs L).take (j + 1)) c) = (Pm.flat (Pm.rest ((Pm.pairs L).take j) c)) ++ [⟨x0, x1, x2, x3, x4⟩, ⟨y0, y1, y2, y3, y4⟩]) := Lib.hid (by rw [HTK.out, if_neg e1])
              clear e1
              go_wp2_with fail
              refine wp_region_later (by kernel_rfl) (by kernel_rfl) ?_
              repeat (go_big_quiet_step (fail))
              refine wpQuiet_nil ?_
              rintro w' ⟨⟨wq, fq⟩, rfl⟩
              have R2 := Lib.hid (R.out.fr0 fq)
              have HP2 := Lib.hid (HP.out.fr fq (by simp))
              clear fq k1 c1 R HP HCC
              go_wp2_with fail
              have HOA : Hid (RowsOwn (w'.drew.alloc (.cells #[.int .i64 x0, .int .i64 x1, .int .i64 x2, .int .i64 x3, .int .i64 x4, .int .i64 y0, .int .i64 y1, .int .i64 y2, .int .i64 y3, .int .i64 y4] 57)) (.slice Ao no co) (Pm.flat (Pm.rest ((Pm.pairs L).take j) c))) := Lib.hid (R2.out.row.fr ((Fr.refl [] w').drew.alloc _) (by simp))
              have HRD : Hid (Reads (w'.drew.alloc (.cells #[.int .i64 x0, .int .i64 x1, .int .i64 x2, .int .i64 x3, .int .i64 x4, .int .i64 y0, .int .i64 y1, .int .i64 y2, .int .i64 y3, .int .i64 y4] 57)) (w'.drew.alloc (.cells #[.int .i64 x0, .int .i64 x1, .int .i64 x2, .int .i64 x3, .int .i64 x4, .int .i64 y0, .int .i64 y1, .int .i64 y2, .int .i64 y3, .int .i64 y4] 57)).heap.size 5 (some ⟨w'.drew.heap.size, 0, none⟩) 2 (([⟨x0, x1, x2, x3, x4⟩, ⟨y0, y1, y2, y3, y4⟩] : List RowV).flatMap RowV.cells)) := Lib.hid (reads_of_at RowV.cells_len (by decide) (AtL.of_blk (L := [⟨x0, x1, x2, x3, x4⟩, ⟨y0, y1, y2, y3, y4⟩]) RowV.cells_len (Blk.new w'.drew 57 #[.int .i64 x0, .int .i64 x1, .int .i64 x2, .int .i64 x3, .int .i64 x4, .int .i64 y0, .int .i64 y1, .int .i64 y2, .int .i64 y3, .int .i64 y4]) (by simp [RowV.cells])))
              have HSW : Hid (∀ W, Fr [] w' W → W.cell? ⟨b, off + N * 5, none⟩ = some (.int .i64 x0) ∧ W.cell? ⟨b, off + N * 5 + 1, none⟩ = some (.int .i64 x1) ∧ W.cell? ⟨b, off + N * 5 + 2, none⟩ = some (.int .i64 x2) ∧ W.cell? ⟨b, off + N * 5 + 3, none⟩ = some (.int .i64 x3) ∧ W.cell? ⟨b, off + N * 5 + 4, none⟩ = some (.int .i64 x4) ∧ W.cell? ⟨b, off + (N + 1) * 5, none⟩ = some (.int .i64 y0) ∧ W.cell? ⟨b, off + (N + 1) * 5 + 1, none⟩ = some (.int .i64 y1) ∧ W.cell? ⟨b, off + (N + 1) * 5 + 2, none⟩ = some (.int .i64 y2) ∧ W.cell? ⟨b, off + (N + 1) * 5 + 3, none⟩ = some (.int .i64 y3) ∧ W.cell? ⟨b, off + (N + 1) * 5 + 4, none⟩ = some (.int .i64 y4)) := Lib.hid (fun W hf => ⟨HA.out W (R2.out.fr.trans (hf.mono (by simp))) 0 (by decide), HA.out W (R2.out.fr.trans (hf.mono (by simp))) 1 (by decide), HA.out W (R2.out.fr.trans (hf.mono (by simp))) 2 (by decide), HA.out W (R2.out.fr.trans (hf.mono (by simp))) 3 (by decide), HA.out W (R2.out.fr.trans (hf.mono (by simp))) 4 (by decide), HD.out W (R2.out.fr.trans (hf.mono (by simp))) 0 (by decide), HD.out W (R2.out.fr.trans (hf.mono (by simp))) 1 (by decide), HD.out W (R2.out.fr.trans (hf.mono (by simp))) 2 (by decide), HD.out W (R2.out.fr.trans (hf.mono (by simp))) 3 (by decide), HD.out W (R2.out.fr.trans (hf.mono (by simp))) 4 (by decide)⟩)
              refine wp_region_head (fun W => W.cell? ⟨b, off + N * 5, none⟩ = some (.int .i64 x0) ∧ W.cell? ⟨b, off + N * 5 + 1, none⟩ = some (.int .i64 x1) ∧ W.cell? ⟨b, off + N * 5 + 2, none⟩ = some (.int .i64 x2) ∧ W.cell? ⟨b, off + N * 5 + 3, none⟩ = some (.int .i64 x3) ∧ W.cell? ⟨b, off + N * 5 + 4, none⟩ = some (.int .i64 x4) ∧ W.cell? ⟨b, off + (N + 1) * 5, none⟩ = some (.int .i64 y0) ∧ W.cell? ⟨b, off + (N + 1) * 5 + 1, none⟩ = some (.int .i64 y1) ∧ W.cell? ⟨b, off + (N + 1) * 5 + 2, none⟩ = some (.int .i64 y2) ∧ W.cell? ⟨b, off + (N + 1) * 5 + 3, none⟩ = some (.int .i64 y3) ∧ W.cell? ⟨b, off + (N + 1) * 5 + 4, none⟩ = some (.int .i64 y4)) 11 (by kernel_rfl) (by kernel_rfl) (HSW.out _ (Fr.refl [] w').drew) (fun hHeld => ?_)
              refine wpHead_take (i := 0) (oi := ⟨some 84, _, _, _, _, _⟩) (v := ?_) rfl (by kernel_rfl) (fun _ _ _ h => h) (Or.inl ⟨by rfl, ?_⟩) hHeld ?_
              rotate_left
              · (intro w hSw; (try dsimp only at hSw); go_simp; try with_reducible rfl)
              try simp only [Act.put, List.setIfInBounds_toArray, List.set_cons_zero, List.set_cons_succ]
              refine wpHead_take (i := 1) (oi := ⟨some 85, _, _, _, _, _⟩) (v := ?_) rfl (by kernel_rfl) (fun _ _ _ h => h) (Or.inl ⟨by rfl, ?_⟩) hHeld ?_
              rotate_left
              · (intro w hSw; (try dsimp only at hSw); go_simp; try with_reducible rfl)
              try simp only [Act.put, List.setIfInBounds_toArray, List.set_cons_zero, List.set_cons_succ]
              refine wpHead_take (i := 2) (oi := ⟨some 86, _, _, _, _, _⟩) (v := ?_) rfl (by kernel_rfl) (fun _ _ _ h => h) (Or.inl ⟨by rfl, ?_⟩) hHeld ?_
              rotate_left
              · (intro w hSw; (try dsimp only at hSw); go_simp; try with_reducible rfl)
              try simp only [Act.put, List.setIfInBounds_toArray, List.set_cons_zero, List.set_cons_succ]
              refine wpHead_take (i := 3) (oi := ⟨some 87, _, _, _, _, _⟩) (v := ?_) rfl (by kernel_rfl) (fun _ _ _ h => h) (Or.inl ⟨by rfl, ?_⟩) hHeld ?_
              rotate_left
              · (intro w hSw; (try dsimp only at hSw); go_simp; try with_reducible rfl)
              try simp only [Act.put, List.setIfInBounds_toArray, List.set_cons_zero, List.set_cons_succ]
              refine wpHead_take (i := 4) (oi := ⟨some 88, _, _, _, _, _⟩) (v := ?_) rfl (by kernel_rfl) (fun _ _ _ h => h) (Or.inl ⟨by rfl, ?_⟩) hHeld ?_
              rotate_left
              · (intro w hSw; (try dsimp only at hSw); go_simp; try with_reducible rfl)
              try simp only [Act.put, List.setIfInBounds_toArray, List.set_cons_zero, List.set_cons_succ]
              refine wpHead_take (i := 5) (oi := ⟨some 89, _, _, _, _, _⟩) (v := ?_) rfl (by kernel_rfl) (fun _ _ _ h => h) (Or.inl ⟨by rfl, ?_⟩) hHeld ?_
              rotate_left
              · (intro w hSw; (try dsimp only at hSw); go_simp; try with_reducible rfl)
              try simp only [Act.put, List.setIfInBounds_toArray, List.set_cons_zero, List.set_cons_succ]
              refine wpHead_take (i := 6) (oi := ⟨some 90, _, _, _, _, _⟩) (v := ?_) rfl (by kernel_rfl) (fun _ _ _ h => h) (Or.inl ⟨by rfl, ?_⟩) hHeld ?_
              rotate_left
              · (intro w hSw; (try dsimp only at hSw); go_simp; try with_reducible rfl)
              try simp only [Act.put, List.setIfInBounds_toArray, List.set_cons_zero, List.set_cons_succ]
              refine wpHead_take (i := 7) (oi := ⟨some 91, _, _, _, _, _⟩) (v := ?_) rfl (by kernel_rfl) (fun _ _ _ h => h) (Or.inl ⟨by rfl, ?_⟩) hHeld ?_
              rotate_left
              · (intro w hSw; (try dsimp only at hSw); go_simp; try with_reducible rfl)
              try simp only [Act.put, List.setIfInBounds_toArray, List.set_cons_zero, List.set_cons_succ]
              refine wpHead_take (i := 8) (oi := ⟨some 92, _, _, _, _, _⟩) (v := ?_) rfl (by kernel_rfl) (fun _ _ _ h => h) (Or.inl ⟨by rfl, ?_⟩) hHeld ?_
              rotate_left
              · (intro w hSw; (try dsimp only at hSw); go_simp; try with_reducible rfl)
              try simp only [Act.put, List.setIfInBounds_toArray, List.set_cons_zero, List.set_cons_succ]
              refine wpHead_take (i := 9) (oi := ⟨some 93, _, _, _, _, _⟩) (v := ?_) rfl (by kernel_rfl) (fun _ _ _ h => h) (Or.inl ⟨by rfl, ?_⟩) hHeld ?_
              rotate_left
              · (intro w hSw; (try dsimp only at hSw); go_simp; try with_reducible rfl)
              try simp only [Act.put, List.setIfInBounds_toArray, List.set_cons_zero, List.set_cons_succ]
              refine wpHead_one (i := 10) (o := ⟨some 94, _, _, _, _, _⟩) rfl (by kernel_rfl) (by decide) (fun K hK => ?_)
              go_simp
              skip
              refine hK.out _ _ ?_ (fun hHeld => ?_)
              · exact HSW.out _ ((Fr.refl [] w').drew.alloc _)
              clear hK K
              try simp only [Act.put, List.setIfInBounds_toArray, List.set_cons_zero, List.set_cons_succ]
              refine wpHead_done (by kernel_rfl) ?_
              simp only [List.drop_succ_cons, List.drop_zero]
              clear HSW 
              go_wp2_with (at_builtin; refine wpList_appendL rfl _ _ rfl TW RowV.cells_len RowV.cells_one rfl HOA.out _ _ _ _ ([⟨x0, x1, x2, x3, x4⟩, ⟨y0, y1, y2, y3, y4⟩] : List RowV) rfl rfl HRD.out (Nat.le_trans HJB.out (by decide)) (Nat.le_trans (Nat.mul_le_mul_right 40 HJB.out) (by decide)) ?_; intro v5 w5 hrow5 hg5 hat5; have HR5 := Lib.hid hrow5; have HG5 := Lib.hid hg5; have HA5 := Lib.hid hat5; obtain ⟨A5, n5, cap5, hv5⟩ : ∃ A n c, v5 = .slice A n c := (match hrow5.val with | ⟨_, _, hv⟩ => ⟨_, _, _, hv⟩); subst hv5; clear hrow5 hg5 hat5)
              have R3 := Lib.hid (R2.out.grow (R2 := Pm.flat (Pm.rest ((Pm.pairs L).take (j + 1)) c)) ((Fr.refl [] w').drew.alloc _) (by rw [HT2.out]; exact HR5.out) HG5.out HA5.out)
              have HP3 := Lib.hid (Blk.grown (HP2.out.fr ((Fr.refl [] w').drew.alloc _) (by simp)) HG5.out (fun e => by have h1 := R2.out.own gp e.symm; have h2 := HPW.out; omega))
              go_roundw
              case rel => exact ⟨j + 1, N + 2, true, ⟨y0, y1, y2, y3, y4⟩, A5, n5, cap5, rfl, rfl, by go_num, HNJ2, by omega, HJ1, HF2, HP3, R3⟩
              case measure => simp [intOf]; omega
          · have HF2 : Hid (Fnd v ((Pm.pairs L).take (j + 1)) false pr) := Lib.hid (by rw [HTP.out]; exact HF.out.miss _ _ ek)
            have ek' : (y1 == v) = false := by simpa using ek
            clear ek HF
            have d1 : wr.cell? ⟨b, off + (N + 1) * 5 + 1, none⟩ = some (.int .i64 y1) := HD.out wr R.out.fr 1 (by decide)
            go_upto_region 16 with (fail)
            clear d1 ek'
            have HCC := Lib.hid (AT.out.c.fr R.out.fr (by have := HGP.out; simp only [List.mem_singleton]; omega))
            have k1 : ∀ p : Later wr, p.w.cell? ⟨b, off + N * 5 + 1, none⟩ = some (.int .i64 x1) := fun p => HA.out p.w (R.out.fr.trans (p.fr.mono (by simp))) 1 (by decide)
            have c1 : ∀ p : Later wr, p.w.cell? ⟨(w.heap.size + 1), 1, none⟩ = some (.int .i64 c.k) := fun p => p.cell HCC.out.lt (HCC.out.cell 1)
            by_cases e1 : x1 = c.k
            · have e1' : (x1 != c.k) = false := by simpa using e1
              have HT2 : Hid (Pm.flat (Pm.rest ((Pm.pairs L).take (j + 1)) c) = (Pm.flat (Pm.rest ((Pm.pairs L).take j) c))) := Lib.hid (by rw [HTK.out, if_pos e1, List.append_nil])
              clear e1
              go_wp2_with fail
              refine wp_region_later (by kernel_rfl) (by kernel_rfl) ?_
              repeat (go_big_quiet_step (fail))
              refine wpQuiet_nil ?_
              rintro w' ⟨⟨wq, fq⟩, rfl⟩
              have R2 := Lib.hid (R.out.fr0 fq)
              have HP2 := Lib.hid (HP.out.fr fq (by simp))
              clear fq k1 c1 R HP HCC
              go_wp2_with fail
              go_roundw
              case rel => exact ⟨j + 1, N + 2, false, pr, Ao, no, co, rfl, rfl, by go_num, HNJ2, by omega, HJ1, HF2, HP2, by rw [HT2.out]; exact R2⟩
              case measure => simp [intOf]; omega
            · have e1' : (x1 != c.k) = true := by simpa using e1
              have HT2 : Hid (Pm.flat (Pm.rest ((Pm.pairs L).take (j + 1)) c) = (Pm.flat (Pm.rest ((Pm.pairs L).take j) c)) ++ [⟨x0, x1, x2, x3, x4⟩, ⟨y0, y1, y2, y3, y4⟩]) := Lib.hid (by rw [HTK.out, if_neg e1])
              clear e1
              go_wp2_with fail
              refine wp_region_later (by kernel_rfl) (by kernel_rfl) ?_
              repeat (go_big_quiet_step (fail))
              refine wpQuiet_nil ?_
              rintro w' ⟨⟨wq, fq⟩, rfl⟩
              have R2 := Lib.hid (R.out.fr0 fq)
              have HP2 := Lib.hid (HP.out.fr fq (by simp))
              clear fq k1 c1 R HP HCC
              go_wp2_with fail
              have HOA : Hid (RowsOwn (w'.drew.alloc (.cells #[.int .i64 x0, .int .i64 x1, .int .i64 x2, .int .i64 x3, .int .i64 x4, .int .i64 y0, .int .i64 y1, .int .i64 y2, .int .i64 y3, .int .i64 y4] 57)) (.slice Ao no co) (Pm.flat (Pm.rest ((Pm.pairs L).take j) c))) := Lib.hid (R2.out.row.fr ((Fr.refl [] w').drew.alloc _) (by simp))
              have HRD : Hid (Reads (w'.drew.alloc (.cells #[.int .i64 x0, .int .i64 x1, .int .i64 x2, .int .i64 x3, .int .i64 x4, .int .i64 y0, .int .i64 y1, .int .i64 y2, .int .i64 y3, .int .i64 y4] 57)) (w'.drew.alloc (.cells #[.int .i64 x0, .int .i64 x1, .int .i64 x2, .int .i64 x3, .int .i64 x4, .int .i64 y0, .int .i64 y1, .int .i64 y2, .int .i64 y3, .int .i64 y4] 57)).heap.size 5 (some ⟨w'.drew.heap.size, 0, none⟩) 2 (([⟨x0, x1, x2, x3, x4⟩, ⟨y0, y1, y2, y3, y4⟩] : List RowV).flatMap RowV.cells)) := Lib.hid (reads_of_at RowV.cells_len (by decide) (AtL.of_blk (L := [⟨x0, x1, x2, x3, x4⟩, ⟨y0, y1, y2, y3, y4⟩]) RowV.cells_len (Blk.new w'.drew 57 #[.int .i64 x0, .int .i64 x1, .int .i64 x2, .int .i64 x3, .int .i64 x4, .int .i64 y0, .int .i64 y1, .int .i64 y2, .int .i64 y3, .int .i64 y4]) (by simp [RowV.cells])))
              have HSW : Hid (∀ W, Fr [] w' W → W.cell? ⟨b, off + N * 5, none⟩ = some (.int .i64 x0) ∧ W.cell? ⟨b, off + N * 5 + 1, none⟩ = some (.int .i64 x1) ∧ W.cell? ⟨b, off + N * 5 + 2, none⟩ = some (.int .i64 x2) ∧ W.cell? ⟨b, off + N * 5 + 3, none⟩ = some (.int .i64 x3) ∧ W.cell? ⟨b, off + N * 5 + 4, none⟩ = some (.int .i64 x4) ∧ W.cell? ⟨b, off + (N + 1) * 5, none⟩ = some (.int .i64 y0) ∧ W.cell? ⟨b, off + (N + 1) * 5 + 1, none⟩ = some (.int .i64 y1) ∧ W.cell? ⟨b, off + (N + 1) * 5 + 2, none⟩ = some (.int .i64 y2) ∧ W.cell? ⟨b, off + (N + 1) * 5 + 3, none⟩ = some (.int .i64 y3) ∧ W.cell? ⟨b, off + (N + 1) * 5 + 4, none⟩ = some (.int .i64 y4)) := Lib.hid (fun W hf => ⟨HA.out W (R2.out.fr.trans (hf.mono (by simp))) 0 (by decide), HA.out W (R2.out.fr.trans (hf.mono (by simp))) 1 (by decide), HA.out W (R2.out.fr.trans (hf.mono (by simp))) 2 (by decide), HA.out W (R2.out.fr.trans (hf.mono (by simp))) 3 (by decide), HA.out W (R2.out.fr.trans (hf.mono (by simp))) 4 (by decide), HD.out W (R2.out.fr.trans (hf.mono (by simp))) 0 (by decide), HD.out W (R2.out.fr.trans (hf.mono (by simp))) 1 (by decide), HD.out W (R2.out.fr.trans (hf.mono (by simp))) 2 (by decide), HD.out W (R2.out.fr.trans (hf.mono (by simp))) 3 (by decide), HD.out W (R2.out.fr.trans (hf.mono (by simp))) 4 (by decide)⟩)
              refine wp_region_head (fun W => W.cell? ⟨b, off + N * 5, none⟩ = some (.int .i64 x0) ∧ W.cell? ⟨b, off + N * 5 + 1, none⟩ = some (.int .i64 x1) ∧ W.cell? ⟨b, off + N * 5 + 2, none⟩ = some (.int .i64 x2) ∧ W.cell? ⟨b, off + N * 5 + 3, none⟩ = some (.int .i64 x3) ∧ W.cell? ⟨b, off + N * 5 + 4, none⟩ = some (.int .i64 x4) ∧ W.cell? ⟨b, off + (N + 1) * 5, none⟩ = some (.int .i64 y0) ∧ W.cell? ⟨b, off + (N + 1) * 5 + 1, none⟩ = some (.int .i64 y1) ∧ W.cell? ⟨b, off + (N + 1) * 5 + 2, none⟩ = some (.int .i64 y2) ∧ W.cell? ⟨b, off + (N + 1) * 5 + 3, none⟩ = some (.int .i64 y3) ∧ W.cell? ⟨b, off + (N + 1) * 5 + 4, none⟩ = some (.int .i64 y4)) 11 (by kernel_rfl) (by kernel_rfl) (HSW.out _ (Fr.refl [] w').drew) (fun hHeld => ?_)
              refine wpHead_take (i := 0) (oi := ⟨some 84, _, _, _, _, _⟩) (v := ?_) rfl (by kernel_rfl) (fun _ _ _ h => h) (Or.inl ⟨by rfl, ?_⟩) hHeld ?_
              rotate_left
              · (intro w hSw; (try dsimp only at hSw); go_simp; try with_reducible rfl)
              try simp only [Act.put, List.setIfInBounds_toArray, List.set_cons_zero, List.set_cons_succ]
              refine wpHead_take (i := 1) (oi := ⟨some 85, _, _, _, _, _⟩) (v := ?_) rfl (by kernel_rfl) (fun _ _ _ h => h) (Or.inl ⟨by rfl, ?_⟩) hHeld ?_
              rotate_left
              · (intro w hSw; (try dsimp only at hSw); go_simp; try with_reducible rfl)
              try simp only [Act.put, List.setIfInBounds_toArray, List.set_cons_zero, List.set_cons_succ]
              refine wpHead_take (i := 2) (oi := ⟨some 86, _, _, _, _, _⟩) (v := ?_) rfl (by kernel_rfl) (fun _ _ _ h => h) (Or.inl ⟨by rfl, ?_⟩) hHeld ?_
              rotate_left
              · (intro w hSw; (try dsimp only at hSw); go_simp; try with_reducible rfl)
              try simp only [Act.put, List.setIfInBounds_toArray, List.set_cons_zero, List.set_cons_succ]
              refine wpHead_take (i := 3) (oi := ⟨some 87, _, _, _, _, _⟩) (v := ?_) rfl (by kernel_rfl) (fun _ _ _ h => h) (Or.inl ⟨by rfl, ?_⟩) hHeld ?_
              rotate_left
              · (intro w hSw; (try dsimp only at hSw); go_simp; try with_reducible rfl)
              try simp only [Act.put, List.setIfInBounds_toArray, List.set_cons_zero, List.set_cons_succ]
              refine wpHead_take (i := 4) (oi := ⟨some 88, _, _, _, _, _⟩) (v := ?_) rfl (by kernel_rfl) (fun _ _ _ h => h) (Or.inl ⟨by rfl, ?_⟩) hHeld ?_
              rotate_left
              · (intro w hSw; (try dsimp only at hSw); go_simp; try with_reducible rfl)
              try simp only [Act.put, List.setIfInBounds_toArray, List.set_cons_zero, List.set_cons_succ]
              refine wpHead_take (i := 5) (oi := ⟨some 89, _, _, _, _, _⟩) (v := ?_) rfl (by kernel_rfl) (fun _ _ _ h => h) (Or.inl ⟨by rfl, ?_⟩) hHeld ?_
              rotate_left
              · (intro w hSw; (try dsimp only at hSw); go_simp; try with_reducible rfl)
              try simp only [Act.put, List.setIfInBounds_toArray, List.set_cons_zero, List.set_cons_succ]
              refine wpHead_take (i := 6) (oi := ⟨some 90, _, _, _, _, _⟩) (v := ?_) rfl (by kernel_rfl) (fun _ _ _ h => h) (Or.inl ⟨by rfl, ?_⟩) hHeld ?_
              rotate_left
              · (intro w hSw; (try dsimp only at hSw); go_simp; try with_reducible rfl)
              try simp only [Act.put, List.setIfInBounds_toArray, List.set_cons_zero, List.set_cons_succ]
              refine wpHead_take (i := 7) (oi := ⟨some 91, _, _, _, _, _⟩) (v := ?_) rfl (by kernel_rfl) (fun _ _ _ h => h) (Or.inl ⟨by rfl, ?_⟩) hHeld ?_
              rotate_left
              · (intro w hSw; (try dsimp only at hSw); go_simp; try with_reducible rfl)
              try simp only [Act.put, List.setIfInBounds_toArray, List.set_cons_zero, List.set_cons_succ]
              refine wpHead_take (i := 8) (oi := ⟨some 92, _, _, _, _, _⟩) (v := ?_) rfl (by kernel_rfl) (fun _ _ _ h => h) (Or.inl ⟨by rfl, ?_⟩) hHeld ?_
              rotate_left
              · (intro w hSw; (try dsimp only at hSw); go_simp; try with_reducible rfl)
              try simp only [Act.put, List.setIfInBounds_toArray, List.set_cons_zero, List.set_cons_succ]
              refine wpHead_take (i := 9) (oi := ⟨some 93, _, _, _, _, _⟩) (v := ?_) rfl (by kernel_rfl) (fun _ _ _ h => h) (Or.inl ⟨by rfl, ?_⟩) hHeld ?_
              rotate_left
              · (intro w hSw; (try dsimp only at hSw); go_simp; try with_reducible rfl)
              try simp only [Act.put, List.setIfInBounds_toArray, List.set_cons_zero, List.set_cons_succ]
              refine wpHead_one (i := 10) (o := ⟨some 94, _, _, _, _, _⟩) rfl (by kernel_rfl) (by decide) (fun K hK => ?_)
              go_simp
              skip
              refine hK.out _ _ ?_ (fun hHeld => ?_)
              · exact HSW.out _ ((Fr.refl [] w').drew.alloc _)
              clear hK K
              try simp only [Act.put, List.setIfInBounds_toArray, List.set_cons_zero, List.set_cons_succ]
              refine wpHead_done (by kernel_rfl) ?_
              simp only [List.drop_succ_cons, List.drop_zero]
              clear HSW 
              go_wp2_with (at_builtin; refine wpList_appendL rfl _ _ rfl TW RowV.cells_len RowV.cells_one rfl HOA.out _ _ _ _ ([⟨x0, x1, x2, x3, x4⟩, ⟨y0, y1, y2, y3, y4⟩] : List RowV) rfl rfl HRD.out (Nat.le_trans HJB.out (by decide)) (Nat.le_trans (Nat.mul_le_mul_right 40 HJB.out) (by decide)) ?_; intro v5 w5 hrow5 hg5 hat5; have HR5 := Lib.hid hrow5; have HG5 := Lib.hid hg5; have HA5 := Lib.hid hat5; obtain ⟨A5, n5, cap5, hv5⟩ : ∃ A n c, v5 = .slice A n c := (match hrow5.val with | ⟨_, _, hv⟩ => ⟨_, _, _, hv⟩); subst hv5; clear hrow5 hg5 hat5)
              have R3 := Lib.hid (R2.out.grow (R2 := Pm.flat (Pm.rest ((Pm.pairs L).take (j + 1)) c)) ((Fr.refl [] w').drew.alloc _) (by rw [HT2.out]; exact HR5.out) HG5.out HA5.out)
              have HP3 := Lib.hid (Blk.grown (HP2.out.fr ((Fr.refl [] w').drew.alloc _) (by simp)) HG5.out (fun e => by have h1 := R2.out.own gp e.symm; have h2 := HPW.out; omega))
              go_roundw
              case rel => exact ⟨j + 1, N + 2, false, pr, A5, n5, cap5, rfl, rfl, by go_num, HNJ2, by omega, HJ1, HF2, HP3, R3⟩
              case measure => simp [intOf]; omega
        · have HF2 : Hid (Fnd v ((Pm.pairs L).take (j + 1)) true pr) := Lib.hid (by rw [HTP.out]; exact HF.out.keep _)
          clear HF
          go_upto_region 16 with (fail)
          have HCC := Lib.hid (AT.out.c.fr R.out.fr (by have := HGP.out; simp only [List.mem_singleton]; omega))
          have k1 : ∀ p : Later wr, p.w.cell? ⟨b, off + N * 5 + 1, none⟩ = some (.int .i64 x1) := fun p => HA.out p.w (R.out.fr.trans (p.fr.mono (by simp))) 1 (by decide)
          have c1 : ∀ p : Later wr, p.w.cell? ⟨(w.heap.size + 1), 1, none⟩ = some (.int .i64 c.k) := fun p => p.cell HCC.out.lt (HCC.out.cell 1)
          by_cases e1 : x1 = c.k
          · have e1' : (x1 != c.k) = false := by simpa using e1
            have HT2 : Hid (Pm.flat (Pm.rest ((Pm.pairs L).take (j + 1)) c) = (Pm.flat (Pm.rest ((Pm.pairs L).take j) c))) := Lib.hid (by rw [HTK.out, if_pos e1, List.append_nil])
            clear e1
            go_wp2_with fail
            refine wp_region_later (by kernel_rfl) (by kernel_rfl) ?_
            repeat (go_big_quiet_step (fail))
            refine wpQuiet_nil ?_
            rintro w' ⟨⟨wq, fq⟩, rfl⟩
            have R2 := Lib.hid (R.out.fr0 fq)
            have HP2 := Lib.hid (HP.out.fr fq (by simp))
            clear fq k1 c1 R HP HCC
            go_wp2_with fail
            go_roundw
            case rel => exact ⟨j + 1, N + 2, true, pr, Ao, no, co, rfl, rfl, by go_num, HNJ2, by omega, HJ1, HF2, HP2, by rw [HT2.out]; exact R2⟩
            case measure => simp [intOf]; omega
          · have e1' : (x1 != c.k) = true := by simpa using e1
            have HT2 : Hid (Pm.flat (Pm.rest ((Pm.pairs L).take (j + 1)) c) = (Pm.flat (Pm.rest ((Pm.pairs L).take j) c)) ++ [⟨x0, x1, x2, x3, x4⟩, ⟨y0, y1, y2, y3, y4⟩]) := Lib.hid (by rw [HTK.out, if_neg e1])
            clear e1
            go_wp2_with fail
            refine wp_region_later (by kernel_rfl) (by kernel_rfl) ?_
            repeat (go_big_quiet_step (fail))
            refine wpQuiet_nil ?_
            rintro w' ⟨⟨wq, fq⟩, rfl⟩
            have R2 := Lib.hid (R.out.fr0 fq)
            have HP2 := Lib.hid (HP.out.fr fq (by simp))
            clear fq k1 c1 R HP HCC
            go_wp2_with fail
            have HOA : Hid (RowsOwn (w'.drew.alloc (.cells #[.int .i64 x0, .int .i64 x1, .int .i64 x2, .int .i64 x3, .int .i64 x4, .int .i64 y0, .int .i64 y1, .int .i64 y2, .int .i64 y3, .int .i64 y4] 57)) (.slice Ao no co) (Pm.flat (Pm.rest ((Pm.pairs L).take j) c))) := Lib.hid (R2.out.row.fr ((Fr.refl [] w').drew.alloc _) (by simp))
            have HRD : Hid (Reads (w'.drew.alloc (.cells #[.int .i64 x0, .int .i64 x1, .int .i64 x2, .int .i64 x3, .int .i64 x4, .int .i64 y0, .int .i64 y1, .int .i64 y2, .int .i64 y3, .int .i64 y4] 57)) (w'.drew.alloc (.cells #[.int .i64 x0, .int .i64 x1, .int .i64 x2, .int .i64 x3, .int .i64 x4, .int .i64 y0, .int .i64 y1, .int .i64 y2, .int .i64 y3, .int .i64 y4] 57)).heap.size 5 (some ⟨w'.drew.heap.size, 0, none⟩) 2 (([⟨x0, x1, x2, x3, x4⟩, ⟨y0, y1, y2, y3, y4⟩] : List RowV).flatMap RowV.cells)) := Lib.hid (reads_of_at RowV.cells_len (by decide) (AtL.of_blk (L := [⟨x0, x1, x2, x3, x4⟩, ⟨y0, y1, y2, y3, y4⟩]) RowV.cells_len (Blk.new w'.drew 57 #[.int .i64 x0, .int .i64 x1, .int .i64 x2, .int .i64 x3, .int .i64 x4, .int .i64 y0, .int .i64 y1, .int .i64 y2, .int .i64 y3, .int .i64 y4]) (by simp [RowV.cells])))
            have HSW : Hid (∀ W, Fr [] w' W → W.cell? ⟨b, off + N * 5, none⟩ = some (.int .i64 x0) ∧ W.cell? ⟨b, off + N * 5 + 1, none⟩ = some (.int .i64 x1) ∧ W.cell? ⟨b, off + N * 5 + 2, none⟩ = some (.int .i64 x2) ∧ W.cell? ⟨b, off + N * 5 + 3, none⟩ = some (.int .i64 x3) ∧ W.cell? ⟨b, off + N * 5 + 4, none⟩ = some (.int .i64 x4) ∧ W.cell? ⟨b, off + (N + 1) * 5, none⟩ = some (.int .i64 y0) ∧ W.cell? ⟨b, off + (N + 1) * 5 + 1, none⟩ = some (.int .i64 y1) ∧ W.cell? ⟨b, off + (N + 1) * 5 + 2, none⟩ = some (.int .i64 y2) ∧ W.cell? ⟨b, off + (N + 1) * 5 + 3, none⟩ = some (.int .i64 y3) ∧ W.cell? ⟨b, off + (N + 1) * 5 + 4, none⟩ = some (.int .i64 y4)) := Lib.hid (fun W hf => ⟨HA.out W (R2.out.fr.trans (hf.mono (by simp))) 0 (by decide), HA.out W (R2.out.fr.trans (hf.mono (by simp))) 1 (by decide), HA.out W (R2.out.fr.trans (hf.mono (by simp))) 2 (by decide), HA.out W (R2.out.fr.trans (hf.mono (by simp))) 3 (by decide), HA.out W (R2.out.fr.trans (hf.mono (by simp))) 4 (by decide), HD.out W (R2.out.fr.trans (hf.mono (by simp))) 0 (by decide), HD.out W (R2.out.fr.trans (hf.mono (by simp))) 1 (by decide), HD.out W (R2.out.fr.trans (hf.mono (by simp))) 2 (by decide), HD.out W (R2.out.fr.trans (hf.mono (by simp))) 3 (by decide), HD.out W (R2.out.fr.trans (hf.mono (by simp))) 4 (by decide)⟩)
            refine wp_region_head (fun W => W.cell? ⟨b, off + N * 5, none⟩ = some (.int .i64 x0) ∧ W.cell? ⟨b, off + N * 5 + 1, none⟩ = some (.int .i64 x1) ∧ W.cell? ⟨b, off + N * 5 + 2, none⟩ = some (.int .i64 x2) ∧ W.cell? ⟨b, off + N * 5 + 3, none⟩ = some (.int .i64 x3) ∧ W.cell? ⟨b, off + N * 5 + 4, none⟩ = some (.int .i64 x4) ∧ W.cell? ⟨b, off + (N + 1) * 5, none⟩ = some (.int .i64 y0) ∧ W.cell? ⟨b, off + (N + 1) * 5 + 1, none⟩ = some (.int .i64 y1) ∧ W.cell? ⟨b, off + (N + 1) * 5 + 2, none⟩ = some (.int .i64 y2) ∧ W.cell? ⟨b, off + (N + 1) * 5 + 3, none⟩ = some (.int .i64 y3) ∧ W.cell? ⟨b, off + (N + 1) * 5 + 4, none⟩ = some (.int .i64 y4)) 11 (by kernel_rfl) (by kernel_rfl) (HSW.out _ (Fr.refl [] w').drew) (fun hHeld => ?_)
            refine wpHead_take (i := 0) (oi := ⟨some 84, _, _, _, _, _⟩) (v := ?_) rfl (by kernel_rfl) (fun _ _ _ h => h) (Or.inl ⟨by rfl, ?_⟩) hHeld ?_
            rotate_left
            · (intro w hSw; (try dsimp only at hSw); go_simp; try with_reducible rfl)
            try simp only [Act.put, List.setIfInBounds_toArray, List.set_cons_zero, List.set_cons_succ]
            refine wpHead_take (i := 1) (oi := ⟨some 85, _, _, _, _, _⟩) (v := ?_) rfl (by kernel_rfl) (fun _ _ _ h => h) (Or.inl ⟨by rfl, ?_⟩) hHeld ?_
            rotate_left
            · (intro w hSw; (try dsimp only at hSw); go_simp; try with_reducible rfl)
            try simp only [Act.put, List.setIfInBounds_toArray, List.set_cons_zero, List.set_cons_succ]
            refine wpHead_take (i := 2) (oi := ⟨some 86, _, _, _, _, _⟩) (v := ?_) rfl (by kernel_rfl) (fun _ _ _ h => h) (Or.inl ⟨by rfl, ?_⟩) hHeld ?_
            rotate_left
            · (intro w hSw; (try dsimp only at hSw); go_simp; try with_reducible rfl)
            try simp only [Act.put, List.setIfInBounds_toArray, List.set_cons_zero, List.set_cons_succ]
            refine wpHead_take (i := 3) (oi := ⟨some 87, _, _, _, _, _⟩) (v := ?_) rfl (by kernel_rfl) (fun _ _ _ h => h) (Or.inl ⟨by rfl, ?_⟩) hHeld ?_
            rotate_left
            · (intro w hSw; (try dsimp only at hSw); go_simp; try with_reducible rfl)
            try simp only [Act.put, List.setIfInBounds_toArray, List.set_cons_zero, List.set_cons_succ]
            refine wpHead_take (i := 4) (oi := ⟨some 88, _, _, _, _, _⟩) (v := ?_) rfl (by kernel_rfl) (fun _ _ _ h => h) (Or.inl ⟨by rfl, ?_⟩) hHeld ?_
            rotate_left
            · (intro w hSw; (try dsimp only at hSw); go_simp; try with_reducible rfl)
            try simp only [Act.put, List.setIfInBounds_toArray, List.set_cons_zero, List.set_cons_succ]
            refine wpHead_take (i := 5) (oi := ⟨some 89, _, _, _, _, _⟩) (v := ?_) rfl (by kernel_rfl) (fun _ _ _ h => h) (Or.inl ⟨by rfl, ?_⟩) hHeld ?_
            rotate_left
            · (intro w hSw; (try dsimp only at hSw); go_simp; try with_reducible rfl)
            try simp only [Act.put, List.setIfInBounds_toArray, List.set_cons_zero, List.set_cons_succ]
            refine wpHead_take (i := 6) (oi := ⟨some 90, _, _, _, _, _⟩) (v := ?_) rfl (by kernel_rfl) (fun _ _ _ h => h) (Or.inl ⟨by rfl, ?_⟩) hHeld ?_
            rotate_left
            · (intro w hSw; (try dsimp only at hSw); go_simp; try with_reducible rfl)
            try simp only [Act.put, List.setIfInBounds_toArray, List.set_cons_zero, List.set_cons_succ]
            refine wpHead_take (i := 7) (oi := ⟨some 91, _, _, _, _, _⟩) (v := ?_) rfl (by kernel_rfl) (fun _ _ _ h => h) (Or.inl ⟨by rfl, ?_⟩) hHeld ?_
            rotate_left
            · (intro w hSw; (try dsimp only at hSw); go_simp; try with_reducible rfl)
            try simp only [Act.put, List.setIfInBounds_toArray, List.set_cons_zero, List.set_cons_succ]
            refine wpHead_take (i := 8) (oi := ⟨some 92, _, _, _, _, _⟩) (v := ?_) rfl (by kernel_rfl) (fun _ _ _ h => h) (Or.inl ⟨by rfl, ?_⟩) hHeld ?_
            rotate_left
            · (intro w hSw; (try dsimp only at hSw); go_simp; try with_reducible rfl)
            try simp only [Act.put, List.setIfInBounds_toArray, List.set_cons_zero, List.set_cons_succ]
            refine wpHead_take (i := 9) (oi := ⟨some 93, _, _, _, _, _⟩) (v := ?_) rfl (by kernel_rfl) (fun _ _ _ h => h) (Or.inl ⟨by rfl, ?_⟩) hHeld ?_
            rotate_left
            · (intro w hSw; (try dsimp only at hSw); go_simp; try with_reducible rfl)
            try simp only [Act.put, List.setIfInBounds_toArray, List.set_cons_zero, List.set_cons_succ]
            refine wpHead_one (i := 10) (o := ⟨some 94, _, _, _, _, _⟩) rfl (by kernel_rfl) (by decide) (fun K hK => ?_)
            go_simp
            skip
            refine hK.out _ _ ?_ (fun hHeld => ?_)
            · exact HSW.out _ ((Fr.refl [] w').drew.alloc _)
            clear hK K
            try simp only [Act.put, List.setIfInBounds_toArray, List.set_cons_zero, List.set_cons_succ]
            refine wpHead_done (by kernel_rfl) ?_
            simp only [List.drop_succ_cons, List.drop_zero]
            clear HSW 
            go_wp2_with (at_builtin; refine wpList_appendL rfl _ _ rfl TW RowV.cells_len RowV.cells_one rfl HOA.out _ _ _ _ ([⟨x0, x1, x2, x3, x4⟩, ⟨y0, y1, y2, y3, y4⟩] : List RowV) rfl rfl HRD.out (Nat.le_trans HJB.out (by decide)) (Nat.le_trans (Nat.mul_le_mul_right 40 HJB.out) (by decide)) ?_; intro v5 w5 hrow5 hg5 hat5; have HR5 := Lib.hid hrow5; have HG5 := Lib.hid hg5; have HA5 := Lib.hid hat5; obtain ⟨A5, n5, cap5, hv5⟩ : ∃ A n c, v5 = .slice A n c := (match hrow5.val with | ⟨_, _, hv⟩ => ⟨_, _, _, hv⟩); subst hv5; clear hrow5 hg5 hat5)
            have R3 := Lib.hid (R2.out.grow (R2 := Pm.flat (Pm.rest ((Pm.pairs L).take (j + 1)) c)) ((Fr.refl [] w').drew.alloc _) (by rw [HT2.out]; exact HR5.out) HG5.out HA5.out)
            have HP3 := Lib.hid (Blk.grown (HP2.out.fr ((Fr.refl [] w').drew.alloc _) (by simp)) HG5.out (fun e => by have h1 := R2.out.own gp e.symm; have h2 := HPW.out; omega))
            go_roundw
            case rel => exact ⟨j + 1, N + 2, true, pr, A5, n5, cap5, rfl, rfl, by go_num, HNJ2, by omega, HJ1, HF2, HP3, R3⟩
            case measure => simp [intOf]; omega
      · have hlt' : ¬ (N : Int) + 1 < (n : Int) := by omega
        have hjl : (Pm.pairs L).take j = Pm.pairs L := List.take_of_length_le (by have := HNJ.out; have := HN.out; have := HPL.out; omega)
        rw [hjl] at R HF
        clear hjl HX HXG
        cases fb
        · have HJ0 : Hid (J = if (sb && decide (u = v)) = true then some (Pm.rest (Pm.pairs L) c) else none) := Lib.hid (by
            rcases HF.out with ⟨-, h⟩ | ⟨h, -⟩
            · rw [HJS.out, h]
            · cases h)
          clear HF HJS
          cases sb
          · go_wp2_with fail
            go_ret2
            (first | exact ⟨_, _, _, false, rfl, LP.no (by rw [HJ0.out]; rfl) (F0.out.trans' R.out.fr (fun i hi => .inr (by rw [List.mem_singleton] at hi; have := HGP.out; omega)))⟩ | exact ⟨_, _, _, .inl ⟨rfl, LP.no (by rw [HJ0.out]; rfl) (F0.out.trans' R.out.fr (fun i hi => .inr (by rw [List.mem_singleton] at hi; have := HGP.out; omega)))⟩⟩)
          · by_cases euv : u = v
            · have e1 : (u == v) = true := by simpa using euv
              replace HJ0 : Hid (J = some (Pm.rest (Pm.pairs L) c)) := Lib.hid (by rw [HJ0.out, decide_eq_true euv]; rfl)
              clear euv
              go_wp2_with fail
              go_ret2
              (first | exact ⟨_, _, _, true, rfl, LP.yes HJ0.out R.out.row (F0.out.trans' R.out.fr (fun i hi => .inr (by rw [List.mem_singleton] at hi; have := HGP.out; omega)))⟩ | exact ⟨_, _, _, .inr ⟨rfl, LP.yes HJ0.out R.out.row (F0.out.trans' R.out.fr (fun i hi => .inr (by rw [List.mem_singleton] at hi; have := HGP.out; omega)))⟩⟩)
            · have e1 : (u == v) = false := by simpa using euv
              replace HJ0 : Hid (J = none) := Lib.hid (by rw [HJ0.out, decide_eq_false euv]; rfl)
              clear euv
              go_wp2_with fail
              go_ret2
              (first | exact ⟨_, _, _, false, rfl, LP.no HJ0.out (F0.out.trans' R.out.fr (fun i hi => .inr (by rw [List.mem_singleton] at hi; have := HGP.out; omega)))⟩ | exact ⟨_, _, _, .inl ⟨rfl, LP.no HJ0.out (F0.out.trans' R.out.fr (fun i hi => .inr (by rw [List.mem_singleton] at hi; have := HGP.out; omega)))⟩⟩)
        · have HJ0 : Hid (J = some (Pm.ins (fun x => Pm.behind q (Pm.rowA c) x.1) (Pm.rowA c, pr) (Pm.rest (Pm.pairs L) c))) := Lib.hid (by
            rcases HF.out with ⟨h, -⟩ | ⟨-, p, h1, h2⟩
            · cases h
            · rw [HJS.out, h1, ← h2])
          clear HF HJS
          have BA := Lib.hid Bra.out
          clear Bra
          generalize Pm.rowA c = y at *
          obtain ⟨M, HM⟩ : ∃ M, Hid (Pm.rest (Pm.pairs L) c = M) := ⟨_, Lib.hid rfl⟩
          obtain ⟨R0, HR0⟩ : ∃ M, Hid (Pm.flat (Pm.rest (Pm.pairs L) c) = M) := ⟨_, Lib.hid rfl⟩
          have HRL : Hid (R0.length ≤ 50000) := Lib.hid (by
            have h1 := HRS.out (Pm.pairs L)
            have := HPL.out
            have := HN.out
            rw [HR0.out] at h1
            omega)
          rw [HR0.out] at R
          rw [HM.out] at HJ0 HR0
          clear HM
          have HML : Hid (R0.length = 2 * M.length) := Lib.hid (by rw [← HR0.out, flat_len2])
          have hno : no = R0.length := R.out.row.blk.1
          subst hno
          have HBE := Lib.hid (fun x W => rbefore_any q y x W)
          have hrb : R0.length ≤ 9223372036854775807 := by have := HRL.out; omega
          go_upto_block 2 with (fail)
          go_cut [20] (fun kv wn => ∃ (jj j : Nat), kv = .int .i64 j ∧ Hid (j = 2 * jj) ∧ jj ≤ M.length ∧ Hid (∀ i (h : i < M.length), i < jj → Pm.behind q y M[i].1 = false) ∧ Hid (∀ h : jj < M.length, Pm.behind q y M[jj].1 = true) ∧ Hid (LoRel [gp] wb wn (.slice Ao R0.length co) R0) ∧ Hid (Blk wn gp 57 #[.int .i64 pr.t, .int .i64 pr.k, .int .i64 pr.x, .int .i64 pr.y, .int .i64 pr.z]))
          case first =>
            go_wp2_with fail
            go_loopw [20] (fun kv wr => ∃ (jj j : Nat), kv = .int .i64 j ∧ Hid (j = 2 * jj) ∧ jj ≤ M.length ∧ Hid (∀ i (h : i < M.length), i < jj → Pm.behind q y M[i].1 = false) ∧ Hid (LoRel [gp] wb wr (.slice Ao R0.length co) R0) ∧ Hid (Blk wr gp 57 #[.int .i64 pr.t, .int .i64 pr.k, .int .i64 pr.x, .int .i64 pr.y, .int .i64 pr.z])) (fun kv _ => R0.length - (intOf kv).toNat)
            case atStart => exact ⟨0, 0, rfl, Lib.hid rfl, Nat.zero_le _, Lib.hid (fun i _ h => absurd h (by omega)), R, HP⟩
            case round =>
              clear R HP
              obtain ⟨jj, j, rfl, HJ2, hjj, HB, RR, HP⟩ := hrel
              by_cases hlt2 : j < R0.length
              · have hjm : jj < M.length := by have := HJ2.out; have := HML.out; omega
                have HXM : Hid (R0[j] = M[jj].1) := Lib.hid (by
                  have h1 := Pm.flat_get M jj hjm (by rw [flat_len2]; omega)
                  rw [← h1]
                  congr 1
                  all_goals first | exact HR0.out.symm | exact HJ2.out)
                have HQW : Hid (QAt wr w.heap.size q) := Lib.hid (AT.out.q.fr RR.out.fr (by have := HGP.out; simp only [List.mem_singleton]; omega))
                have HYW := Lib.hid (BA.out.fr RR.out.fr (by have := HGP.out; simp only [List.mem_singleton]; omega))
                obtain ⟨gR, cap', hA, hlc, hcm, hgl, hcell, hfz⟩ := RR.out.row.form RowV.cells_len (by omega)
                cases hA
                have hck := Lib.hid (fun i (hi : i < 5) => hcell j hlt2 i hi)
                obtain ⟨x, HXJ⟩ : ∃ x, Hid (R0[j] = x) := ⟨_, Lib.hid rfl⟩
                rw [HXJ.out] at HXM hck
                have HBJ := Lib.hid (fun W => HBE.out x W)
                obtain ⟨be, HBB⟩ : ∃ b, Hid (Pm.behind q y x = b) := ⟨_, Lib.hid rfl⟩
                rw [HBB.out] at HBJ
                clear hcell hfz hlc hcm
                have q0 : ∀ p : Later wr, p.w.cell? ⟨w.heap.size, 0, none⟩ = some (.int .i64 q.kind) := fun p => p.cell (Blk.lt HQW.out) (QAt.c0 HQW.out)
                have q1 : ∀ p : Later wr, p.w.cell? ⟨w.heap.size, 1, none⟩ = some (.int .i64 q.table) := fun p => p.cell (Blk.lt HQW.out) (QAt.c1 HQW.out)
                have q2 : ∀ p : Later wr, p.w.cell? ⟨w.heap.size, 2, none⟩ = some (.int .i64 q.column) := fun p => p.cell (Blk.lt HQW.out) (QAt.c2 HQW.out)
                have q3 : ∀ p : Later wr, p.w.cell? ⟨w.heap.size, 3, none⟩ = some (.int .i64 q.low) := fun p => p.cell (Blk.lt HQW.out) (QAt.c3 HQW.out)
                have q4 : ∀ p : Later wr, p.w.cell? ⟨w.heap.size, 4, none⟩ = some (.int .i64 q.high) := fun p => p.cell (Blk.lt HQW.out) (QAt.c4 HQW.out)
                have q5 : ∀ p : Later wr, p.w.cell? ⟨w.heap.size, 5, none⟩ = some (.int .i64 q.by_) := fun p => p.cell (Blk.lt HQW.out) (QAt.c5 HQW.out)
                have q6 : ∀ p : Later wr, p.w.cell? ⟨w.heap.size, 6, none⟩ = some (.int .i64 q.other) := fun p => p.cell (Blk.lt HQW.out) (QAt.c6 HQW.out)
                have y0 : ∀ p : Later wr, p.w.cell? ⟨gra, 0, none⟩ = some (.int .i64 y.t) := fun p => p.cell HYW.out.lt (HYW.out.cell 0)
                have x0 : ∀ p : Later wr, p.w.cell? ⟨gR, j * 5, none⟩ = some (.int .i64 x.t) := fun p => p.cell hgl (hck.out 0 (by decide))
                have y1 : ∀ p : Later wr, p.w.cell? ⟨gra, 1, none⟩ = some (.int .i64 y.k) := fun p => p.cell HYW.out.lt (HYW.out.cell 1)
                have x1 : ∀ p : Later wr, p.w.cell? ⟨gR, j * 5 + 1, none⟩ = some (.int .i64 x.k) := fun p => p.cell hgl (hck.out 1 (by decide))
                have y2 : ∀ p : Later wr, p.w.cell? ⟨gra, 2, none⟩ = some (.int .i64 y.x) := fun p => p.cell HYW.out.lt (HYW.out.cell 2)
                have x2 : ∀ p : Later wr, p.w.cell? ⟨gR, j * 5 + 2, none⟩ = some (.int .i64 x.x) := fun p => p.cell hgl (hck.out 2 (by decide))
                have y3 : ∀ p : Later wr, p.w.cell? ⟨gra, 3, none⟩ = some (.int .i64 y.y) := fun p => p.cell HYW.out.lt (HYW.out.cell 3)
                have x3 : ∀ p : Later wr, p.w.cell? ⟨gR, j * 5 + 3, none⟩ = some (.int .i64 x.y) := fun p => p.cell hgl (hck.out 3 (by decide))
                have y4 : ∀ p : Later wr, p.w.cell? ⟨gra, 4, none⟩ = some (.int .i64 y.z) := fun p => p.cell HYW.out.lt (HYW.out.cell 4)
                have x4 : ∀ p : Later wr, p.w.cell? ⟨gR, j * 5 + 4, none⟩ = some (.int .i64 x.z) := fun p => p.cell hgl (hck.out 4 (by decide))
                clear hck
                have hw2 : IntKind.i64.wrap ((j : Int) + 2) = ((j + 2 : Nat) : Int) := by rw [IntWalk.i64_in _ (by have := HRL.out; omega)]; omega
                go_wp2_with fail
                refine wp_region_later (by kernel_rfl) (by kernel_rfl) ?_
                repeat (go_big_quiet_step (exact Later.calls (HBJ.out _)))
                refine wpQuiet_nil ?_
                rintro w' ⟨⟨wz, fq⟩, rfl⟩
                have R2 := Lib.hid (RR.out.fr0 fq)
                have HP2 := Lib.hid (HP.out.fr fq (by simp))
                clear fq RR HP HBJ hgl HQW HYW q0 q1 q2 q3 q4 q5 q6 y0 x0 y1 x1 y2 x2 y3 x3 y4 x4
                cases be
                · go_wp2_with fail
                  go_roundw
                  case rel => exact ⟨jj + 1, j + 2, by go_num, Lib.hid (by have := HJ2.out; omega), by omega, Lib.hid (fun i hi hij => by
                    rcases Nat.lt_or_ge i jj with h1 | h1
                    · exact HB.out i hi h1
                    · obtain rfl : i = jj := by omega
                      rw [← HXM.out]
                      exact HBB.out), R2, HP2⟩
                  case measure => simp [intOf]; omega
                · go_wp2_with fail
                  go_meet
                  case rel => exact ⟨jj, j, rfl, HJ2, hjj, HB, Lib.hid (fun h => by rw [← HXM.out]; exact HBB.out), R2, HP2⟩
              · have HJE : Hid (¬ jj < M.length) := Lib.hid (by have := HJ2.out; have := HML.out; omega)
                go_wp2_with fail
                go_meet
                case rel => exact ⟨jj, j, rfl, HJ2, hjj, HB, Lib.hid (fun h => absurd h HJE.out), RR, HP⟩
          case rest =>
            clear R HP HBE
            obtain ⟨jj, j, rfl, HJ2, hjj, HB, HJB, RR, HP⟩ := hcut
            have hj : j ≤ R0.length := by have := HJ2.out; have := HML.out; omega
            obtain ⟨R, HRR⟩ : ∃ R, Hid (R0 = R) := ⟨_, Lib.hid rfl⟩
            have HIN : Hid (J = some ((M.take jj ++ [(y, pr)]) ++ M.drop jj)) := Lib.hid (by rw [HJ0.out, Pm.ins_at2 (p := fun x => Pm.behind q y x.1) (x := (y, pr)) hjj HB.out HJB.out])
            have HFL : Hid (Pm.flat ((M.take jj ++ [(y, pr)]) ++ M.drop jj) = (R0.take j ++ [y, pr]) ++ R0.drop j) := Lib.hid (by
              rw [← HR0.out, HJ2.out, Pm.flat_take, Pm.flat_drop, Pm.flat_app, Pm.flat_app]
              rfl)
            have BAW := Lib.hid (BA.out.fr RR.out.fr (by have := HGP.out; simp only [List.mem_singleton]; omega))
            have FR : Hid (Fr [] w wc) := Lib.hid (F0.out.trans' RR.out.fr (fun i hi => .inr (by rw [List.mem_singleton] at hi; have := HGP.out; omega)))
            have HROW := Lib.hid RR.out.row
            rw [HRR.out] at HFL HROW HRL hj ⊢
            clear HRR HML HR0
            have hcb : co ≤ 9223372036854775807 := by
              rcases HROW.out.2 with ⟨hv, _⟩ | ⟨g, c', cur, hv, _, _, _, hcm, _⟩
              · injection hv with _ _ h3
                omega
              · injection hv with _ _ h3
                unfold maxLen at hcm
                omega
            clear HB HJB HJ0 RR BA F0 AT hrb
            obtain ⟨yt, yk, ya, yb, yc⟩ := y
            obtain ⟨pt, pk, pa, pb, pc⟩ := pr
            dsimp only at BAW HP
            rcases Nat.eq_zero_or_pos j with hj0 | hj0
            · subst hj0
              go_wp2_with fail
              have hrow3 := HROW
              have hrd3 := Lib.hid ((hrow3.out).reads rfl)
              have hcap3 : R.length ≤ co := own_cap2 hrow3.out
              have hjco : 0 ≤ co := by omega
              have y00 : wc.cell? ⟨gra, 0, none⟩ = some (.int .i64 yt) := BAW.out.cell 0
              have y01 : wc.cell? ⟨gra, 1, none⟩ = some (.int .i64 yk) := BAW.out.cell 1
              have y02 : wc.cell? ⟨gra, 2, none⟩ = some (.int .i64 ya) := BAW.out.cell 2
              have y03 : wc.cell? ⟨gra, 3, none⟩ = some (.int .i64 yb) := BAW.out.cell 3
              have y04 : wc.cell? ⟨gra, 4, none⟩ = some (.int .i64 yc) := BAW.out.cell 4
              have hlt0 := BAW.out.lt
              have y10 : wc.cell? ⟨gp, 0, none⟩ = some (.int .i64 pt) := HP.out.cell 0
              have y11 : wc.cell? ⟨gp, 1, none⟩ = some (.int .i64 pk) := HP.out.cell 1
              have y12 : wc.cell? ⟨gp, 2, none⟩ = some (.int .i64 pa) := HP.out.cell 2
              have y13 : wc.cell? ⟨gp, 3, none⟩ = some (.int .i64 pb) := HP.out.cell 3
              have y14 : wc.cell? ⟨gp, 4, none⟩ = some (.int .i64 pc) := HP.out.cell 4
              have hlt1 := HP.out.lt
              have hsz : Hid (w.heap.size ≤ wc.heap.size) := Lib.hid FR.out.size
              have hb1 : Hid ([(⟨yt, yk, ya, yb, yc⟩ : RowV), (⟨pt, pk, pa, pb, pc⟩ : RowV)].length + R.length ≤ 60000) := Lib.hid (by have := HRL.out; simp only [List.length_append, List.length_take, List.length_cons, List.length_singleton, List.length_drop, List.length_nil]; omega)
              have hb2 : Hid ((R.take 0).length + ([(⟨yt, yk, ya, yb, yc⟩ : RowV), (⟨pt, pk, pa, pb, pc⟩ : RowV)] ++ R).length ≤ 60000) := Lib.hid (by have := HRL.out; simp only [List.length_append, List.length_take, List.length_cons, List.length_singleton, List.length_drop, List.length_nil]; omega)
              have hmx : Hid ((60000 : Nat) ≤ maxLen) := Lib.hid (by decide)
              first
                | go_region_law (first
                  | (refine step_appendL rfl _ _ rfl TR RowV.cells_len RowV.cells_one rfl (own_two _ (⟨yt, yk, ya, yb, yc⟩ : RowV) (⟨pt, pk, pa, pb, pc⟩ : RowV) RowV.cells_len) _ _ _ _ R rfl rfl (hrd3.out.alloc (Nat.le_refl _) _) (Nat.le_trans hb1.out hmx.out) (Nat.le_trans (Nat.mul_le_mul_right 40 hb1.out) (by decide)) ?_; intro v1 w1' hrow1' hg1 hat1; have hrow1 := Lib.hid hrow1'; have HG1 := Lib.hid hg1; have HA1 := Lib.hid hat1; obtain ⟨A1, n1, cap1, hv1, hn1, hrd1, hn1p⟩ := own_open hrow1' (by simp only [List.length_append, List.length_cons]; omega); subst hv1; have HN1 := Lib.hid hn1; have HRD1 := Lib.hid hrd1; clear hrow1' hg1 hat1 hn1 hrd1)
                  | (refine step_append_fullL rfl _ _ rfl TR RowV.cells_one 0 _ _ _ rfl (L := R.take 0) rfl Reads.none_ (Nat.le_refl _) _ _ _ _ (N := [(⟨yt, yk, ya, yb, yc⟩ : RowV), (⟨pt, pk, pa, pb, pc⟩ : RowV)] ++ R) rfl HN1.out hn1p HRD1.out (Nat.le_trans hb2.out hmx.out) (Nat.le_trans (Nat.mul_le_mul_right 40 hb2.out) (by decide)) ?_; intro v2 w2' hrow2' hg2 hat2; have HR2 := Lib.hid hrow2'; have HG2 := Lib.hid hg2; have HA2 := Lib.hid hat2; obtain ⟨A2, n2, cap2, hv2, hn2, hrd2, hn2p⟩ := own_open hrow2' (by simp only [List.length_append, List.length_cons]; omega); subst hv2; have HN2 := Lib.hid hn2; clear hrow2' hg2 hat2 hn2 hrd2))
                | fail "law"
              all_goals
                have HRn : Hid ((R.take 0) ++ ([(⟨yt, yk, ya, yb, yc⟩ : RowV), (⟨pt, pk, pa, pb, pc⟩ : RowV)] ++ R) = ((R.take 0 ++ [(⟨yt, yk, ya, yb, yc⟩ : RowV), (⟨pt, pk, pa, pb, pc⟩ : RowV)]) ++ R.drop 0)) := Lib.hid (by simp)
                have HFN : Hid (Fr [] w w2') := Lib.hid (((((FR.out).drew).alloc (.cells #[.int .i64 yt, .int .i64 yk, .int .i64 ya, .int .i64 yb, .int .i64 yc, .int .i64 pt, .int .i64 pk, .int .i64 pa, .int .i64 pb, .int .i64 pc] 57)).grown HG1.out (fun g hg => .inr (by
                  have h1 := hsz.out
                  have h5 : wc.heap.size = g := Option.some.inj hg
                  omega))).grown HG2.out (fun g hg => by cases hg))
                have HNW : Hid (∀ g, (Value.slice A2 n2 cap2).ownBlock = some g → w.heap.size ≤ g) := Lib.hid (fun g hg => by
                  have h1 := HA2.out
                  rw [hg] at h1
                  injection h1 with h1
                  have h2 := HG1.out.size
                  have h3 := hsz.out
                  simp at h2
                  omega)
                go_wp2_with fail
                all_goals (go_ret2; (first | exact ⟨_, _, _, true, rfl, LP.yes HIN.out (by rw [HFL.out, ← HRn.out]; exact HR2.out) HFN.out⟩ | exact ⟨_, _, _, .inr ⟨rfl, LP.yes HIN.out (by rw [HFL.out, ← HRn.out]; exact HR2.out) HFN.out⟩⟩))
            · obtain ⟨gO, capO, hAO, _, _, _, _, _⟩ := HROW.out.form RowV.cells_len (by omega)
              cases hAO
              by_cases hjR : j < R.length
              · go_wp2_with fail
                have hrow3 := HROW
                have hrd3 := Lib.hid ((hrow3.out).reads rfl)
                have hcap3 : R.length ≤ co := own_cap2 hrow3.out
                have hjco : j ≤ co := by omega
                have y00 : wc.cell? ⟨gra, 0, none⟩ = some (.int .i64 yt) := BAW.out.cell 0
                have y01 : wc.cell? ⟨gra, 1, none⟩ = some (.int .i64 yk) := BAW.out.cell 1
                have y02 : wc.cell? ⟨gra, 2, none⟩ = some (.int .i64 ya) := BAW.out.cell 2
                have y03 : wc.cell? ⟨gra, 3, none⟩ = some (.int .i64 yb) := BAW.out.cell 3
                have y04 : wc.cell? ⟨gra, 4, none⟩ = some (.int .i64 yc) := BAW.out.cell 4
                have hlt0 := BAW.out.lt
                have y10 : wc.cell? ⟨gp, 0, none⟩ = some (.int .i64 pt) := HP.out.cell 0
                have y11 : wc.cell? ⟨gp, 1, none⟩ = some (.int .i64 pk) := HP.out.cell 1
                have y12 : wc.cell? ⟨gp, 2, none⟩ = some (.int .i64 pa) := HP.out.cell 2
                have y13 : wc.cell? ⟨gp, 3, none⟩ = some (.int .i64 pb) := HP.out.cell 3
                have y14 : wc.cell? ⟨gp, 4, none⟩ = some (.int .i64 pc) := HP.out.cell 4
                have hlt1 := HP.out.lt
                have hsz : Hid (w.heap.size ≤ wc.heap.size) := Lib.hid FR.out.size
                have hjl : Hid ((R.take j).length = j) := Lib.hid (by rw [List.length_take]; omega)
                have htk3 := Lib.hid (hrd3.out.takeL RowV.cells_len (k := j) (by omega))
                have hcne : ¬ co = j := by omega
                have hdr3 := Lib.hid (hrd3.out.from_ RowV.cells_len (k := j) (off := j * 5) (by omega) rfl)
                have hdl3 : Hid (R.length - j = (R.drop j).length) := Lib.hid (by rw [List.length_drop])
                have hb1 : Hid ([(⟨yt, yk, ya, yb, yc⟩ : RowV), (⟨pt, pk, pa, pb, pc⟩ : RowV)].length + (R.drop j).length ≤ 60000) := Lib.hid (by have := HRL.out; simp only [List.length_append, List.length_take, List.length_cons, List.length_singleton, List.length_drop, List.length_nil]; omega)
                have hb2 : Hid ((R.take j).length + ([(⟨yt, yk, ya, yb, yc⟩ : RowV), (⟨pt, pk, pa, pb, pc⟩ : RowV)] ++ (R.drop j)).length ≤ 60000) := Lib.hid (by have := HRL.out; simp only [List.length_append, List.length_take, List.length_cons, List.length_singleton, List.length_drop, List.length_nil]; omega)
                have hmx : Hid ((60000 : Nat) ≤ maxLen) := Lib.hid (by decide)
                have hdrop : Hid ((R.drop j) = R.drop j) := Lib.hid (rfl)
                first
                  | go_region_law (first
                    | (refine step_appendL rfl _ _ rfl TR RowV.cells_len RowV.cells_one rfl (own_two _ (⟨yt, yk, ya, yb, yc⟩ : RowV) (⟨pt, pk, pa, pb, pc⟩ : RowV) RowV.cells_len) _ _ _ _ (R.drop j) rfl hdl3.out (hdr3.out.alloc (Nat.le_refl _) _) (Nat.le_trans hb1.out hmx.out) (Nat.le_trans (Nat.mul_le_mul_right 40 hb1.out) (by decide)) ?_; intro v1 w1' hrow1' hg1 hat1; have htk1 := Lib.hid ((htk3.out.drew.alloc (Nat.le_refl _) (.cells #[.int .i64 yt, .int .i64 yk, .int .i64 ya, .int .i64 yb, .int .i64 yc, .int .i64 pt, .int .i64 pk, .int .i64 pa, .int .i64 pb, .int .i64 pc] 57)).grown hg1 (by rw [World.size_alloc]; exact Nat.le_succ _) (fun g hg => Nat.le_of_eq (Option.some.inj hg))); have hrow1 := Lib.hid hrow1'; have HG1 := Lib.hid hg1; have HA1 := Lib.hid hat1; obtain ⟨A1, n1, cap1, hv1, hn1, hrd1, hn1p⟩ := own_open hrow1' (by simp only [List.length_append, List.length_cons]; omega); subst hv1; have HN1 := Lib.hid hn1; have HRD1 := Lib.hid hrd1; clear hrow1' hg1 hat1 hn1 hrd1)
                    | (refine step_append_fullL rfl _ _ rfl TR RowV.cells_one _ _ _ _ rfl (L := R.take j) hjl.out.symm htk1.out (Nat.le_refl _) _ _ _ _ (N := [(⟨yt, yk, ya, yb, yc⟩ : RowV), (⟨pt, pk, pa, pb, pc⟩ : RowV)] ++ (R.drop j)) rfl HN1.out hn1p HRD1.out (Nat.le_trans hb2.out hmx.out) (Nat.le_trans (Nat.mul_le_mul_right 40 hb2.out) (by decide)) ?_; intro v2 w2' hrow2' hg2 hat2; have HR2 := Lib.hid hrow2'; have HG2 := Lib.hid hg2; have HA2 := Lib.hid hat2; obtain ⟨A2, n2, cap2, hv2, hn2, hrd2, hn2p⟩ := own_open hrow2' (by simp only [List.length_append, List.length_cons]; omega); subst hv2; have HN2 := Lib.hid hn2; clear hrow2' hg2 hat2 hn2 hrd2))
                  | fail "law"
                all_goals
                  have HRn : Hid ((R.take j) ++ ([(⟨yt, yk, ya, yb, yc⟩ : RowV), (⟨pt, pk, pa, pb, pc⟩ : RowV)] ++ (R.drop j)) = ((R.take j ++ [(⟨yt, yk, ya, yb, yc⟩ : RowV), (⟨pt, pk, pa, pb, pc⟩ : RowV)]) ++ R.drop j)) := Lib.hid (by rw [List.append_assoc])
                  have HFN : Hid (Fr [] w w2') := Lib.hid (((((FR.out).drew).alloc (.cells #[.int .i64 yt, .int .i64 yk, .int .i64 ya, .int .i64 yb, .int .i64 yc, .int .i64 pt, .int .i64 pk, .int .i64 pa, .int .i64 pb, .int .i64 pc] 57)).grown HG1.out (fun g hg => .inr (by
                    have h1 := hsz.out
                    have h5 : wc.heap.size = g := Option.some.inj hg
                    omega))).grown HG2.out (fun g hg => by cases hg))
                  have HNW : Hid (∀ g, (Value.slice A2 n2 cap2).ownBlock = some g → w.heap.size ≤ g) := Lib.hid (fun g hg => by
                    have h1 := HA2.out
                    rw [hg] at h1
                    injection h1 with h1
                    have h2 := HG1.out.size
                    have h3 := hsz.out
                    simp at h2
                    omega)
                  go_wp2_with fail
                  all_goals (go_ret2; (first | exact ⟨_, _, _, true, rfl, LP.yes HIN.out (by rw [HFL.out, ← HRn.out]; exact HR2.out) HFN.out⟩ | exact ⟨_, _, _, .inr ⟨rfl, LP.yes HIN.out (by rw [HFL.out, ← HRn.out]; exact HR2.out) HFN.out⟩⟩))
              · go_wp2_with fail
                have hrow3 := HROW
                have hrd3 := Lib.hid ((hrow3.out).reads rfl)
                have hcap3 : R.length ≤ co := own_cap2 hrow3.out
                have hjco : j ≤ co := by omega
                have y00 : wc.cell? ⟨gra, 0, none⟩ = some (.int .i64 yt) := BAW.out.cell 0
                have y01 : wc.cell? ⟨gra, 1, none⟩ = some (.int .i64 yk) := BAW.out.cell 1
                have y02 : wc.cell? ⟨gra, 2, none⟩ = some (.int .i64 ya) := BAW.out.cell 2
                have y03 : wc.cell? ⟨gra, 3, none⟩ = some (.int .i64 yb) := BAW.out.cell 3
                have y04 : wc.cell? ⟨gra, 4, none⟩ = some (.int .i64 yc) := BAW.out.cell 4
                have hlt0 := BAW.out.lt
                have y10 : wc.cell? ⟨gp, 0, none⟩ = some (.int .i64 pt) := HP.out.cell 0
                have y11 : wc.cell? ⟨gp, 1, none⟩ = some (.int .i64 pk) := HP.out.cell 1
                have y12 : wc.cell? ⟨gp, 2, none⟩ = some (.int .i64 pa) := HP.out.cell 2
                have y13 : wc.cell? ⟨gp, 3, none⟩ = some (.int .i64 pb) := HP.out.cell 3
                have y14 : wc.cell? ⟨gp, 4, none⟩ = some (.int .i64 pc) := HP.out.cell 4
                have hlt1 := HP.out.lt
                have hsz : Hid (w.heap.size ≤ wc.heap.size) := Lib.hid FR.out.size
                have hjl : Hid ((R.take j).length = j) := Lib.hid (by rw [List.length_take]; omega)
                have htk3 := Lib.hid (hrd3.out.takeL RowV.cells_len (k := j) (by omega))
                have hdl3 : Hid (R.length - j = ([] : List RowV).length) := Lib.hid (by simp; omega)
                have hb1 : Hid ([(⟨yt, yk, ya, yb, yc⟩ : RowV), (⟨pt, pk, pa, pb, pc⟩ : RowV)].length + ([] : List RowV).length ≤ 60000) := Lib.hid (by have := HRL.out; simp only [List.length_append, List.length_take, List.length_cons, List.length_singleton, List.length_drop, List.length_nil]; omega)
                have hb2 : Hid ((R.take j).length + ([(⟨yt, yk, ya, yb, yc⟩ : RowV), (⟨pt, pk, pa, pb, pc⟩ : RowV)] ++ ([] : List RowV)).length ≤ 60000) := Lib.hid (by have := HRL.out; simp only [List.length_append, List.length_take, List.length_cons, List.length_singleton, List.length_drop, List.length_nil]; omega)
                have hmx : Hid ((60000 : Nat) ≤ maxLen) := Lib.hid (by decide)
                have hdrop : Hid (([] : List RowV) = R.drop j) := Lib.hid ((List.drop_eq_nil_of_le (by omega)).symm)
                first
                  | go_region_law (first
                    | (refine step_appendL rfl _ _ rfl TR RowV.cells_len RowV.cells_one rfl (own_two _ (⟨yt, yk, ya, yb, yc⟩ : RowV) (⟨pt, pk, pa, pb, pc⟩ : RowV) RowV.cells_len) 0 _ _ _ ([] : List RowV) rfl hdl3.out (reads_none hdl3.out) (Nat.le_trans hb1.out hmx.out) (Nat.le_trans (Nat.mul_le_mul_right 40 hb1.out) (by decide)) ?_; intro v1 w1' hrow1' hg1 hat1; have htk1 := Lib.hid ((htk3.out.drew.alloc (Nat.le_refl _) (.cells #[.int .i64 yt, .int .i64 yk, .int .i64 ya, .int .i64 yb, .int .i64 yc, .int .i64 pt, .int .i64 pk, .int .i64 pa, .int .i64 pb, .int .i64 pc] 57)).grown hg1 (by rw [World.size_alloc]; exact Nat.le_succ _) (fun g hg => Nat.le_of_eq (Option.some.inj hg))); have hrow1 := Lib.hid hrow1'; have HG1 := Lib.hid hg1; have HA1 := Lib.hid hat1; obtain ⟨A1, n1, cap1, hv1, hn1, hrd1, hn1p⟩ := own_open hrow1' (by simp only [List.length_append, List.length_cons]; omega); subst hv1; have HN1 := Lib.hid hn1; have HRD1 := Lib.hid hrd1; clear hrow1' hg1 hat1 hn1 hrd1)
                    | (refine step_append_fullL rfl _ _ rfl TR RowV.cells_one _ _ _ _ rfl (L := R.take j) hjl.out.symm htk1.out (Nat.le_refl _) _ _ _ _ (N := [(⟨yt, yk, ya, yb, yc⟩ : RowV), (⟨pt, pk, pa, pb, pc⟩ : RowV)] ++ ([] : List RowV)) rfl HN1.out hn1p HRD1.out (Nat.le_trans hb2.out hmx.out) (Nat.le_trans (Nat.mul_le_mul_right 40 hb2.out) (by decide)) ?_; intro v2 w2' hrow2' hg2 hat2; have HR2 := Lib.hid hrow2'; have HG2 := Lib.hid hg2; have HA2 := Lib.hid hat2; obtain ⟨A2, n2, cap2, hv2, hn2, hrd2, hn2p⟩ := own_open hrow2' (by simp only [List.length_append, List.length_cons]; omega); subst hv2; have HN2 := Lib.hid hn2; clear hrow2' hg2 hat2 hn2 hrd2))
                  | fail "law"
                all_goals
                  have HRn : Hid ((R.take j) ++ ([(⟨yt, yk, ya, yb, yc⟩ : RowV), (⟨pt, pk, pa, pb, pc⟩ : RowV)] ++ ([] : List RowV)) = ((R.take j ++ [(⟨yt, yk, ya, yb, yc⟩ : RowV), (⟨pt, pk, pa, pb, pc⟩ : RowV)]) ++ R.drop j)) := Lib.hid (by rw [← hdrop.out, List.append_assoc])
                  have HFN : Hid (Fr [] w w2') := Lib.hid (((((FR.out).drew).alloc (.cells #[.int .i64 yt, .int .i64 yk, .int .i64 ya, .int .i64 yb, .int .i64 yc, .int .i64 pt, .int .i64 pk, .int .i64 pa, .int .i64 pb, .int .i64 pc] 57)).grown HG1.out (fun g hg => .inr (by
                    have h1 := hsz.out
                    have h5 : wc.heap.size = g := Option.some.inj hg
                    omega))).grown HG2.out (fun g hg => by cases hg))
                  have HNW : Hid (∀ g, (Value.slice A2 n2 cap2).ownBlock = some g → w.heap.size ≤ g) := Lib.hid (fun g hg => by
                    have h1 := HA2.out
                    rw [hg] at h1
                    injection h1 with h1
                    have h2 := HG1.out.size
                    have h3 := hsz.out
                    simp at h2
                    omega)
                  go_wp2_with fail
                  all_goals (go_ret2; (first | exact ⟨_, _, _, true, rfl, LP.yes HIN.out (by rw [HFL.out, ← HRn.out]; exact HR2.out) HFN.out⟩ | exact ⟨_, _, _, .inr ⟨rfl, LP.yes HIN.out (by rw [HFL.out, ← HRn.out]; exact HR2.out) HFN.out⟩⟩))
end Go.Proofs.Ytjiikpmkedkbkaa
