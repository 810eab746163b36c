/-
  Builtins on rows that are written in place: clear, copy, an element put into a row.
-/
import Derived.Test.YtjiikpmkedkbkaaFc
import Derived.Test.YtjiikpmkedkbkaaFa
import Derived.BigQuiet
import Derived.Deep.RegionHeld3
import Derived.Lib.AppendZerosOnto
import Derived.Lib.Overlaps
namespace Go.Proofs.Ytjiikpmkedkbkaa
open Go.RowKit

theorem PtrR.isSome {w : World} {p : Option Addr} {x : Option RowV} (h : PtrR w p x) : p.isSome = x.isSome := by
  cases x with
  | none =>
    have h' : p = none := h
    rw [h']
    rfl
  | some r =>
    obtain ⟨g, e, _⟩ := h
    rw [e]
    rfl
/-- A function value that has captured nothing. -/
abbrev fnV (n : Nat) : Value := .func (.func n) #[] #[]
set_option maxRecDepth 100000 in
set_option maxHeartbeats 2000000 in
theorem pany_any (q : Qry) (c : Chg) (pb pa : Option Addr) (u v : Int) (w : World) : Calls Try.prog 48 #[.agg (effArr q c pb pa u v)] w fun e w' => e = .returned (.bool (pb.isSome || pa.isSome)) ∧ Fr [] w w' := by
  have F0 : Hid (Fr [] w (w.alloc (.cells (effArr q c pb pa u v) 78))) := Lib.hid ((Fr.refl _ _).alloc _)
  have HB := Lib.hid (EffAt.new w q c pb pa u v)
  go_enter Try.func48, Try.ntmps48
  go_upto_region 1 with (fail)
  generalize w.alloc (.cells (effArr q c pb pa u v) 78) = w1 at *
  have e17 := HB.out.c17
  have e18 := HB.out.c18
  cases pb with
  | none =>
    cases pa with
    | none => go_wp2; go_ret; exact ⟨rfl, F0.out⟩
    | some a => go_wp2; go_ret; exact ⟨rfl, F0.out⟩
  | some b => go_wp2; go_ret; exact ⟨rfl, F0.out⟩
set_option maxRecDepth 100000 in
set_option maxHeartbeats 2000000 in
theorem pone_any (q : Qry) (c : Chg) (pb pa : Option Addr) (u v : Int) (w : World) : Calls Try.prog 50 #[.agg (effArr q c pb pa u v)] w fun e w' => e = .returned (.bool (pb.isSome != pa.isSome)) ∧ Fr [] w w' := by
  have F0 : Hid (Fr [] w (w.alloc (.cells (effArr q c pb pa u v) 78))) := Lib.hid ((Fr.refl _ _).alloc _)
  have HB := Lib.hid (EffAt.new w q c pb pa u v)
  go_enter Try.func50, Try.ntmps50
  go_upto_region 1 with (fail)
  generalize w.alloc (.cells (effArr q c pb pa u v) 78) = w1 at *
  have e17 := HB.out.c17
  have e18 := HB.out.c18
  cases pb with
  | none =>
    cases pa with
    | none => go_wp2; go_ret; exact ⟨rfl, F0.out⟩
    | some a => go_wp2; go_ret; exact ⟨rfl, F0.out⟩
  | some b =>
    cases pa with
    | none => go_wp2; go_ret; exact ⟨rfl, F0.out⟩
    | some a => go_wp2; go_ret; exact ⟨rfl, F0.out⟩
set_option maxRecDepth 100000 in
set_option maxHeartbeats 2000000 in
theorem psum_t (q : Qry) (c : Chg) (pb pa : Option Addr) (u v : Int) (w : World) : Calls Try.prog 52 #[.agg (effArr q c pb pa u v)] w fun e w' => e = .returned (.bool (!decide (u = v))) ∧ Fr [] w w' := by
  have F0 : Hid (Fr [] w (w.alloc (.cells (effArr q c pb pa u v) 78))) := Lib.hid ((Fr.refl _ _).alloc _)
  have HB := Lib.hid (EffAt.new w q c pb pa u v)
  go_enter Try.func52, Try.ntmps52
  go_upto_region 1 with (fail)
  generalize w.alloc (.cells (effArr q c pb pa u v) 78) = w1 at *
  have e19 := HB.out.c19
  have e20 := HB.out.c20
  by_cases h : u = v
  · have e : (u != v) = false := by simp [h]
    go_wp2
    go_ret
    exact ⟨by simp [h], F0.out⟩
  · have e : (u != v) = true := by simp [h]
    go_wp2
    go_ret
    exact ⟨by simp [h], F0.out⟩
set_option maxRecDepth 100000 in
set_option maxHeartbeats 2000000 in
theorem pmin_t (q : Qry) (c : Chg) (pb pa : Option Addr) (u v : Int) (w : World) : Calls Try.prog 54 #[.agg (effArr q c pb pa u v)] w fun e w' => e = .returned (.bool ((pb.isSome != pa.isSome) || !decide (u = v))) ∧ Fr [] w w' := by
  have F0 : Hid (Fr [] w (w.alloc (.cells (effArr q c pb pa u v) 78))) := Lib.hid ((Fr.refl _ _).alloc _)
  have HB := Lib.hid (EffAt.new w q c pb pa u v)
  have HO := Lib.hid (pone_any q c pb pa u v)
  go_enter Try.func54, Try.ntmps54
  go_upto_region 1 with (fail)
  generalize w.alloc (.cells (effArr q c pb pa u v) 78) = w1 at *
  have HE := HB.out
  cases h1 : (pb.isSome != pa.isSome) with
  | true =>
    go_wp2_with (first
      | (refine wpList_load_row rfl _ _ rfl w.heap.size rfl 78 _ (0, 0) _ HE Try.underlying78 rfl (by kernel_rfl) ?_)
      | (go_at_call 50; refine (HO.out _).mono ?_; rintro e w2 ⟨rfl, f2⟩; rw [h1]; have F2 := Lib.hid (F0.out.trans f2); clear f2))
    go_ret
    exact ⟨by simp [h1], F2.out⟩
  | false =>
    by_cases h : u = v
    · subst h
      have e : (u != u) = false := by simp
      go_wp2_with (first
        | (refine wpList_load_row rfl _ _ rfl w.heap.size rfl 78 _ (0, 0) _ HE Try.underlying78 rfl (by kernel_rfl) ?_)
        | (go_at_call 50; refine (HO.out _).mono ?_; rintro e w2 ⟨rfl, f2⟩; rw [h1]; have F2 := Lib.hid (F0.out.trans f2); have e19 := (HB.out.fr0 f2).c19; have e20 := (HB.out.fr0 f2).c20; clear f2))
      go_ret
      exact ⟨by simp, F2.out⟩
    · have e : (u != v) = true := by simp [h]
      go_wp2_with (first
        | (refine wpList_load_row rfl _ _ rfl w.heap.size rfl 78 _ (0, 0) _ HE Try.underlying78 rfl (by kernel_rfl) ?_)
        | (go_at_call 50; refine (HO.out _).mono ?_; rintro e w2 ⟨rfl, f2⟩; rw [h1]; have F2 := Lib.hid (F0.out.trans f2); have e19 := (HB.out.fr0 f2).c19; have e20 := (HB.out.fr0 f2).c20; clear f2))
      go_ret
      exact ⟨by simp [h, h1], F2.out⟩
set_option maxRecDepth 100000 in
set_option maxHeartbeats 2000000 in
theorem pmax_t (q : Qry) (c : Chg) (pb pa : Option Addr) (u v : Int) (w : World) : Calls Try.prog 57 #[.agg (effArr q c pb pa u v)] w fun e w' => e = .returned (.bool ((pb.isSome != pa.isSome) || !decide (u = v))) ∧ Fr [] w w' := by
  have F0 : Hid (Fr [] w (w.alloc (.cells (effArr q c pb pa u v) 78))) := Lib.hid ((Fr.refl _ _).alloc _)
  have HB := Lib.hid (EffAt.new w q c pb pa u v)
  have HO := Lib.hid (pone_any q c pb pa u v)
  go_enter Try.func57, Try.ntmps57
  go_upto_region 1 with (fail)
  generalize w.alloc (.cells (effArr q c pb pa u v) 78) = w1 at *
  have HE := HB.out
  cases h1 : (pb.isSome != pa.isSome) with
  | true =>
    go_wp2_with (first
      | (refine wpList_load_row rfl _ _ rfl w.heap.size rfl 78 _ (0, 0) _ HE Try.underlying78 rfl (by kernel_rfl) ?_)
      | (go_at_call 50; refine (HO.out _).mono ?_; rintro e w2 ⟨rfl, f2⟩; rw [h1]; have F2 := Lib.hid (F0.out.trans f2); clear f2))
    go_ret
    exact ⟨by simp [h1], F2.out⟩
  | false =>
    by_cases h : u = v
    · subst h
      have e : (u != u) = false := by simp
      go_wp2_with (first
        | (refine wpList_load_row rfl _ _ rfl w.heap.size rfl 78 _ (0, 0) _ HE Try.underlying78 rfl (by kernel_rfl) ?_)
        | (go_at_call 50; refine (HO.out _).mono ?_; rintro e w2 ⟨rfl, f2⟩; rw [h1]; have F2 := Lib.hid (F0.out.trans f2); have e19 := (HB.out.fr0 f2).c19; have e20 := (HB.out.fr0 f2).c20; clear f2))
      go_ret
      exact ⟨by simp, F2.out⟩
    · have e : (u != v) = true := by simp [h]
      go_wp2_with (first
        | (refine wpList_load_row rfl _ _ rfl w.heap.size rfl 78 _ (0, 0) _ HE Try.underlying78 rfl (by kernel_rfl) ?_)
        | (go_at_call 50; refine (HO.out _).mono ?_; rintro e w2 ⟨rfl, f2⟩; rw [h1]; have F2 := Lib.hid (F0.out.trans f2); have e19 := (HB.out.fr0 f2).c19; have e20 := (HB.out.fr0 f2).c20; clear f2))
      go_ret
      exact ⟨by simp [h, h1], F2.out⟩
set_option maxRecDepth 100000 in
set_option maxHeartbeats 2000000 in
theorem pjoin_t (q : Qry) (c : Chg) (pb pa : Option Addr) (u v : Int) (w : World) : Calls Try.prog 59 #[.agg (effArr q c pb pa u v)] w fun e w' => e = .returned (.bool ((pb.isSome || pa.isSome) || decide (c.t = q.other))) ∧ Fr [] w w' := by
  have F0 : Hid (Fr [] w (w.alloc (.cells (effArr q c pb pa u v) 78))) := Lib.hid ((Fr.refl _ _).alloc _)
  have HB := Lib.hid (EffAt.new w q c pb pa u v)
  have HO := Lib.hid (pany_any q c pb pa u v)
  go_enter Try.func59, Try.ntmps59
  go_upto_region 1 with (fail)
  generalize w.alloc (.cells (effArr q c pb pa u v) 78) = w1 at *
  have HE := HB.out
  cases h1 : (pb.isSome || pa.isSome) with
  | true =>
    go_wp2_with (first
      | (refine wpList_load_row rfl _ _ rfl w.heap.size rfl 78 _ (0, 0) _ HE Try.underlying78 rfl (by kernel_rfl) ?_)
      | (go_at_call 48; refine (HO.out _).mono ?_; rintro e w2 ⟨rfl, f2⟩; rw [h1]; have F2 := Lib.hid (F0.out.trans f2); clear f2))
    go_ret
    exact ⟨by simp [h1], F2.out⟩
  | false =>
    go_wp2_with (first
      | (refine wpList_load_row rfl _ _ rfl w.heap.size rfl 78 _ (0, 0) _ HE Try.underlying78 rfl (by kernel_rfl) ?_)
      | (go_at_call 48; refine (HO.out _).mono ?_; rintro e w2 ⟨rfl, f2⟩; rw [h1]; have F2 := Lib.hid (F0.out.trans f2); have e7 := (HB.out.fr0 f2).c7; have e6 := (HB.out.fr0 f2).c6; clear f2))
    go_ret
    exact ⟨by rw [h1]; rfl, F2.out⟩
theorem pless_any (a b : Int) (w : World) : Calls Try.prog 56 #[.int .i64 a, .int .i64 b] w fun e w' => e = .returned (.bool (decide (a < b))) ∧ w = w' := by
  go_enter Try.func56, Try.ntmps56
  go_wp2
  go_ret
  exact ⟨rfl, rfl⟩
theorem pmore_any (a b : Int) (w : World) : Calls Try.prog 58 #[.int .i64 a, .int .i64 b] w fun e w' => e = .returned (.bool (decide (b < a))) ∧ w = w' := by
  go_enter Try.func58, Try.ntmps58
  go_wp2
  go_ret
  exact ⟨rfl, rfl⟩
set_option maxRecDepth 100000 in
theorem pextreme_any (lf : Nat) (w : World) : Calls Try.prog 55 #[fnV lf] w fun e w' => e = .returned (.func (.func 74) #[] #[.pointer (some ⟨w.heap.size, 0, none⟩)]) ∧ w' = w.alloc (.cells #[fnV lf] 95) := by
  go_enter Try.func55, Try.ntmps55
  go_wp2
  go_ret
  exact ⟨rfl, rfl⟩
set_option maxRecDepth 100000 in
set_option maxHeartbeats 2000000 in
theorem pcount_any (q : Qry) (c : Chg) (pb pa : Option Addr) (u v : Int) (X : Option Addr) (n cap : Nat) (m : Int) (f : Bool) (w : World) : Calls Try.prog 51 #[.agg (effArr q c pb pa u v), .agg #[.slice X n cap, .int .i64 m, .bool f]] w fun e w' => e = .returned (.tuple #[.agg #[.slice X n cap, .int .i64 (if pa.isSome = true then wrap64 (m + 1) else wrap64 (m - 1)), .bool f], .bool true]) ∧ Fr [] w w' := by
  have F0 : Hid (Fr [] w (((w.alloc (.cells (effArr q c pb pa u v) 78)).alloc (.cells #[.slice X n cap, .int .i64 m, .bool f] 27)).alloc (.cells #[.slice none 0 0, .int .i64 0, .bool false] 27))) := Lib.hid ((((Fr.refl _ _).alloc _).alloc _).alloc _)
  have HB : Hid (EffAt (((w.alloc (.cells (effArr q c pb pa u v) 78)).alloc (.cells #[.slice X n cap, .int .i64 m, .bool f] 27)).alloc (.cells #[.slice none 0 0, .int .i64 0, .bool false] 27)) w.heap.size q c pb pa u v) := Lib.hid (Blk.alloc (Blk.alloc (EffAt.new w q c pb pa u v) _) _)
  have hr := Blk.new (w.alloc (.cells (effArr q c pb pa u v) 78)) 27 #[.slice X n cap, .int .i64 m, .bool f]
  rw [World.size_alloc] at hr
  have HR : Hid (Blk (((w.alloc (.cells (effArr q c pb pa u v) 78)).alloc (.cells #[.slice X n cap, .int .i64 m, .bool f] 27)).alloc (.cells #[.slice none 0 0, .int .i64 0, .bool false] 27)) (w.heap.size + 1) 27 #[.slice X n cap, .int .i64 m, .bool f]) := Lib.hid (hr.alloc _)
  have hz := Blk.new ((w.alloc (.cells (effArr q c pb pa u v) 78)).alloc (.cells #[.slice X n cap, .int .i64 m, .bool f] 27)) 27 #[.slice none 0 0, .int .i64 0, .bool false]
  rw [World.size_alloc, World.size_alloc] at hz
  have HZ := Lib.hid hz
  clear hr hz
  go_enter Try.func51, Try.ntmps51
  go_upto_region 1 with (fail)
  generalize ((w.alloc (.cells (effArr q c pb pa u v) 78)).alloc (.cells #[.slice X n cap, .int .i64 m, .bool f] 27)).alloc (.cells #[.slice none 0 0, .int .i64 0, .bool false] 27) = w1 at *
  have r1 := HR.out.cell 1
  have y1 := HR.out.frozen 1
  have e18 := HB.out.c18
  cases pa with
  | none =>
    go_upto_region 4 with (fail)
    have hf2 : Fr [w.heap.size + 1] w1 (w1.setCell ⟨w.heap.size + 1, 1, none⟩ (.int .i64 (wrap64 (m - 1)))) := (Fr.refl _ _).setCell (.inl (by simp)) _
    have HR2 : Blk (w1.setCell ⟨w.heap.size + 1, 1, none⟩ (.int .i64 (wrap64 (m - 1)))) (w.heap.size + 1) 27 #[.slice X n cap, .int .i64 (wrap64 (m - 1)), .bool f] := HR.out.set_ 1 _
    have HZ2 := HZ.out.fr hf2 (by simp)
    have F2 := Lib.hid (F0.out.trans' hf2 (by simp))
    generalize w1.setCell ⟨w.heap.size + 1, 1, none⟩ (.int .i64 (wrap64 (m - 1))) = w2 at *
    go_wp2_with (first
      | (refine wpList_load_row rfl _ _ rfl (w.heap.size + 1) rfl 27 _ (0, 0) _ HR2 Try.underlying27 rfl (by kernel_rfl) ?_)
      | (refine wpList_store_blk rfl _ _ _ rfl (w.heap.size + 1 + 1) #[.slice X n cap, .int .i64 (wrap64 (m - 1)), .bool f] rfl rfl 27 _ HZ2 (by kernel_rfl) rfl rfl ?_; intro w3 hb3 hf3; have HB3 := Lib.hid hb3; have F3 := Lib.hid (F2.out.trans' hf3 (fun i hi => .inr (by rw [List.mem_singleton] at hi; omega))); clear hb3 hf3))
    have q0 := HB3.out.cell 0
    have q1 := HB3.out.cell 1
    have q2 := HB3.out.cell 2
    exact bodyPost_ret (v := .tuple #[.agg #[.slice X n cap, .int .i64 (wrap64 (m - 1)), .bool f], .bool true]) (by simp [results, Try.results51, go_sem, q0, q1, q2]) rfl ⟨rfl, F3.out⟩
  | some a =>
    go_upto_region 4 with (fail)
    have hf2 : Fr [w.heap.size + 1] w1 (w1.setCell ⟨w.heap.size + 1, 1, none⟩ (.int .i64 (wrap64 (m + 1)))) := (Fr.refl _ _).setCell (.inl (by simp)) _
    have HR2 : Blk (w1.setCell ⟨w.heap.size + 1, 1, none⟩ (.int .i64 (wrap64 (m + 1)))) (w.heap.size + 1) 27 #[.slice X n cap, .int .i64 (wrap64 (m + 1)), .bool f] := HR.out.set_ 1 _
    have HZ2 := HZ.out.fr hf2 (by simp)
    have F2 := Lib.hid (F0.out.trans' hf2 (by simp))
    generalize w1.setCell ⟨w.heap.size + 1, 1, none⟩ (.int .i64 (wrap64 (m + 1))) = w2 at *
    go_wp2_with (first
      | (refine wpList_load_row rfl _ _ rfl (w.heap.size + 1) rfl 27 _ (0, 0) _ HR2 Try.underlying27 rfl (by kernel_rfl) ?_)
      | (refine wpList_store_blk rfl _ _ _ rfl (w.heap.size + 1 + 1) #[.slice X n cap, .int .i64 (wrap64 (m + 1)), .bool f] rfl rfl 27 _ HZ2 (by kernel_rfl) rfl rfl ?_; intro w3 hb3 hf3; have HB3 := Lib.hid hb3; have F3 := Lib.hid (F2.out.trans' hf3 (fun i hi => .inr (by rw [List.mem_singleton] at hi; omega))); clear hb3 hf3))
    have q0 := HB3.out.cell 0
    have q1 := HB3.out.cell 1
    have q2 := HB3.out.cell 2
    exact bodyPost_ret (v := .tuple #[.agg #[.slice X n cap, .int .i64 (wrap64 (m + 1)), .bool f], .bool true]) (by simp [results, Try.results51, go_sem, q0, q1, q2]) rfl ⟨rfl, F3.out⟩
set_option maxRecDepth 100000 in
set_option maxHeartbeats 2000000 in
theorem psum_any (q : Qry) (c : Chg) (pb pa : Option Addr) (u v : Int) (X : Option Addr) (n cap : Nat) (m : Int) (f : Bool) (w : World) : Calls Try.prog 53 #[.agg (effArr q c pb pa u v), .agg #[.slice X n cap, .int .i64 m, .bool f]] w fun e w' => e = .returned (.tuple #[.agg #[.slice X n cap, .int .i64 (wrap64 (m + wrap64 (v - u))), .bool f], .bool true]) ∧ Fr [] w w' := by
  have F0 : Hid (Fr [] w (((w.alloc (.cells (effArr q c pb pa u v) 78)).alloc (.cells #[.slice X n cap, .int .i64 m, .bool f] 27)).alloc (.cells #[.slice none 0 0, .int .i64 0, .bool false] 27))) := Lib.hid ((((Fr.refl _ _).alloc _).alloc _).alloc _)
  have HB : Hid (EffAt (((w.alloc (.cells (effArr q c pb pa u v) 78)).alloc (.cells #[.slice X n cap, .int .i64 m, .bool f] 27)).alloc (.cells #[.slice none 0 0, .int .i64 0, .bool false] 27)) w.heap.size q c pb pa u v) := Lib.hid (Blk.alloc (Blk.alloc (EffAt.new w q c pb pa u v) _) _)
  have hr := Blk.new (w.alloc (.cells (effArr q c pb pa u v) 78)) 27 #[.slice X n cap, .int .i64 m, .bool f]
  rw [World.size_alloc] at hr
  have HR : Hid (Blk (((w.alloc (.cells (effArr q c pb pa u v) 78)).alloc (.cells #[.slice X n cap, .int .i64 m, .bool f] 27)).alloc (.cells #[.slice none 0 0, .int .i64 0, .bool false] 27)) (w.heap.size + 1) 27 #[.slice X n cap, .int .i64 m, .bool f]) := Lib.hid (hr.alloc _)
  have hz := Blk.new ((w.alloc (.cells (effArr q c pb pa u v) 78)).alloc (.cells #[.slice X n cap, .int .i64 m, .bool f] 27)) 27 #[.slice none 0 0, .int .i64 0, .bool false]
  rw [World.size_alloc, World.size_alloc] at hz
  have HZ := Lib.hid hz
  clear hr hz
  go_enter Try.func53, Try.ntmps53
  go_upto_region 1 with (fail)
  generalize ((w.alloc (.cells (effArr q c pb pa u v) 78)).alloc (.cells #[.slice X n cap, .int .i64 m, .bool f] 27)).alloc (.cells #[.slice none 0 0, .int .i64 0, .bool false] 27) = w1 at *
  have r1 := HR.out.cell 1
  have y1 := HR.out.frozen 1
  have e19 := HB.out.c19
  have e20 := HB.out.c20
  go_upto_region 2 with (fail)
  have hf2 : Fr [w.heap.size + 1] w1 (w1.setCell ⟨w.heap.size + 1, 1, none⟩ (.int .i64 (wrap64 (m + wrap64 (v - u))))) := (Fr.refl _ _).setCell (.inl (by simp)) _
  have HR2 : Blk (w1.setCell ⟨w.heap.size + 1, 1, none⟩ (.int .i64 (wrap64 (m + wrap64 (v - u))))) (w.heap.size + 1) 27 #[.slice X n cap, .int .i64 (wrap64 (m + wrap64 (v - u))), .bool f] := HR.out.set_ 1 _
  have HZ2 := HZ.out.fr hf2 (by simp)
  have F2 := Lib.hid (F0.out.trans' hf2 (by simp))
  generalize w1.setCell ⟨w.heap.size + 1, 1, none⟩ (.int .i64 (wrap64 (m + wrap64 (v - u)))) = w2 at *
  go_wp2_with (first
    | (refine wpList_load_row rfl _ _ rfl (w.heap.size + 1) rfl 27 _ (0, 0) _ HR2 Try.underlying27 rfl (by kernel_rfl) ?_)
    | (refine wpList_store_blk rfl _ _ _ rfl (w.heap.size + 1 + 1) #[.slice X n cap, .int .i64 (wrap64 (m + wrap64 (v - u))), .bool f] rfl rfl 27 _ HZ2 (by kernel_rfl) rfl rfl ?_; intro w3 hb3 hf3; have HB3 := Lib.hid hb3; have F3 := Lib.hid (F2.out.trans' hf3 (fun i hi => .inr (by rw [List.mem_singleton] at hi; omega))); clear hb3 hf3))
  have q0 := HB3.out.cell 0
  have q1 := HB3.out.cell 1
  have q2 := HB3.out.cell 2
  exact bodyPost_ret (v := .tuple #[.agg #[.slice X n cap, .int .i64 (wrap64 (m + wrap64 (v - u))), .bool f], .bool true]) (by simp [results, Try.results53, go_sem, q0, q1, q2]) rfl ⟨rfl, F3.out⟩
end Go.Proofs.Ytjiikpmkedkbkaa
namespace Go.Proofs.Ytjiikpmkedkbkaa
open Go.RowKit Go.ChangeMaps

section
variable {K V : Type} {P : Program} {t k e : TypeId} {ek : K → Value} {kl : K → Lit} {ev : V → Value} {ok : K → Prop} {z : Value} {o : Oper} {a : Act} {Q : Exit → Act → World → Prop} {ops : Array Oper} {rest : List Oper}
/-- An entry of a map's literal. -/
theorem wpList_vins [DecidableEq K] (w : World) (hg : o.guard = none) (m x v : Operand) (hop : o.op = Op.insert t m x v) (T : MT P t k e ek kl ev ok z) (b : Nat) (M : List (K × V)) (hm : a.eval m = .map (some b)) (h : VMap P k kl ev w b M) (x0 : K) (u0 : V) (hx : a.eval x = ek x0) (hv : a.eval v = ev u0) (hok : ok x0) (hn : M.length < maxLen)
    (hK : ∀ w', VMap P k kl ev w' b (mput M x0 u0) → w.mapTurned w' b → wpList P ops Q rest (a.put o.dst undef) w') : wpList P ops Q (o :: rest) a w :=
  wpList_plain hg fun _ hC => by
    obtain ⟨w', hrun, r1, r2⟩ := h.store T x0 hok u0 hn
    unfold Oper.wp
    simp [execOp, hop, hm, hx, hv, hrun, Result.andThen]
    exact hC _ _ (hK w' r1 r2)
end
theorem Blk.newP {w : World} {g t : Nat} {cs : Array Value} (h : g = w.heap.size) : Blk (w.alloc (.cells cs t)) g t cs := by
  subst h
  exact Blk.new w t cs
abbrev evK (p : Value × Value) : Value := .agg #[p.1, p.2]
theorem tyKind : MT Try.prog 74 3 73 (Value.int .i64) (Lit.int .i64) evK okI (.agg #[.nilFunc, .nilFunc]) where
  keyed := Maps.int_keyed Try.underlying3
  ht := Try.underlying74
  key := fun x hx => Maps.keyOf_int_mk Try.underlying3 hx
  inj := fun x y h => by injection h
  zero := fun w => by kernel_rfl
/-- What the map holds. -/
def KM (g5 g6 : Nat) : List (Int × Value × Value) := (mput (mput (mput (mput (mput (mput (mput ([] : List (Int × Value × Value)) 1 (fnV 48, fnV 49)) 2 (fnV 48, fnV 49)) 3 (fnV 50, fnV 51)) 4 (fnV 52, fnV 53)) 5 (fnV 54, .func (.func 74) #[] #[.pointer (some ⟨g5, 0, none⟩)])) 6 (fnV 57, .func (.func 74) #[] #[.pointer (some ⟨g6, 0, none⟩)])) 7 (fnV 59, fnV 60))
theorem KM.get (g5 g6 : Nat) : mget (KM g5 g6) 1 = some (fnV 48, fnV 49) ∧ mget (KM g5 g6) 2 = some (fnV 48, fnV 49) ∧ mget (KM g5 g6) 3 = some (fnV 50, fnV 51) ∧ mget (KM g5 g6) 4 = some (fnV 52, fnV 53) ∧ mget (KM g5 g6) 5 = some (fnV 54, .func (.func 74) #[] #[.pointer (some ⟨g5, 0, none⟩)]) ∧ mget (KM g5 g6) 6 = some (fnV 57, .func (.func 74) #[] #[.pointer (some ⟨g6, 0, none⟩)]) ∧ mget (KM g5 g6) 7 = some (fnV 59, fnV 60) := by
  refine ⟨by simp [KM, mget, mput, mdel], by simp [KM, mget, mput, mdel], by simp [KM, mget, mput, mdel], by simp [KM, mget, mput, mdel], by simp [KM, mget, mput, mdel], by simp [KM, mget, mput, mdel], by simp [KM, mget, mput, mdel]⟩
set_option maxRecDepth 100000 in
set_option maxHeartbeats 4000000 in
theorem kinds_any (w : World) : Calls Try.prog 29 #[] w fun e w' => ∃ b g5 g6, e = .returned (.map (some b)) ∧ VMap Try.prog 3 (Lit.int .i64) evK w' b (KM g5 g6) ∧ Blk w' g5 95 #[fnV 56] ∧ Blk w' g6 95 #[fnV 58] ∧ Fr [] w w' := by
  have V0 : Hid (VMap Try.prog 3 (Lit.int .i64) evK (w.alloc (.map #[] 0)) w.heap.size []) := Lib.hid (VMap.made _ _ _)
  have F0 : Hid (Fr [] w (w.alloc (.map #[] 0))) := Lib.hid ((Fr.refl _ _).alloc _)
  have S0 : Hid (w.heap.size < (w.alloc (.map #[] 0)).heap.size) := Lib.hid (by simp [World.size_alloc])
  have HX := Lib.hid pextreme_any
  have hmm := @run_makeMap Try.prog
  go_enter Try.func29, Try.ntmps29
  go_wp2_with (first
    | (refine wpList_vins _ rfl _ (.const (.int .i64 1)) _ rfl tyKind w.heap.size ([] : List (Int × Value × Value)) rfl V0.out 1 (fnV 48, fnV 49) rfl rfl (okI_mk (by decide) (by decide)) (by simp [maxLen]) ?_; intro w1 h1 t1; have V1 := Lib.hid h1; have F1 := Lib.hid (F0.out.trans' (turned_fr t1 (List.mem_singleton.2 rfl)) (fun i hi => .inr (by rw [List.mem_singleton] at hi; omega))); have S1 : Hid (w.heap.size < w1.heap.size) := Lib.hid (VMap.lt h1); clear h1 t1)
    | (refine wpList_vins _ rfl _ (.const (.int .i64 2)) _ rfl tyKind w.heap.size (mput ([] : List (Int × Value × Value)) 1 (fnV 48, fnV 49)) rfl V1.out 2 (fnV 48, fnV 49) rfl rfl (okI_mk (by decide) (by decide)) (by simp [mput, mdel, maxLen]) ?_; intro w2 h2 t2; have V2 := Lib.hid h2; have F2 := Lib.hid (F1.out.trans' (turned_fr t2 (List.mem_singleton.2 rfl)) (fun i hi => .inr (by rw [List.mem_singleton] at hi; omega))); have S2 : Hid (w.heap.size < w2.heap.size) := Lib.hid (VMap.lt h2); clear h2 t2)
    | (refine wpList_vins _ rfl _ (.const (.int .i64 3)) _ rfl tyKind w.heap.size (mput (mput ([] : List (Int × Value × Value)) 1 (fnV 48, fnV 49)) 2 (fnV 48, fnV 49)) rfl V2.out 3 (fnV 50, fnV 51) rfl rfl (okI_mk (by decide) (by decide)) (by simp [mput, mdel, maxLen]) ?_; intro w3 h3 t3; have V3 := Lib.hid h3; have F3 := Lib.hid (F2.out.trans' (turned_fr t3 (List.mem_singleton.2 rfl)) (fun i hi => .inr (by rw [List.mem_singleton] at hi; omega))); have S3 : Hid (w.heap.size < w3.heap.size) := Lib.hid (VMap.lt h3); clear h3 t3)
    | (refine wpList_vins _ rfl _ (.const (.int .i64 4)) _ rfl tyKind w.heap.size (mput (mput (mput ([] : List (Int × Value × Value)) 1 (fnV 48, fnV 49)) 2 (fnV 48, fnV 49)) 3 (fnV 50, fnV 51)) rfl V3.out 4 (fnV 52, fnV 53) rfl rfl (okI_mk (by decide) (by decide)) (by simp [mput, mdel, maxLen]) ?_; intro w4 h4 t4; have V4 := Lib.hid h4; have F4 := Lib.hid (F3.out.trans' (turned_fr t4 (List.mem_singleton.2 rfl)) (fun i hi => .inr (by rw [List.mem_singleton] at hi; omega))); have S4 : Hid (w.heap.size < w4.heap.size) := Lib.hid (VMap.lt h4); clear h4 t4)
    | (go_at_call 55; refine (HX.out 56 w4).mono ?_; rintro e wx ⟨rfl, rfl⟩; have V4b := Lib.hid (V4.out.alloc (.cells #[fnV 56] 95)); have F4b := Lib.hid (F4.out.alloc (.cells #[fnV 56] 95)); obtain ⟨g5, hg5⟩ : ∃ g, w4.heap.size = g := ⟨_, rfl⟩; have N5 : Hid (¬ g5 = w.heap.size) := Lib.hid (by have := S4.out; omega); have B5_4 := Lib.hid (Blk.newP (w := w4) (t := 95) (cs := #[fnV 56]) hg5.symm); rw [hg5]; clear hg5)
    | (refine wpList_vins _ rfl _ (.const (.int .i64 5)) _ rfl tyKind w.heap.size (mput (mput (mput (mput ([] : List (Int × Value × Value)) 1 (fnV 48, fnV 49)) 2 (fnV 48, fnV 49)) 3 (fnV 50, fnV 51)) 4 (fnV 52, fnV 53)) rfl V4b.out 5 (fnV 54, .func (.func 74) #[] #[.pointer (some ⟨g5, 0, none⟩)]) rfl rfl (okI_mk (by decide) (by decide)) (by simp [mput, mdel, maxLen]) ?_; intro w5 h5 t5; have V5 := Lib.hid h5; have F5 := Lib.hid (F4b.out.trans' (turned_fr t5 (List.mem_singleton.2 rfl)) (fun i hi => .inr (by rw [List.mem_singleton] at hi; omega))); have S5 : Hid (w.heap.size < w5.heap.size) := Lib.hid (VMap.lt h5); have B5_5 := Lib.hid (B5_4.out.fr (turned_fr t5 (List.mem_singleton.2 rfl)) (by rw [List.mem_singleton]; exact N5.out)); clear h5 t5)
    | (go_at_call 55; refine (HX.out 58 w5).mono ?_; rintro e wx ⟨rfl, rfl⟩; have V5b := Lib.hid (V5.out.alloc (.cells #[fnV 58] 95)); have F5b := Lib.hid (F5.out.alloc (.cells #[fnV 58] 95)); obtain ⟨g6, hg6⟩ : ∃ g, w5.heap.size = g := ⟨_, rfl⟩; have N6 : Hid (¬ g6 = w.heap.size) := Lib.hid (by have := S5.out; omega); have B6_5 := Lib.hid (Blk.newP (w := w5) (t := 95) (cs := #[fnV 58]) hg6.symm); have B5_5b := Lib.hid (B5_5.out.alloc (.cells #[fnV 58] 95)); rw [hg6]; clear hg6)
    | (refine wpList_vins _ rfl _ (.const (.int .i64 6)) _ rfl tyKind w.heap.size (mput (mput (mput (mput (mput ([] : List (Int × Value × Value)) 1 (fnV 48, fnV 49)) 2 (fnV 48, fnV 49)) 3 (fnV 50, fnV 51)) 4 (fnV 52, fnV 53)) 5 (fnV 54, .func (.func 74) #[] #[.pointer (some ⟨g5, 0, none⟩)])) rfl V5b.out 6 (fnV 57, .func (.func 74) #[] #[.pointer (some ⟨g6, 0, none⟩)]) rfl rfl (okI_mk (by decide) (by decide)) (by simp [mput, mdel, maxLen]) ?_; intro w6 h6 t6; have V6 := Lib.hid h6; have F6 := Lib.hid (F5b.out.trans' (turned_fr t6 (List.mem_singleton.2 rfl)) (fun i hi => .inr (by rw [List.mem_singleton] at hi; omega))); have S6 : Hid (w.heap.size < w6.heap.size) := Lib.hid (VMap.lt h6); have B5_6 := Lib.hid (B5_5b.out.fr (turned_fr t6 (List.mem_singleton.2 rfl)) (by rw [List.mem_singleton]; exact N5.out)); have B6_6 := Lib.hid (B6_5.out.fr (turned_fr t6 (List.mem_singleton.2 rfl)) (by rw [List.mem_singleton]; exact N6.out)); clear h6 t6)
    | (refine wpList_vins _ rfl _ (.const (.int .i64 7)) _ rfl tyKind w.heap.size (mput (mput (mput (mput (mput (mput ([] : List (Int × Value × Value)) 1 (fnV 48, fnV 49)) 2 (fnV 48, fnV 49)) 3 (fnV 50, fnV 51)) 4 (fnV 52, fnV 53)) 5 (fnV 54, .func (.func 74) #[] #[.pointer (some ⟨g5, 0, none⟩)])) 6 (fnV 57, .func (.func 74) #[] #[.pointer (some ⟨g6, 0, none⟩)])) rfl V6.out 7 (fnV 59, fnV 60) rfl rfl (okI_mk (by decide) (by decide)) (by simp [mput, mdel, maxLen]) ?_; intro w7 h7 t7; have V7 := Lib.hid h7; have F7 := Lib.hid (F6.out.trans' (turned_fr t7 (List.mem_singleton.2 rfl)) (fun i hi => .inr (by rw [List.mem_singleton] at hi; omega))); have S7 : Hid (w.heap.size < w7.heap.size) := Lib.hid (VMap.lt h7); have B5_7 := Lib.hid (B5_6.out.fr (turned_fr t7 (List.mem_singleton.2 rfl)) (by rw [List.mem_singleton]; exact N5.out)); have B6_7 := Lib.hid (B6_6.out.fr (turned_fr t7 (List.mem_singleton.2 rfl)) (by rw [List.mem_singleton]; exact N6.out)); clear h7 t7)
    )
  go_ret
  exact ⟨_, g5, g6, rfl, V7.out, B5_7.out, B6_7.out, F7.out⟩
end Go.Proofs.Ytjiikpmkedkbkaa
namespace Go.Proofs.Ytjiikpmkedkbkaa

/-- A world behind W: what is old there is as it was. -/
structure Later (W : World) where
  w : World
  fr : Fr [] W w
instance (W : World) : Nonempty (Later W) := ⟨⟨W, Fr.refl [] W⟩⟩
theorem Later.cell {W : World} (p : Later W) {b o : Nat} {v : Value} (hb : b < W.heap.size) (h : W.cell? ⟨b, o, none⟩ = some v) : p.w.cell? ⟨b, o, none⟩ = some v := (p.fr.rules.1 b o hb).trans h
theorem Later.calls {P : Program} {f : FuncId} {args : Array Value} {W : World} {v : Value} {p : Later W} (h : Calls P f args p.w fun e w' => e = .returned v ∧ Fr [] p.w w') :
    Calls P f args p.w fun e w'' => e = .returned v ∧ ∃ q : Later W, w'' = q.w :=
  h.mono fun _ w' hh => ⟨hh.1, ⟨w', p.fr.trans hh.2⟩, rfl⟩
theorem wp_region_later {P : Program} {id : Nat} {Q : Exit → Act → World → Prop} {a : Act} {w : World} {l : List Oper} (hm : P.follows .mixedOrders = true) (hB : Region.lexB .any l.toArray = true)
    (h : wpQuiet P l.toArray (fun w' => ∃ p : Later w, w' = p.w) (fun a' => ∀ w', (∃ p : Later w, w' = p.w) → Q .normal a' w') l a) : (Code.region id l.toArray true).wp P Q a w :=
  wp_region_quiet (C := fun w' => ∃ p : Later w, w' = p.w) hm hB ⟨⟨_, (Fr.refl [] w).drew⟩, rfl⟩ (by simpa using h)
end Go.Proofs.Ytjiikpmkedkbkaa
namespace Go.Proofs.Ytjiikpmkedkbkaa
open Go.RowKit

namespace Pm
/-- Whether the rows of an effect touch a query of a kind. -/
def tkE (k t o : Int) (p r : Bool) (u v : Int) : Bool :=
  if k = 3 then (p != r) else if k = 4 then !decide (u = v) else if k = 5 ∨ k = 6 then ((p != r) || !decide (u = v)) else if k = 7 then ((p || r) || decide (t = o)) else (p || r)
theorem tkE_tk (q : Qry) (c : Chg) : tkE q.kind c.t q.other (B q c).isSome (A q c).isSome (old q c) (now q c) = tk q c := rfl
theorem valid_kind {q : Qry} (h : Em.valid q = true) : q.kind = 1 ∨ q.kind = 2 ∨ q.kind = 3 ∨ q.kind = 4 ∨ q.kind = 5 ∨ q.kind = 6 ∨ q.kind = 7 := by
  unfold Em.valid at h
  split at h <;> rename_i h1
  · exact .inl h1
  · split at h <;> rename_i h2
    · omega
    · split at h <;> rename_i h3
      · omega
      · split at h <;> rename_i h4
        · omega
        · cases h
end Pm
/-- The function that says whether a query of a kind is touched. -/
theorem kindT {q : Qry} (hk : Em.valid q = true) : ∃ n : Nat, (∀ args w, (callFunc n args).run Try.prog w = .ok (.enter n args) w) ∧ (∀ (c : Chg) (pb pa : Option Addr) (u v : Int) (w : World), Calls Try.prog n #[.agg (effArr q c pb pa u v)] w fun e w' => e = .returned (.bool (Pm.tkE q.kind c.t q.other pb.isSome pa.isSome u v)) ∧ Fr [] w w') ∧
    ∀ g5 g6, ∃ p, mget (KM g5 g6) q.kind = some (fnV n, p) := by
  have hg := fun g5 g6 => KM.get g5 g6
  rcases Pm.valid_kind hk with h | h | h | h | h | h | h
  · refine ⟨48, enters_of Try.func48 (by kernel_rfl) rfl, fun c pb pa u v w => (pany_any q c pb pa u v w).mono fun e w' hh => ⟨hh.1.trans (by rw [h]; simp [Pm.tkE]), hh.2⟩, fun g5 g6 => ⟨_, by rw [h]; exact (hg g5 g6).1⟩⟩
  · refine ⟨48, enters_of Try.func48 (by kernel_rfl) rfl, fun c pb pa u v w => (pany_any q c pb pa u v w).mono fun e w' hh => ⟨hh.1.trans (by rw [h]; simp [Pm.tkE]), hh.2⟩, fun g5 g6 => ⟨_, by rw [h]; exact (hg g5 g6).2.1⟩⟩
  · refine ⟨50, enters_of Try.func50 (by kernel_rfl) rfl, fun c pb pa u v w => (pone_any q c pb pa u v w).mono fun e w' hh => ⟨hh.1.trans (by rw [h]; simp [Pm.tkE]), hh.2⟩, fun g5 g6 => ⟨_, by rw [h]; exact (hg g5 g6).2.2.1⟩⟩
  · refine ⟨52, enters_of Try.func52 (by kernel_rfl) rfl, fun c pb pa u v w => (psum_t q c pb pa u v w).mono fun e w' hh => ⟨hh.1.trans (by rw [h]; simp [Pm.tkE]), hh.2⟩, fun g5 g6 => ⟨_, by rw [h]; exact (hg g5 g6).2.2.2.1⟩⟩
  · refine ⟨54, enters_of Try.func54 (by kernel_rfl) rfl, fun c pb pa u v w => (pmin_t q c pb pa u v w).mono fun e w' hh => ⟨hh.1.trans (by rw [h]; simp [Pm.tkE]), hh.2⟩, fun g5 g6 => ⟨_, by rw [h]; exact (hg g5 g6).2.2.2.2.1⟩⟩
  · refine ⟨57, enters_of Try.func57 (by kernel_rfl) rfl, fun c pb pa u v w => (pmax_t q c pb pa u v w).mono fun e w' hh => ⟨hh.1.trans (by rw [h]; simp [Pm.tkE]), hh.2⟩, fun g5 g6 => ⟨_, by rw [h]; exact (hg g5 g6).2.2.2.2.2.1⟩⟩
  · refine ⟨59, enters_of Try.func59 (by kernel_rfl) rfl, fun c pb pa u v w => (pjoin_t q c pb pa u v w).mono fun e w' hh => ⟨hh.1.trans (by rw [h]; simp [Pm.tkE]), hh.2⟩, fun g5 g6 => ⟨_, by rw [h]; exact (hg g5 g6).2.2.2.2.2.2⟩⟩
set_option maxRecDepth 100000 in
set_option maxHeartbeats 8000000 in
/-- Whether a change touches a query. -/
theorem touches_any (q : Qry) (c : Chg) (hok : okI q.kind) (w : World) : Calls Try.prog 13 #[q.val, c.val] w fun e w' => e = .returned (.bool (Pm.touches q c)) ∧ Fr [] w w' := by
  have HQV := Lib.hid (qvalid_any q)
  have HCV := Lib.hid (validChange_any c)
  have HEF := Lib.hid (effectOf_any q c)
  have hf0 : Fr [] w ((w.alloc (.cells #[.int .i64 q.kind, .int .i64 q.table, .int .i64 q.column, .int .i64 q.low, .int .i64 q.high, .int .i64 q.by_, .int .i64 q.other] 24)).alloc (.cells #[.int .i64 c.t, .int .i64 c.k, .bool c.had, .int .i64 c.o0, .int .i64 c.o1, .int .i64 c.o2, .bool c.has, .int .i64 c.n0, .int .i64 c.n1, .int .i64 c.n2] 30)) := ((Fr.refl _ _).alloc _).alloc _
  have hq := (QAt.new w q).fr ((Fr.refl [] _).alloc (.cells #[.int .i64 c.t, .int .i64 c.k, .bool c.had, .int .i64 c.o0, .int .i64 c.o1, .int .i64 c.o2, .bool c.has, .int .i64 c.n0, .int .i64 c.n1, .int .i64 c.n2] 30)) (by simp)
  have hc := Blk.new (w.alloc (.cells #[.int .i64 q.kind, .int .i64 q.table, .int .i64 q.column, .int .i64 q.low, .int .i64 q.high, .int .i64 q.by_, .int .i64 q.other] 24)) 30 #[.int .i64 c.t, .int .i64 c.k, .bool c.had, .int .i64 c.o0, .int .i64 c.o1, .int .i64 c.o2, .bool c.has, .int .i64 c.n0, .int .i64 c.n1, .int .i64 c.n2]
  rw [World.size_alloc] at hc
  have HF0 := Lib.hid hf0
  have HQ := Lib.hid hq
  have HC := Lib.hid hc
  clear hf0 hq hc
  go_enter Try.func13, Try.ntmps13
  go_upto_region 1 with (fail)
  generalize (w.alloc (.cells #[.int .i64 q.kind, .int .i64 q.table, .int .i64 q.column, .int .i64 q.low, .int .i64 q.high, .int .i64 q.by_, .int .i64 q.other] 24)).alloc (.cells #[.int .i64 c.t, .int .i64 c.k, .bool c.had, .int .i64 c.o0, .int .i64 c.o1, .int .i64 c.o2, .bool c.has, .int .i64 c.n0, .int .i64 c.n1, .int .i64 c.n2] 30) = w1 at *
  have HS : Hid (∀ W, Fr [] w1 W → W.cell? ⟨w.heap.size, 0, none⟩ = some (.int .i64 q.kind) ∧ W.cell? ⟨w.heap.size, 1, none⟩ = some (.int .i64 q.table) ∧ W.cell? ⟨w.heap.size, 2, none⟩ = some (.int .i64 q.column) ∧ W.cell? ⟨w.heap.size, 3, none⟩ = some (.int .i64 q.low) ∧ W.cell? ⟨w.heap.size, 4, none⟩ = some (.int .i64 q.high) ∧ W.cell? ⟨w.heap.size, 5, none⟩ = some (.int .i64 q.by_) ∧ W.cell? ⟨w.heap.size, 6, none⟩ = some (.int .i64 q.other) ∧ W.cell? ⟨w.heap.size + 1, 0, none⟩ = some (.int .i64 c.t) ∧ W.cell? ⟨w.heap.size + 1, 1, none⟩ = some (.int .i64 c.k) ∧ W.cell? ⟨w.heap.size + 1, 2, none⟩ = some (.bool c.had) ∧ W.cell? ⟨w.heap.size + 1, 3, none⟩ = some (.int .i64 c.o0) ∧ W.cell? ⟨w.heap.size + 1, 4, none⟩ = some (.int .i64 c.o1) ∧ W.cell? ⟨w.heap.size + 1, 5, none⟩ = some (.int .i64 c.o2) ∧ W.cell? ⟨w.heap.size + 1, 6, none⟩ = some (.bool c.has) ∧ W.cell? ⟨w.heap.size + 1, 7, none⟩ = some (.int .i64 c.n0) ∧ W.cell? ⟨w.heap.size + 1, 8, none⟩ = some (.int .i64 c.n1) ∧ W.cell? ⟨w.heap.size + 1, 9, none⟩ = some (.int .i64 c.n2)) := Lib.hid (fun W hf => ⟨(HQ.out.fr hf (by simp)).c0, (HQ.out.fr hf (by simp)).c1, (HQ.out.fr hf (by simp)).c2, (HQ.out.fr hf (by simp)).c3, (HQ.out.fr hf (by simp)).c4, (HQ.out.fr hf (by simp)).c5, (HQ.out.fr hf (by simp)).c6, (HC.out.fr hf (by simp)).cell 0, (HC.out.fr hf (by simp)).cell 1, (HC.out.fr hf (by simp)).cell 2, (HC.out.fr hf (by simp)).cell 3, (HC.out.fr hf (by simp)).cell 4, (HC.out.fr hf (by simp)).cell 5, (HC.out.fr hf (by simp)).cell 6, (HC.out.fr hf (by simp)).cell 7, (HC.out.fr hf (by simp)).cell 8, (HC.out.fr hf (by simp)).cell 9⟩)
  cases hv : Em.valid q with
  | false =>
    have HV := Lib.hid hv
    have E : Hid (Pm.touches q c = false) := Lib.hid (by simp [Pm.touches, hv])
    have HQF : Hid (∀ W, Calls Try.prog 37 #[q.val] W fun e w' => e = .returned (.bool false) ∧ Fr [] W w') := Lib.hid (fun W => by rw [← hv]; exact HQV.out W)
    clear hv
    have l0 : ∀ p : Later w1, p.w.cell? ⟨w.heap.size, 0, none⟩ = some (.int .i64 q.kind) := fun p => (HS.out _ p.fr).1
    have l1 : ∀ p : Later w1, p.w.cell? ⟨w.heap.size, 1, none⟩ = some (.int .i64 q.table) := fun p => (HS.out _ p.fr).2.1
    have l2 : ∀ p : Later w1, p.w.cell? ⟨w.heap.size, 2, none⟩ = some (.int .i64 q.column) := fun p => (HS.out _ p.fr).2.2.1
    have l3 : ∀ p : Later w1, p.w.cell? ⟨w.heap.size, 3, none⟩ = some (.int .i64 q.low) := fun p => (HS.out _ p.fr).2.2.2.1
    have l4 : ∀ p : Later w1, p.w.cell? ⟨w.heap.size, 4, none⟩ = some (.int .i64 q.high) := fun p => (HS.out _ p.fr).2.2.2.2.1
    have l5 : ∀ p : Later w1, p.w.cell? ⟨w.heap.size, 5, none⟩ = some (.int .i64 q.by_) := fun p => (HS.out _ p.fr).2.2.2.2.2.1
    have l6 : ∀ p : Later w1, p.w.cell? ⟨w.heap.size, 6, none⟩ = some (.int .i64 q.other) := fun p => (HS.out _ p.fr).2.2.2.2.2.2.1
    have l7 : ∀ p : Later w1, p.w.cell? ⟨w.heap.size + 1, 0, none⟩ = some (.int .i64 c.t) := fun p => (HS.out _ p.fr).2.2.2.2.2.2.2.1
    have l8 : ∀ p : Later w1, p.w.cell? ⟨w.heap.size + 1, 1, none⟩ = some (.int .i64 c.k) := fun p => (HS.out _ p.fr).2.2.2.2.2.2.2.2.1
    have l9 : ∀ p : Later w1, p.w.cell? ⟨w.heap.size + 1, 2, none⟩ = some (.bool c.had) := fun p => (HS.out _ p.fr).2.2.2.2.2.2.2.2.2.1
    have l10 : ∀ p : Later w1, p.w.cell? ⟨w.heap.size + 1, 3, none⟩ = some (.int .i64 c.o0) := fun p => (HS.out _ p.fr).2.2.2.2.2.2.2.2.2.2.1
    have l11 : ∀ p : Later w1, p.w.cell? ⟨w.heap.size + 1, 4, none⟩ = some (.int .i64 c.o1) := fun p => (HS.out _ p.fr).2.2.2.2.2.2.2.2.2.2.2.1
    have l12 : ∀ p : Later w1, p.w.cell? ⟨w.heap.size + 1, 5, none⟩ = some (.int .i64 c.o2) := fun p => (HS.out _ p.fr).2.2.2.2.2.2.2.2.2.2.2.2.1
    have l13 : ∀ p : Later w1, p.w.cell? ⟨w.heap.size + 1, 6, none⟩ = some (.bool c.has) := fun p => (HS.out _ p.fr).2.2.2.2.2.2.2.2.2.2.2.2.2.1
    have l14 : ∀ p : Later w1, p.w.cell? ⟨w.heap.size + 1, 7, none⟩ = some (.int .i64 c.n0) := fun p => (HS.out _ p.fr).2.2.2.2.2.2.2.2.2.2.2.2.2.2.1
    have l15 : ∀ p : Later w1, p.w.cell? ⟨w.heap.size + 1, 8, none⟩ = some (.int .i64 c.n1) := fun p => (HS.out _ p.fr).2.2.2.2.2.2.2.2.2.2.2.2.2.2.2.1
    have l16 : ∀ p : Later w1, p.w.cell? ⟨w.heap.size + 1, 9, none⟩ = some (.int .i64 c.n2) := fun p => (HS.out _ p.fr).2.2.2.2.2.2.2.2.2.2.2.2.2.2.2.2
    refine wp_region_later (by kernel_rfl) (by kernel_rfl) ?_
    repeat (go_big_quiet_step (with_reducible exact Later.calls (HQF.out _)))
    refine wpQuiet_nil ?_
    rintro w' ⟨⟨wq, fq⟩, rfl⟩
    go_wp2
    go_ret
    exact ⟨by rw [E.out]; rfl, HF0.out.trans fq⟩
  | true =>
    cases hcv : Rw.chg c with
    | false =>
      have E : Hid (Pm.touches q c = false) := Lib.hid (by simp [Pm.touches, hcv])
      have HQF : Hid (∀ W, Calls Try.prog 37 #[q.val] W fun e w' => e = .returned (.bool true) ∧ Fr [] W w') := Lib.hid (fun W => by rw [← hv]; exact HQV.out W)
      have HCF : Hid (∀ W, Calls Try.prog 38 #[c.val] W fun e w' => e = .returned (.bool false) ∧ Fr [] W w') := Lib.hid (fun W => by rw [← hcv]; exact HCV.out W)
      clear hv hcv
      have l0 : ∀ p : Later w1, p.w.cell? ⟨w.heap.size, 0, none⟩ = some (.int .i64 q.kind) := fun p => (HS.out _ p.fr).1
      have l1 : ∀ p : Later w1, p.w.cell? ⟨w.heap.size, 1, none⟩ = some (.int .i64 q.table) := fun p => (HS.out _ p.fr).2.1
      have l2 : ∀ p : Later w1, p.w.cell? ⟨w.heap.size, 2, none⟩ = some (.int .i64 q.column) := fun p => (HS.out _ p.fr).2.2.1
      have l3 : ∀ p : Later w1, p.w.cell? ⟨w.heap.size, 3, none⟩ = some (.int .i64 q.low) := fun p => (HS.out _ p.fr).2.2.2.1
      have l4 : ∀ p : Later w1, p.w.cell? ⟨w.heap.size, 4, none⟩ = some (.int .i64 q.high) := fun p => (HS.out _ p.fr).2.2.2.2.1
      have l5 : ∀ p : Later w1, p.w.cell? ⟨w.heap.size, 5, none⟩ = some (.int .i64 q.by_) := fun p => (HS.out _ p.fr).2.2.2.2.2.1
      have l6 : ∀ p : Later w1, p.w.cell? ⟨w.heap.size, 6, none⟩ = some (.int .i64 q.other) := fun p => (HS.out _ p.fr).2.2.2.2.2.2.1
      have l7 : ∀ p : Later w1, p.w.cell? ⟨w.heap.size + 1, 0, none⟩ = some (.int .i64 c.t) := fun p => (HS.out _ p.fr).2.2.2.2.2.2.2.1
      have l8 : ∀ p : Later w1, p.w.cell? ⟨w.heap.size + 1, 1, none⟩ = some (.int .i64 c.k) := fun p => (HS.out _ p.fr).2.2.2.2.2.2.2.2.1
      have l9 : ∀ p : Later w1, p.w.cell? ⟨w.heap.size + 1, 2, none⟩ = some (.bool c.had) := fun p => (HS.out _ p.fr).2.2.2.2.2.2.2.2.2.1
      have l10 : ∀ p : Later w1, p.w.cell? ⟨w.heap.size + 1, 3, none⟩ = some (.int .i64 c.o0) := fun p => (HS.out _ p.fr).2.2.2.2.2.2.2.2.2.2.1
      have l11 : ∀ p : Later w1, p.w.cell? ⟨w.heap.size + 1, 4, none⟩ = some (.int .i64 c.o1) := fun p => (HS.out _ p.fr).2.2.2.2.2.2.2.2.2.2.2.1
      have l12 : ∀ p : Later w1, p.w.cell? ⟨w.heap.size + 1, 5, none⟩ = some (.int .i64 c.o2) := fun p => (HS.out _ p.fr).2.2.2.2.2.2.2.2.2.2.2.2.1
      have l13 : ∀ p : Later w1, p.w.cell? ⟨w.heap.size + 1, 6, none⟩ = some (.bool c.has) := fun p => (HS.out _ p.fr).2.2.2.2.2.2.2.2.2.2.2.2.2.1
      have l14 : ∀ p : Later w1, p.w.cell? ⟨w.heap.size + 1, 7, none⟩ = some (.int .i64 c.n0) := fun p => (HS.out _ p.fr).2.2.2.2.2.2.2.2.2.2.2.2.2.2.1
      have l15 : ∀ p : Later w1, p.w.cell? ⟨w.heap.size + 1, 8, none⟩ = some (.int .i64 c.n1) := fun p => (HS.out _ p.fr).2.2.2.2.2.2.2.2.2.2.2.2.2.2.2.1
      have l16 : ∀ p : Later w1, p.w.cell? ⟨w.heap.size + 1, 9, none⟩ = some (.int .i64 c.n2) := fun p => (HS.out _ p.fr).2.2.2.2.2.2.2.2.2.2.2.2.2.2.2.2
      refine wp_region_later (by kernel_rfl) (by kernel_rfl) ?_
      repeat (go_big_quiet_step (first | (with_reducible exact Later.calls (HQF.out _)) | (with_reducible exact Later.calls (HCF.out _))))
      refine wpQuiet_nil ?_
      rintro w' ⟨⟨wq, fq⟩, rfl⟩
      go_wp2
      go_ret
      exact ⟨by rw [E.out]; rfl, HF0.out.trans fq⟩
    | true =>
      have E : Hid (Pm.touches q c = Pm.tk q c) := Lib.hid (by simp [Pm.touches, hv, hcv])
      have HQF : Hid (∀ W, Calls Try.prog 37 #[q.val] W fun e w' => e = .returned (.bool true) ∧ Fr [] W w') := Lib.hid (fun W => by rw [← hv]; exact HQV.out W)
      have HCF : Hid (∀ W, Calls Try.prog 38 #[c.val] W fun e w' => e = .returned (.bool true) ∧ Fr [] W w') := Lib.hid (fun W => by rw [← hcv]; exact HCV.out W)
      obtain ⟨n, eg, hT, hM⟩ := kindT hv
      have HT := Lib.hid hT
      have HM := Lib.hid hM
      have HOK := Lib.hid hok
      clear hT hM hv hcv hok
      obtain ⟨s0, s1, s2, s3, s4, s5, s6, s7, s8, s9, s10, s11, s12, s13, s14, s15, s16⟩ := HS.out w1 (Fr.refl _ _)
      go_region_held3 (fun W => W.cell? ⟨w.heap.size, 0, none⟩ = some (.int .i64 q.kind) ∧ W.cell? ⟨w.heap.size, 1, none⟩ = some (.int .i64 q.table) ∧ W.cell? ⟨w.heap.size, 2, none⟩ = some (.int .i64 q.column) ∧ W.cell? ⟨w.heap.size, 3, none⟩ = some (.int .i64 q.low) ∧ W.cell? ⟨w.heap.size, 4, none⟩ = some (.int .i64 q.high) ∧ W.cell? ⟨w.heap.size, 5, none⟩ = some (.int .i64 q.by_) ∧ W.cell? ⟨w.heap.size, 6, none⟩ = some (.int .i64 q.other) ∧ W.cell? ⟨w.heap.size + 1, 0, none⟩ = some (.int .i64 c.t) ∧ W.cell? ⟨w.heap.size + 1, 1, none⟩ = some (.int .i64 c.k) ∧ W.cell? ⟨w.heap.size + 1, 2, none⟩ = some (.bool c.had) ∧ W.cell? ⟨w.heap.size + 1, 3, none⟩ = some (.int .i64 c.o0) ∧ W.cell? ⟨w.heap.size + 1, 4, none⟩ = some (.int .i64 c.o1) ∧ W.cell? ⟨w.heap.size + 1, 5, none⟩ = some (.int .i64 c.o2) ∧ W.cell? ⟨w.heap.size + 1, 6, none⟩ = some (.bool c.has) ∧ W.cell? ⟨w.heap.size + 1, 7, none⟩ = some (.int .i64 c.n0) ∧ W.cell? ⟨w.heap.size + 1, 8, none⟩ = some (.int .i64 c.n1) ∧ W.cell? ⟨w.heap.size + 1, 9, none⟩ = some (.int .i64 c.n2))
        (first | exact HS.out _ (Fr.refl [] _) | exact HS.out _ (Fr.refl [] _).drew | exact HS.out _ VF.out | exact HS.out _ CF.out | exact HS.out _ KF.out | exact HS.out _ EF.out | exact HS.out _ TF.out | go_keep)
        ((first
          | (go_at_call 37; (with_reducible refine (HQF.out _).mono ?_); rintro e wv ⟨rfl, fv⟩; have VF : Hid (Fr [] w1 wv) := Lib.hid (Fr.trans (by first | exact Fr.refl _ _ | exact (Fr.refl _ _).drew) fv); clear fv)
          | (go_at_call 38; (with_reducible refine (HCF.out _).mono ?_); rintro e wc ⟨rfl, fv⟩; have CF : Hid (Fr [] w1 wc) := Lib.hid (VF.out.trans fv); clear fv)
          | (go_at_call 29; (with_reducible refine (kinds_any _).mono ?_); rintro e wk ⟨b, g5, g6, rfl, hvm, -, -, fv⟩; have KF : Hid (Fr [] w1 wk) := Lib.hid (CF.out.trans fv); have VK := Lib.hid hvm; obtain ⟨pp, hpp⟩ := HM.out g5 g6; have hlk : (Instr.lookup 74 (.map (some b)) (.int .i64 q.kind) false).run Try.prog wk = .ok (.agg #[fnV n, pp]) wk := (by have h9 := VK.out.look tyKind q.kind HOK.out false; rw [hpp] at h9; exact h9); have HPP := Lib.hid hpp; have hfd : ∀ W, (Instr.field 73 (.agg #[fnV n, pp]) 0).run Try.prog W = .ok (fnV n) W := (fun W => by kernel_rfl); clear fv hvm hpp)
          | (go_at_call 30; (with_reducible refine (HEF.out _).mono ?_); rintro e we ⟨pb, pa, rfl, hpb, hpa, fv⟩; have EF : Hid (Fr [] w1 we) := Lib.hid (KF.out.trans fv); have IB := Lib.hid hpb.isSome; have IA := Lib.hid hpa.isSome; have hlk2 : (Instr.lookup 74 (.map (some b)) (.int .i64 q.kind) false).run Try.prog we = .ok (.agg #[fnV n, pp]) we := (by have h9 := (VK.out.fr fv (by simp)).look tyKind q.kind HOK.out false; rw [HPP.out] at h9; exact h9); clear fv hpb hpa)
          | (go_at_fn n; (with_reducible refine (HT.out c _ _ _ _ _).mono ?_); rintro e wt ⟨rfl, fv⟩; have TF : Hid (Fr [] w1 wt) := Lib.hid (EF.out.trans fv); clear fv)))
      all_goals
        go_wp2
        go_ret
        exact ⟨by rw [E.out, ← Pm.tkE_tk q c, ← IB.out, ← IA.out]; rfl, HF0.out.trans TF.out⟩
end Go.Proofs.Ytjiikpmkedkbkaa
namespace Go.Proofs.Ytjiikpmkedkbkaa
open Go.RowKit

section
variable {P : Program}
theorem blk_cells {w : World} {g t : Nat} {cur : Array Value} (h : Blk w g t cur) {o m : Nat} (hm : o + m ≤ cur.size) : (∀ j, j < m → (w.cell? ⟨g, o + j, none⟩).isSome = true) ∧ ∀ j, j < m → w.frozen? ⟨g, o + j, none⟩ = false :=
  ⟨fun j hj => by rw [h.cell, Array.getElem?_eq_getElem (by omega)]; rfl, fun j _ => h.frozen _⟩
/-- clear(s): zero values. -/
theorem run_clear_put (w : World) (t e ty : TypeId) (z : Value) (ht : P.underlying t = some (.slice e)) (hv : ∀ w, (zeroValue e).run P w = .ok z w) (b o n c tb : Nat) (cur : Array Value) (hn : 0 < n) (hb : Blk w b tb cur) (size : Nat) (hz : (Builtin.zeroCells z.cells n).toList.length = n * size)
    (h1 : ∀ v ∈ (Builtin.zeroCells z.cells n).toList, v.oneCell' = true) (hm : o + n * size ≤ cur.size) :
    (Builtin.clear_ #[t] ty #[.slice (some ⟨b, o, none⟩) n c]).run P w = .ok (.tuple #[]) (w.setCells b o (Builtin.zeroCells z.cells n).toList) := by
  obtain ⟨hc, hf⟩ := blk_cells hb (by rw [← hz] at hm; exact hm)
  have hst := run_storeCells_cells (P := P) b o (Builtin.zeroCells z.cells n).toList 0 w (by simpa using hc) (by simpa using hf) h1
  simp only [Nat.add_zero] at hst
  obtain ⟨m, rfl⟩ : ∃ m, n = m + 1 := ⟨n - 1, by omega⟩
  simp [Builtin.clear_, run_underlying ht, hv, hst]
/-- copy(d, s) of elements of any size. -/
theorem run_copy_put (w : World) (dT sT ty elem : TypeId) (size : Nat) (b o dLen dCap tb : Nat) (cur : Array Value) (a : Addr) (sLen sCap : Nat) (cs : List Value)
    (hu : P.underlying dT = some (.slice elem)) (hs : (P.info? elem).map (·.size) = some size) (m : Nat) (hn : m = Nat.min sLen dLen) (hl : cs.length = m * size)
    (hsrc : ∀ j v, cs[j]? = some v → w.cell? (a.add j) = some v) (hb : Blk w b tb cur) (hm : o + m * size ≤ cur.size) (h1 : ∀ v ∈ cs, v.oneCell' = true) :
    (Builtin.copy_ #[dT, sT] ty #[.slice (some ⟨b, o, none⟩) dLen dCap, .slice (some a) sLen sCap]).run P w = .ok (goInt m) (w.setCells b o cs) := by
  have hl1 := run_loadCells_list (P := P) w a cs hsrc
  obtain ⟨hc, hf⟩ := blk_cells hb (by rw [← hl] at hm; exact hm)
  have hst := run_storeCells_cells (P := P) b o cs 0 w (by simpa using hc) (by simpa using hf) h1
  cases hq : P.info? elem with
  | none => simp [hq] at hs
  | some i =>
    have hi : i.size = size := by simpa [hq] using hs
    rw [hl] at hl1
    simp [Builtin.copy_, run_underlying hu, Builtin.lenOf, Builtin.firstCells, sizeOf, typeInfo, hq, hi, ← hn, hl1, hst]
/-- A store of a struct somewhere in a block. -/
theorem wpList_store_put {ops : Array Oper} {rest : List Oper} {o : Oper} {a : Act} {w : World} {Q : Exit → Act → World → Prop} (hgd : o.guard = none) (ty : TypeId) (x y : Operand) (ho : o.op = .store ty x y)
    (g off : Nat) (cells : Array Value) (hx : a.eval x = .pointer (some ⟨g, off, none⟩)) (hy : a.eval y = .agg cells)
    (t : TypeId) (cur : Array Value) (hg : Blk w g t cur) (hi : (P.info? ty).map (·.size) = some cells.size)
    (hm : off + cells.size ≤ cur.size) (h1 : cells.toList.all (·.oneCell') = true)
    (h : wpList P ops Q rest (a.put o.dst undef) (w.setCells g off cells.toList)) : wpList P ops Q (o :: rest) a w :=
  wpList_plain hgd fun _ hK => by
    have hK' := hK _ _ h
    obtain ⟨hc, hf⟩ := blk_cells hg (m := cells.toList.length) (by simpa using hm)
    have hst := run_storeCells_cells (P := P) g off cells.toList 0 w (by simpa using hc) (by simpa using hf) (fun v hv => List.all_eq_true.1 h1 v hv)
    simp only [Nat.add_zero] at hst
    cases hq : P.info? ty with
    | none => simp [hq] at hi
    | some i =>
      have hs : cells.size = i.size := by simp [hq] at hi; omega
      have hrun : (storeVar ty ⟨g, off, none⟩ (.agg cells)).run P w = .ok () (w.setCells g off cells.toList) := by
        simp [storeVar, sizeOf, typeInfo, hq, Value.cells, hs, hst]
      unfold Oper.wp execOp
      simp only [ho, hx, hy, Instr.storeAt, Instr.sureAddr, Sem.run_bind, Sem.run_pure, Result.andThen_ok, hrun]
      exact hK'
end
section
variable {P : Program}
/-- copy, its run known. -/
theorem wp_copyP (w : World) {o : Oper} {a : Act} {K : Act → World → Prop} {Q : Exit → Act → World → Prop} (d s : Operand) (t t' : TypeId)
    (ho : o.op = .call { callee := .builtin .copy, args := #[d, s], argTypes := #[t, t'] }) (v u : Value) (hd : a.eval d = v) (hs : a.eval s = u) {v' : Value} {w' : World}
    (hr : (Builtin.copy_ #[t, t'] o.type #[v, u]).run P w = .ok v' w') (h : K (a.put o.dst v') w') : o.wp P a w K Q := by
  unfold Oper.wp execOp
  simp only [ho, resolve, invoke, builtin, Sem.run_bind, Sem.run_pure, Result.andThen_ok, List.map_toArray, List.map_cons, List.map_nil, hd, hs, hr]
  exact h
theorem wpList_copyP (w : World) {ops : Array Oper} {rest : List Oper} {o : Oper} {a : Act} {Q : Exit → Act → World → Prop} (hgd : o.guard = none) (d s : Operand) (t t' : TypeId)
    (ho : o.op = .call { callee := .builtin .copy, args := #[d, s], argTypes := #[t, t'] }) (v u : Value) (hd : a.eval d = v) (hs : a.eval s = u) {v' : Value} {w' : World}
    (hr : (Builtin.copy_ #[t, t'] o.type #[v, u]).run P w = .ok v' w') (h : wpList P ops Q rest (a.put o.dst v') w') : wpList P ops Q (o :: rest) a w :=
  wpList_plain hgd fun _ hK => wp_copyP w d s t t' ho v u hd hs hr (hK _ _ h)
theorem step_copyP {ops : Array Oper} {o : Oper} {a : Act} {w : World} {K : Act → World → Prop} {Q : Exit → Act → World → Prop} {E : Prop}
    (hg : o.guard = none) (d x : Operand) (dT sT : TypeId) (hop : o.op = Op.call { callee := Callee.builtin Builtin.copy, args := #[d, x], argTypes := #[dT, sT] })
    (v u : Value) (hd : a.eval d = v) (hx : a.eval x = u) {v' : Value} {w' : World} (hr : (Builtin.copy_ #[dT, sT] o.type #[v, u]).run P w = .ok v' w') (hK : K (a.put o.dst v') w') :
    if Region.wanted o (yielded ops a.tmps) = true then Oper.wp P o a w K Q else E := by
  rw [if_pos (by simp [Region.wanted, hg])]
  exact wp_copyP w d x dT sT hop v u hd hx hr hK
end
section
variable {X : Type} {e size : Nat} {enc : X → List Value} {w w' : World} {L : List X}
theorem flat_ins (henc : ∀ x, (enc x).length = size) (L : List X) (x : X) {i : Nat} (hi : i ≤ L.length) {k : Nat} : ((L.take i ++ x :: L.drop i).flatMap enc)[k]? = if k < i * size then ((L.take i).flatMap enc)[k]? else if k < i * size + size then (enc x)[k - i * size]? else ((L.drop i).flatMap enc)[k - (i * size + size)]? := by
  have hl : ((L.take i).flatMap enc).length = i * size := by rw [flat_len henc, List.length_take, Nat.min_eq_left hi]
  rw [List.flatMap_append, List.flatMap_cons]
  by_cases h1 : k < i * size
  · rw [if_pos h1, List.getElem?_append_left (by omega)]
  · rw [if_neg h1, List.getElem?_append_right (by omega), hl]
    by_cases h2 : k < i * size + size
    · rw [if_pos h2, List.getElem?_append_left (by rw [henc]; omega)]
    · rw [if_neg h2, List.getElem?_append_right (by rw [henc]; omega), henc]
      congr 1
      omega
/-- What stood from i on moved up, an element put at i. -/
theorem OwnL.insA (henc : ∀ x, (enc x).length = size) {g i cap m : Nat} {cur : Array Value} (hb : Blk w g e cur) (hs : cur.size = cap * size) (hi : i ≤ L.length) (hm : m = L.length + 1) (hc : m ≤ cap) (hmx : cap ≤ maxLen) (hcur : ∀ k, k < i * size → cur[k]? = ((L.take i).flatMap enc)[k]?) (x : X) :
    OwnL e size enc ((w.setCells g (i * size + size) ((L.drop i).flatMap enc)).setCells g (i * size) (enc x)) (.slice (some ⟨g, 0, none⟩) m cap) (L.take i ++ x :: L.drop i) := by
  have hdl : ((L.drop i).flatMap enc).length = (L.length - i) * size := by rw [flat_len henc, List.length_drop]
  have h1 : (L.length - i) * size + (i * size + size) = m * size := by rw [hm, Nat.add_mul, ← Nat.add_assoc, ← Nat.add_mul, Nat.sub_add_cancel hi, Nat.one_mul]
  have h2 : m * size ≤ cap * size := Nat.mul_le_mul_right _ hc
  refine OwnL.of_blk henc (Blk.puts _ _ (Blk.puts _ _ hb)) (by simp [hm]; omega) hc hmx (by rw [wr_size, wr_size, hs]) (fun k hk => ?_)
  rw [wr_get _ _ _ _ (by rw [wr_size, henc, hs]; omega), henc, wr_get _ _ _ _ (by rw [hdl, hs]; omega), hdl, flat_ins henc L x hi]
  by_cases c1 : k < i * size
  · rw [if_neg (by omega), if_neg (by omega), if_pos c1, hcur k c1]
  · by_cases c2 : k < i * size + size
    · rw [if_pos (by omega), if_neg c1, if_pos c2]
    · rw [if_neg (by omega), if_pos (by omega), if_neg c1, if_neg c2]
theorem OwnL.insB (henc : ∀ x, (enc x).length = size) {g i cap m : Nat} {cur : Array Value} (hb : Blk w g e cur) (hs : cur.size = cap * size) (hi : i ≤ L.length) (hm : m = L.length + 1) (hc : m ≤ cap) (hmx : cap ≤ maxLen) (hcur : ∀ k, k < i * size → cur[k]? = ((L.take i).flatMap enc)[k]?) (x : X) :
    OwnL e size enc ((w.setCells g (i * size) (enc x)).setCells g (i * size + size) ((L.drop i).flatMap enc)) (.slice (some ⟨g, 0, none⟩) m cap) (L.take i ++ x :: L.drop i) := by
  have hdl : ((L.drop i).flatMap enc).length = (L.length - i) * size := by rw [flat_len henc, List.length_drop]
  have h1 : (L.length - i) * size + (i * size + size) = m * size := by rw [hm, Nat.add_mul, ← Nat.add_assoc, ← Nat.add_mul, Nat.sub_add_cancel hi, Nat.one_mul]
  have h2 : m * size ≤ cap * size := Nat.mul_le_mul_right _ hc
  refine OwnL.of_blk henc (Blk.puts _ _ (Blk.puts _ _ hb)) (by simp [hm]; omega) hc hmx (by rw [wr_size, wr_size, hs]) (fun k hk => ?_)
  rw [wr_get _ _ _ _ (by rw [wr_size, hdl, hs]; omega), hdl, wr_get _ _ _ _ (by rw [henc, hs]; omega), henc, flat_ins henc L x hi]
  by_cases c1 : k < i * size
  · rw [if_neg (by omega), if_neg (by omega), if_pos c1, hcur k c1]
  · by_cases c2 : k < i * size + size
    · rw [if_neg (by omega), if_pos (by omega), if_neg c1, if_pos c2]
    · rw [if_pos (by omega), if_neg c1, if_neg c2]
end
/-- A store of an element of a row of one's own: the world behind it has a name. -/
theorem wpList_store_own {P : Program} {X : Type} {e size : Nat} {enc : X → List Value} {L : List X} {ops : Array Oper} {rest : List Oper} {o : Oper} {a : Act} {w : World} {Q : Exit → Act → World → Prop} (hgd : o.guard = none) (ty : TypeId) (x y : Operand) (ho : o.op = .store ty x y)
    (g off : Nat) (cells : Array Value) (hx : a.eval x = .pointer (some ⟨g, off, none⟩)) (hy : a.eval y = .agg cells)
    (i n cap : Nat) (v : X) (hown : OwnL e size enc w (.slice (some ⟨g, 0, none⟩) n cap) L) (henc : ∀ x, (enc x).length = size) (hone : ∀ x, ∀ u ∈ enc x, u.oneCell' = true) (hi : i < n) (hoff : off = i * size) (hcs : cells = (enc v).toArray)
    (hsz : (P.info? ty).map (·.size) = some size)
    (h : ∀ w', OwnL e size enc w' (.slice (some ⟨g, 0, none⟩) n cap) (L.set i v) → Fr [g] w w' → wpList P ops Q rest (a.put o.dst undef) w') : wpList P ops Q (o :: rest) a w := by
  subst hoff hcs
  have hcl : (enc v).toArray.size = size := by simp [henc]
  obtain ⟨-, h9 | ⟨g9, cur9, h91, hb9, hnc9, hcm9, hs9, ht9⟩⟩ := hown.blk
  · cases h9.1
  · injection h91 with h91
    injection h91 with h91
    subst h91
    have hle : i * size + size ≤ cap * size := by
      have := Nat.mul_le_mul_right size (show i + 1 ≤ cap by omega)
      rw [Nat.add_mul] at this
      omega
    exact wpList_store_put hgd ty x y ho g (i * size) (enc v).toArray hx hy e cur9 hb9 (by rw [hsz, hcl]) (by rw [hcl, hs9]; exact hle) (List.all_eq_true.2 (fun u hu => hone v u (by simpa using hu))) (h _ (by simpa using hown.put henc hi v) (Fr.puts _ _ (Fr.refl [g] w) (.inl (by simp))))
/-- The place of the first element of which p holds; -1 where there is none. -/
def idxP {X : Type} (p : X → Bool) : List X → Nat → Int
  | [], _ => -1
  | x :: l, i => if p x = true then i else idxP p l (i + 1)
theorem idxP_miss {X : Type} {p : X → Bool} : ∀ {l : List X} (i : Nat), (∀ x ∈ l, p x = false) → idxP p l i = -1
  | [], _, _ => rfl
  | x :: l, i, h => by
    rw [idxP, if_neg (by rw [h x (by simp)]; simp)]
    exact idxP_miss (i + 1) (fun y hy => h y (by simp [hy]))
theorem idxP_hit {X : Type} {p : X → Bool} : ∀ {l : List X} (i k : Nat) (hk : k < l.length), (∀ x ∈ l.take k, p x = false) → p l[k] = true → idxP p l i = ((i + k : Nat) : Int)
  | x :: l, i, 0, _, _, h => by
    rw [idxP, if_pos (by simpa using h)]
    rfl
  | x :: l, i, k + 1, hk, ha, h => by
    rw [idxP, if_neg (by rw [ha x (by simp)]; simp)]
    rw [idxP_hit (i + 1) k (by simpa using hk) (fun y hy => ha y (by simp [hy])) (by simpa using h)]
    congr 1
    omega
/-- Either p holds nowhere, or there is a first place. -/
theorem first_or {X : Type} (p : X → Bool) : ∀ l : List X, (∀ x ∈ l, p x = false) ∨ ∃ k, ∃ hk : k < l.length, (∀ x ∈ l.take k, p x = false) ∧ p l[k] = true
  | [] => .inl (by simp)
  | x :: l => by
    cases hp : p x with
    | true => exact .inr ⟨0, by simp, by simp, by simpa using hp⟩
    | false =>
      rcases first_or p l with h | ⟨k, hk, h1, h2⟩
      · exact .inl (fun y hy => by rcases List.mem_cons.1 hy with rfl | hy; exact hp; exact h y hy)
      · exact .inr ⟨k + 1, by simpa using hk, fun y hy => by
          rw [List.take_succ_cons] at hy
          rcases List.mem_cons.1 hy with rfl | hy
          · exact hp
          · exact h1 y hy, by simpa using h2⟩
end Go.Proofs.Ytjiikpmkedkbkaa
