/-
  The closures of package predicate that say whether a query is touched; the patches of a count and of a sum.
-/
import Derived.Test.YtjiikpmkedkbkaaGreatMar
namespace Go.Proofs.YtjiikpmkedkbkaaGreat
open Go.RowKit

theorem PtrR.isSome {w : World} {p : Option Addr} {x : Option RowV} (h : PtrR w p x) : p.isSome = x.isSome := by
  cases x with
  | none =>
    have h' : p = none := h
    rw [h']
    rfl
  | some r =>
    obtain ⟨g, e, _⟩ := h
    rw [e]
    rfl
/-- A function value that has captured nothing. -/
abbrev fnV (n : Nat) : Value := .func (.func n) #[] #[]
set_option maxRecDepth 100000 in
set_option maxHeartbeats 2000000 in
theorem pany_any (q : Qry) (c : Chg) (pb pa : Option Addr) (u v : Int) (w : World) : Calls Tryz.prog 59 #[.agg (effArr q c pb pa u v)] w fun e w' => e = .returned (.bool (pb.isSome || pa.isSome)) ∧ Fr [] w w' := by
  have F0 : Hid (Fr [] w (w.alloc (.cells (effArr q c pb pa u v) 88))) := Lib.hid ((Fr.refl _ _).alloc _)
  have HB := Lib.hid (EffAt.new w q c pb pa u v)
  go_enter Tryz.func59, Tryz.ntmps59
  go_upto_region 1 with (fail)
  generalize w.alloc (.cells (effArr q c pb pa u v) 88) = w1 at *
  have e17 := HB.out.c17
  have e18 := HB.out.c18
  cases pb with
  | none =>
    cases pa with
    | none => go_wp2; go_ret; exact ⟨rfl, F0.out⟩
    | some a => go_wp2; go_ret; exact ⟨rfl, F0.out⟩
  | some b => go_wp2; go_ret; exact ⟨rfl, F0.out⟩
set_option maxRecDepth 100000 in
set_option maxHeartbeats 2000000 in
theorem pone_any (q : Qry) (c : Chg) (pb pa : Option Addr) (u v : Int) (w : World) : Calls Tryz.prog 61 #[.agg (effArr q c pb pa u v)] w fun e w' => e = .returned (.bool (pb.isSome != pa.isSome)) ∧ Fr [] w w' := by
  have F0 : Hid (Fr [] w (w.alloc (.cells (effArr q c pb pa u v) 88))) := Lib.hid ((Fr.refl _ _).alloc _)
  have HB := Lib.hid (EffAt.new w q c pb pa u v)
  go_enter Tryz.func61, Tryz.ntmps61
  go_upto_region 1 with (fail)
  generalize w.alloc (.cells (effArr q c pb pa u v) 88) = w1 at *
  have e17 := HB.out.c17
  have e18 := HB.out.c18
  cases pb with
  | none =>
    cases pa with
    | none => go_wp2; go_ret; exact ⟨rfl, F0.out⟩
    | some a => go_wp2; go_ret; exact ⟨rfl, F0.out⟩
  | some b =>
    cases pa with
    | none => go_wp2; go_ret; exact ⟨rfl, F0.out⟩
    | some a => go_wp2; go_ret; exact ⟨rfl, F0.out⟩
set_option maxRecDepth 100000 in
set_option maxHeartbeats 2000000 in
theorem psum_t (q : Qry) (c : Chg) (pb pa : Option Addr) (u v : Int) (w : World) : Calls Tryz.prog 63 #[.agg (effArr q c pb pa u v)] w fun e w' => e = .returned (.bool (!decide (u = v))) ∧ Fr [] w w' := by
  have F0 : Hid (Fr [] w (w.alloc (.cells (effArr q c pb pa u v) 88))) := Lib.hid ((Fr.refl _ _).alloc _)
  have HB := Lib.hid (EffAt.new w q c pb pa u v)
  go_enter Tryz.func63, Tryz.ntmps63
  go_upto_region 1 with (fail)
  generalize w.alloc (.cells (effArr q c pb pa u v) 88) = w1 at *
  have e19 := HB.out.c19
  have e20 := HB.out.c20
  by_cases h : u = v
  · have e : (u != v) = false := by simp [h]
    go_wp2
    go_ret
    exact ⟨by simp [h], F0.out⟩
  · have e : (u != v) = true := by simp [h]
    go_wp2
    go_ret
    exact ⟨by simp [h], F0.out⟩
set_option maxRecDepth 100000 in
set_option maxHeartbeats 2000000 in
theorem pmin_t (q : Qry) (c : Chg) (pb pa : Option Addr) (u v : Int) (w : World) : Calls Tryz.prog 65 #[.agg (effArr q c pb pa u v)] w fun e w' => e = .returned (.bool ((pb.isSome != pa.isSome) || !decide (u = v))) ∧ Fr [] w w' := by
  have F0 : Hid (Fr [] w (w.alloc (.cells (effArr q c pb pa u v) 88))) := Lib.hid ((Fr.refl _ _).alloc _)
  have HB := Lib.hid (EffAt.new w q c pb pa u v)
  have HO := Lib.hid (pone_any q c pb pa u v)
  go_enter Tryz.func65, Tryz.ntmps65
  go_upto_region 1 with (fail)
  generalize w.alloc (.cells (effArr q c pb pa u v) 88) = w1 at *
  have HE := HB.out
  cases h1 : (pb.isSome != pa.isSome) with
  | true =>
    go_wp2_with (first
      | (refine wpList_load_row rfl _ _ rfl w.heap.size rfl 88 _ (0, 0) _ HE Tryz.underlying88 rfl (by kernel_rfl) ?_)
      | (go_at_call 61; refine (HO.out _).mono ?_; rintro e w2 ⟨rfl, f2⟩; rw [h1]; have F2 := Lib.hid (F0.out.trans f2); clear f2))
    go_ret
    exact ⟨by simp [h1], F2.out⟩
  | false =>
    by_cases h : u = v
    · subst h
      have e : (u != u) = false := by simp
      go_wp2_with (first
        | (refine wpList_load_row rfl _ _ rfl w.heap.size rfl 88 _ (0, 0) _ HE Tryz.underlying88 rfl (by kernel_rfl) ?_)
        | (go_at_call 61; refine (HO.out _).mono ?_; rintro e w2 ⟨rfl, f2⟩; rw [h1]; have F2 := Lib.hid (F0.out.trans f2); have e19 := (HB.out.fr0 f2).c19; have e20 := (HB.out.fr0 f2).c20; clear f2))
      go_ret
      exact ⟨by simp, F2.out⟩
    · have e : (u != v) = true := by simp [h]
      go_wp2_with (first
        | (refine wpList_load_row rfl _ _ rfl w.heap.size rfl 88 _ (0, 0) _ HE Tryz.underlying88 rfl (by kernel_rfl) ?_)
        | (go_at_call 61; refine (HO.out _).mono ?_; rintro e w2 ⟨rfl, f2⟩; rw [h1]; have F2 := Lib.hid (F0.out.trans f2); have e19 := (HB.out.fr0 f2).c19; have e20 := (HB.out.fr0 f2).c20; clear f2))
      go_ret
      exact ⟨by simp [h, h1], F2.out⟩
set_option maxRecDepth 100000 in
set_option maxHeartbeats 2000000 in
theorem pmax_t (q : Qry) (c : Chg) (pb pa : Option Addr) (u v : Int) (w : World) : Calls Tryz.prog 68 #[.agg (effArr q c pb pa u v)] w fun e w' => e = .returned (.bool ((pb.isSome != pa.isSome) || !decide (u = v))) ∧ Fr [] w w' := by
  have F0 : Hid (Fr [] w (w.alloc (.cells (effArr q c pb pa u v) 88))) := Lib.hid ((Fr.refl _ _).alloc _)
  have HB := Lib.hid (EffAt.new w q c pb pa u v)
  have HO := Lib.hid (pone_any q c pb pa u v)
  go_enter Tryz.func68, Tryz.ntmps68
  go_upto_region 1 with (fail)
  generalize w.alloc (.cells (effArr q c pb pa u v) 88) = w1 at *
  have HE := HB.out
  cases h1 : (pb.isSome != pa.isSome) with
  | true =>
    go_wp2_with (first
      | (refine wpList_load_row rfl _ _ rfl w.heap.size rfl 88 _ (0, 0) _ HE Tryz.underlying88 rfl (by kernel_rfl) ?_)
      | (go_at_call 61; refine (HO.out _).mono ?_; rintro e w2 ⟨rfl, f2⟩; rw [h1]; have F2 := Lib.hid (F0.out.trans f2); clear f2))
    go_ret
    exact ⟨by simp [h1], F2.out⟩
  | false =>
    by_cases h : u = v
    · subst h
      have e : (u != u) = false := by simp
      go_wp2_with (first
        | (refine wpList_load_row rfl _ _ rfl w.heap.size rfl 88 _ (0, 0) _ HE Tryz.underlying88 rfl (by kernel_rfl) ?_)
        | (go_at_call 61; refine (HO.out _).mono ?_; rintro e w2 ⟨rfl, f2⟩; rw [h1]; have F2 := Lib.hid (F0.out.trans f2); have e19 := (HB.out.fr0 f2).c19; have e20 := (HB.out.fr0 f2).c20; clear f2))
      go_ret
      exact ⟨by simp, F2.out⟩
    · have e : (u != v) = true := by simp [h]
      go_wp2_with (first
        | (refine wpList_load_row rfl _ _ rfl w.heap.size rfl 88 _ (0, 0) _ HE Tryz.underlying88 rfl (by kernel_rfl) ?_)
        | (go_at_call 61; refine (HO.out _).mono ?_; rintro e w2 ⟨rfl, f2⟩; rw [h1]; have F2 := Lib.hid (F0.out.trans f2); have e19 := (HB.out.fr0 f2).c19; have e20 := (HB.out.fr0 f2).c20; clear f2))
      go_ret
      exact ⟨by simp [h, h1], F2.out⟩
set_option maxRecDepth 100000 in
set_option maxHeartbeats 2000000 in
theorem pjoin_t (q : Qry) (c : Chg) (pb pa : Option Addr) (u v : Int) (w : World) : Calls Tryz.prog 70 #[.agg (effArr q c pb pa u v)] w fun e w' => e = .returned (.bool ((pb.isSome || pa.isSome) || decide (c.t = q.other))) ∧ Fr [] w w' := by
  have F0 : Hid (Fr [] w (w.alloc (.cells (effArr q c pb pa u v) 88))) := Lib.hid ((Fr.refl _ _).alloc _)
  have HB := Lib.hid (EffAt.new w q c pb pa u v)
  have HO := Lib.hid (pany_any q c pb pa u v)
  go_enter Tryz.func70, Tryz.ntmps70
  go_upto_region 1 with (fail)
  generalize w.alloc (.cells (effArr q c pb pa u v) 88) = w1 at *
  have HE := HB.out
  cases h1 : (pb.isSome || pa.isSome) with
  | true =>
    go_wp2_with (first
      | (refine wpList_load_row rfl _ _ rfl w.heap.size rfl 88 _ (0, 0) _ HE Tryz.underlying88 rfl (by kernel_rfl) ?_)
      | (go_at_call 59; refine (HO.out _).mono ?_; rintro e w2 ⟨rfl, f2⟩; rw [h1]; have F2 := Lib.hid (F0.out.trans f2); clear f2))
    go_ret
    exact ⟨by simp [h1], F2.out⟩
  | false =>
    go_wp2_with (first
      | (refine wpList_load_row rfl _ _ rfl w.heap.size rfl 88 _ (0, 0) _ HE Tryz.underlying88 rfl (by kernel_rfl) ?_)
      | (go_at_call 59; refine (HO.out _).mono ?_; rintro e w2 ⟨rfl, f2⟩; rw [h1]; have F2 := Lib.hid (F0.out.trans f2); have e7 := (HB.out.fr0 f2).c7; have e6 := (HB.out.fr0 f2).c6; clear f2))
    go_ret
    exact ⟨by rw [h1]; rfl, F2.out⟩
theorem pless_any (a b : Int) (w : World) : Calls Tryz.prog 67 #[.int .i64 a, .int .i64 b] w fun e w' => e = .returned (.bool (decide (a < b))) ∧ w = w' := by
  go_enter Tryz.func67, Tryz.ntmps67
  go_wp2
  go_ret
  exact ⟨rfl, rfl⟩
theorem pmore_any (a b : Int) (w : World) : Calls Tryz.prog 69 #[.int .i64 a, .int .i64 b] w fun e w' => e = .returned (.bool (decide (b < a))) ∧ w = w' := by
  go_enter Tryz.func69, Tryz.ntmps69
  go_wp2
  go_ret
  exact ⟨rfl, rfl⟩
set_option maxRecDepth 100000 in
theorem pextreme_any (lf : Nat) (w : World) : Calls Tryz.prog 66 #[fnV lf] w fun e w' => e = .returned (.func (.func 86) #[] #[.pointer (some ⟨w.heap.size, 0, none⟩)]) ∧ w' = w.alloc (.cells #[fnV lf] 100) := by
  go_enter Tryz.func66, Tryz.ntmps66
  go_wp2
  go_ret
  exact ⟨rfl, rfl⟩
set_option maxRecDepth 100000 in
set_option maxHeartbeats 2000000 in
theorem pcount_any (q : Qry) (c : Chg) (pb pa : Option Addr) (u v : Int) (X : Option Addr) (n cap : Nat) (m : Int) (f : Bool) (w : World) : Calls Tryz.prog 62 #[.agg (effArr q c pb pa u v), .agg #[.slice X n cap, .int .i64 m, .bool f]] w fun e w' => e = .returned (.tuple #[.agg #[.slice X n cap, .int .i64 (if pa.isSome = true then wrap64 (m + 1) else wrap64 (m - 1)), .bool f], .bool true]) ∧ Fr [] w w' := by
  have F0 : Hid (Fr [] w (((w.alloc (.cells (effArr q c pb pa u v) 88)).alloc (.cells #[.slice X n cap, .int .i64 m, .bool f] 34)).alloc (.cells #[.slice none 0 0, .int .i64 0, .bool false] 34))) := Lib.hid ((((Fr.refl _ _).alloc _).alloc _).alloc _)
  have HB : Hid (EffAt (((w.alloc (.cells (effArr q c pb pa u v) 88)).alloc (.cells #[.slice X n cap, .int .i64 m, .bool f] 34)).alloc (.cells #[.slice none 0 0, .int .i64 0, .bool false] 34)) w.heap.size q c pb pa u v) := Lib.hid (Blk.alloc (Blk.alloc (EffAt.new w q c pb pa u v) _) _)
  have hr := Blk.new (w.alloc (.cells (effArr q c pb pa u v) 88)) 34 #[.slice X n cap, .int .i64 m, .bool f]
  rw [World.size_alloc] at hr
  have HR : Hid (Blk (((w.alloc (.cells (effArr q c pb pa u v) 88)).alloc (.cells #[.slice X n cap, .int .i64 m, .bool f] 34)).alloc (.cells #[.slice none 0 0, .int .i64 0, .bool false] 34)) (w.heap.size + 1) 34 #[.slice X n cap, .int .i64 m, .bool f]) := Lib.hid (hr.alloc _)
  have hz := Blk.new ((w.alloc (.cells (effArr q c pb pa u v) 88)).alloc (.cells #[.slice X n cap, .int .i64 m, .bool f] 34)) 34 #[.slice none 0 0, .int .i64 0, .bool false]
  rw [World.size_alloc, World.size_alloc] at hz
  have HZ := Lib.hid hz
  clear hr hz
  go_enter Tryz.func62, Tryz.ntmps62
  go_upto_region 1 with (fail)
  generalize ((w.alloc (.cells (effArr q c pb pa u v) 88)).alloc (.cells #[.slice X n cap, .int .i64 m, .bool f] 34)).alloc (.cells #[.slice none 0 0, .int .i64 0, .bool false] 34) = w1 at *
  have r1 := HR.out.cell 1
  have y1 := HR.out.frozen 1
  have e18 := HB.out.c18
  cases pa with
  | none =>
    go_upto_region 4 with (fail)
    have hf2 : Fr [w.heap.size + 1] w1 (w1.setCell ⟨w.heap.size + 1, 1, none⟩ (.int .i64 (wrap64 (m - 1)))) := (Fr.refl _ _).setCell (.inl (by simp)) _
    have HR2 : Blk (w1.setCell ⟨w.heap.size + 1, 1, none⟩ (.int .i64 (wrap64 (m - 1)))) (w.heap.size + 1) 34 #[.slice X n cap, .int .i64 (wrap64 (m - 1)), .bool f] := HR.out.set_ 1 _
    have HZ2 := HZ.out.fr hf2 (by simp)
    have F2 := Lib.hid (F0.out.trans' hf2 (by simp))
    generalize w1.setCell ⟨w.heap.size + 1, 1, none⟩ (.int .i64 (wrap64 (m - 1))) = w2 at *
    go_wp2_with (first
      | (refine wpList_load_row rfl _ _ rfl (w.heap.size + 1) rfl 34 _ (0, 0) _ HR2 Tryz.underlying34 rfl (by kernel_rfl) ?_)
      | (refine wpList_store_blk rfl _ _ _ rfl (w.heap.size + 1 + 1) #[.slice X n cap, .int .i64 (wrap64 (m - 1)), .bool f] rfl rfl 34 _ HZ2 (by kernel_rfl) rfl rfl ?_; intro w3 hb3 hf3; have HB3 := Lib.hid hb3; have F3 := Lib.hid (F2.out.trans' hf3 (fun i hi => .inr (by rw [List.mem_singleton] at hi; omega))); clear hb3 hf3))
    have q0 := HB3.out.cell 0
    have q1 := HB3.out.cell 1
    have q2 := HB3.out.cell 2
    exact bodyPost_ret (v := .tuple #[.agg #[.slice X n cap, .int .i64 (wrap64 (m - 1)), .bool f], .bool true]) (by simp [results, Tryz.results62, go_sem, q0, q1, q2]) rfl ⟨rfl, F3.out⟩
  | some a =>
    go_upto_region 4 with (fail)
    have hf2 : Fr [w.heap.size + 1] w1 (w1.setCell ⟨w.heap.size + 1, 1, none⟩ (.int .i64 (wrap64 (m + 1)))) := (Fr.refl _ _).setCell (.inl (by simp)) _
    have HR2 : Blk (w1.setCell ⟨w.heap.size + 1, 1, none⟩ (.int .i64 (wrap64 (m + 1)))) (w.heap.size + 1) 34 #[.slice X n cap, .int .i64 (wrap64 (m + 1)), .bool f] := HR.out.set_ 1 _
    have HZ2 := HZ.out.fr hf2 (by simp)
    have F2 := Lib.hid (F0.out.trans' hf2 (by simp))
    generalize w1.setCell ⟨w.heap.size + 1, 1, none⟩ (.int .i64 (wrap64 (m + 1))) = w2 at *
    go_wp2_with (first
      | (refine wpList_load_row rfl _ _ rfl (w.heap.size + 1) rfl 34 _ (0, 0) _ HR2 Tryz.underlying34 rfl (by kernel_rfl) ?_)
      | (refine wpList_store_blk rfl _ _ _ rfl (w.heap.size + 1 + 1) #[.slice X n cap, .int .i64 (wrap64 (m + 1)), .bool f] rfl rfl 34 _ HZ2 (by kernel_rfl) rfl rfl ?_; intro w3 hb3 hf3; have HB3 := Lib.hid hb3; have F3 := Lib.hid (F2.out.trans' hf3 (fun i hi => .inr (by rw [List.mem_singleton] at hi; omega))); clear hb3 hf3))
    have q0 := HB3.out.cell 0
    have q1 := HB3.out.cell 1
    have q2 := HB3.out.cell 2
    exact bodyPost_ret (v := .tuple #[.agg #[.slice X n cap, .int .i64 (wrap64 (m + 1)), .bool f], .bool true]) (by simp [results, Tryz.results62, go_sem, q0, q1, q2]) rfl ⟨rfl, F3.out⟩
set_option maxRecDepth 100000 in
set_option maxHeartbeats 2000000 in
theorem psum_any (q : Qry) (c : Chg) (pb pa : Option Addr) (u v : Int) (X : Option Addr) (n cap : Nat) (m : Int) (f : Bool) (w : World) : Calls Tryz.prog 64 #[.agg (effArr q c pb pa u v), .agg #[.slice X n cap, .int .i64 m, .bool f]] w fun e w' => e = .returned (.tuple #[.agg #[.slice X n cap, .int .i64 (wrap64 (m + wrap64 (v - u))), .bool f], .bool true]) ∧ Fr [] w w' := by
  have F0 : Hid (Fr [] w (((w.alloc (.cells (effArr q c pb pa u v) 88)).alloc (.cells #[.slice X n cap, .int .i64 m, .bool f] 34)).alloc (.cells #[.slice none 0 0, .int .i64 0, .bool false] 34))) := Lib.hid ((((Fr.refl _ _).alloc _).alloc _).alloc _)
  have HB : Hid (EffAt (((w.alloc (.cells (effArr q c pb pa u v) 88)).alloc (.cells #[.slice X n cap, .int .i64 m, .bool f] 34)).alloc (.cells #[.slice none 0 0, .int .i64 0, .bool false] 34)) w.heap.size q c pb pa u v) := Lib.hid (Blk.alloc (Blk.alloc (EffAt.new w q c pb pa u v) _) _)
  have hr := Blk.new (w.alloc (.cells (effArr q c pb pa u v) 88)) 34 #[.slice X n cap, .int .i64 m, .bool f]
  rw [World.size_alloc] at hr
  have HR : Hid (Blk (((w.alloc (.cells (effArr q c pb pa u v) 88)).alloc (.cells #[.slice X n cap, .int .i64 m, .bool f] 34)).alloc (.cells #[.slice none 0 0, .int .i64 0, .bool false] 34)) (w.heap.size + 1) 34 #[.slice X n cap, .int .i64 m, .bool f]) := Lib.hid (hr.alloc _)
  have hz := Blk.new ((w.alloc (.cells (effArr q c pb pa u v) 88)).alloc (.cells #[.slice X n cap, .int .i64 m, .bool f] 34)) 34 #[.slice none 0 0, .int .i64 0, .bool false]
  rw [World.size_alloc, World.size_alloc] at hz
  have HZ := Lib.hid hz
  clear hr hz
  go_enter Tryz.func64, Tryz.ntmps64
  go_upto_region 1 with (fail)
  generalize ((w.alloc (.cells (effArr q c pb pa u v) 88)).alloc (.cells #[.slice X n cap, .int .i64 m, .bool f] 34)).alloc (.cells #[.slice none 0 0, .int .i64 0, .bool false] 34) = w1 at *
  have r1 := HR.out.cell 1
  have y1 := HR.out.frozen 1
  have e19 := HB.out.c19
  have e20 := HB.out.c20
  go_upto_region 2 with (fail)
  have hf2 : Fr [w.heap.size + 1] w1 (w1.setCell ⟨w.heap.size + 1, 1, none⟩ (.int .i64 (wrap64 (m + wrap64 (v - u))))) := (Fr.refl _ _).setCell (.inl (by simp)) _
  have HR2 : Blk (w1.setCell ⟨w.heap.size + 1, 1, none⟩ (.int .i64 (wrap64 (m + wrap64 (v - u))))) (w.heap.size + 1) 34 #[.slice X n cap, .int .i64 (wrap64 (m + wrap64 (v - u))), .bool f] := HR.out.set_ 1 _
  have HZ2 := HZ.out.fr hf2 (by simp)
  have F2 := Lib.hid (F0.out.trans' hf2 (by simp))
  generalize w1.setCell ⟨w.heap.size + 1, 1, none⟩ (.int .i64 (wrap64 (m + wrap64 (v - u)))) = w2 at *
  go_wp2_with (first
    | (refine wpList_load_row rfl _ _ rfl (w.heap.size + 1) rfl 34 _ (0, 0) _ HR2 Tryz.underlying34 rfl (by kernel_rfl) ?_)
    | (refine wpList_store_blk rfl _ _ _ rfl (w.heap.size + 1 + 1) #[.slice X n cap, .int .i64 (wrap64 (m + wrap64 (v - u))), .bool f] rfl rfl 34 _ HZ2 (by kernel_rfl) rfl rfl ?_; intro w3 hb3 hf3; have HB3 := Lib.hid hb3; have F3 := Lib.hid (F2.out.trans' hf3 (fun i hi => .inr (by rw [List.mem_singleton] at hi; omega))); clear hb3 hf3))
  have q0 := HB3.out.cell 0
  have q1 := HB3.out.cell 1
  have q2 := HB3.out.cell 2
  exact bodyPost_ret (v := .tuple #[.agg #[.slice X n cap, .int .i64 (wrap64 (m + wrap64 (v - u))), .bool f], .bool true]) (by simp [results, Tryz.results64, go_sem, q0, q1, q2]) rfl ⟨rfl, F3.out⟩
end Go.Proofs.YtjiikpmkedkbkaaGreat
