/-
  Reference 07: extreme.
-/
import Derived.Test.YtjiikpmkedkbkaaRsB
import Derived.Test.YtjiikpmkedkbkaaGbd
namespace Go.Proofs.Ytjiikpmkedkbkaa
open Go.RowKit

set_option maxRecDepth 100000 in
set_option maxHeartbeats 8000000 in
theorem rextE_any (sg : Int) (bt : Int → Int → Bool) (q : Qry) (c : Chg) (X : Option Addr) (n cap : Nat) (m : Int) (f : Bool) (w : World) (hbt : ∀ a b W, Calls Try.prog 66 #[.int .i64 sg, .int .i64 a, .int .i64 b] W fun e w' => e = .returned (.bool (bt a b)) ∧ W = w') :
    Calls Try.prog 34 #[q.val, .agg #[.slice X n cap, .int .i64 m, .bool f], c.val, .int .i64 sg] w fun e w' => ∃ A' n' c' m' f', e = .returned (.tuple #[.agg #[.slice A' n' c', .int .i64 m', .bool f'], .bool (Pm.extE bt (Pm.B q c).isSome (Pm.A q c).isSome f m (Pm.old q c) (Pm.now q c)).2.2]) ∧ ((Pm.extE bt (Pm.B q c).isSome (Pm.A q c).isSome f m (Pm.old q c) (Pm.now q c)).2.2 = true → A' = X ∧ n' = n ∧ c' = cap ∧ m' = (Pm.extE bt (Pm.B q c).isSome (Pm.A q c).isSome f m (Pm.old q c) (Pm.now q c)).1 ∧ f' = (Pm.extE bt (Pm.B q c).isSome (Pm.A q c).isSome f m (Pm.old q c) (Pm.now q c)).2.1) ∧ ((Pm.extE bt (Pm.B q c).isSome (Pm.A q c).isSome f m (Pm.old q c) (Pm.now q c)).2.2 = false → A' = none ∧ n' = 0 ∧ m' = 0 ∧ f' = false) ∧ Fr [] w w' := by
  have HBT := Lib.hid hbt
  clear hbt
  obtain ⟨E, HEE⟩ : ∃ E, Hid (Pm.extE bt (Pm.B q c).isSome (Pm.A q c).isSome f m (Pm.old q c) (Pm.now q c) = E) := ⟨_, Lib.hid rfl⟩
  rw [HEE.out]
  have F0 : Hid (Fr [] w ((((w.alloc (.cells #[.int .i64 q.kind, .int .i64 q.table, .int .i64 q.column, .int .i64 q.low, .int .i64 q.high, .int .i64 q.by_, .int .i64 q.other] 24)).alloc (.cells #[.slice X n cap, .int .i64 m, .bool f] 27)).alloc (.cells #[.int .i64 c.t, .int .i64 c.k, .bool c.had, .int .i64 c.o0, .int .i64 c.o1, .int .i64 c.o2, .bool c.has, .int .i64 c.n0, .int .i64 c.n1, .int .i64 c.n2] 30)).alloc (.cells #[.slice none 0 0, .int .i64 0, .bool false] 27))) := Lib.hid ((((((Fr.refl _ _).alloc _).alloc _).alloc _).alloc _))
  have hbq := Blk.new w 24 #[.int .i64 q.kind, .int .i64 q.table, .int .i64 q.column, .int .i64 q.low, .int .i64 q.high, .int .i64 q.by_, .int .i64 q.other]
  have hqB : Blk ((((w.alloc (.cells #[.int .i64 q.kind, .int .i64 q.table, .int .i64 q.column, .int .i64 q.low, .int .i64 q.high, .int .i64 q.by_, .int .i64 q.other] 24)).alloc (.cells #[.slice X n cap, .int .i64 m, .bool f] 27)).alloc (.cells #[.int .i64 c.t, .int .i64 c.k, .bool c.had, .int .i64 c.o0, .int .i64 c.o1, .int .i64 c.o2, .bool c.has, .int .i64 c.n0, .int .i64 c.n1, .int .i64 c.n2] 30)).alloc (.cells #[.slice none 0 0, .int .i64 0, .bool false] 27)) w.heap.size 24 #[.int .i64 q.kind, .int .i64 q.table, .int .i64 q.column, .int .i64 q.low, .int .i64 q.high, .int .i64 q.by_, .int .i64 q.other] := (((hbq.alloc _).alloc _).alloc _)
  have hbr := Blk.new (w.alloc (.cells #[.int .i64 q.kind, .int .i64 q.table, .int .i64 q.column, .int .i64 q.low, .int .i64 q.high, .int .i64 q.by_, .int .i64 q.other] 24)) 27 #[.slice X n cap, .int .i64 m, .bool f]
  rw [World.size_alloc] at hbr
  have HR : Hid (Blk ((((w.alloc (.cells #[.int .i64 q.kind, .int .i64 q.table, .int .i64 q.column, .int .i64 q.low, .int .i64 q.high, .int .i64 q.by_, .int .i64 q.other] 24)).alloc (.cells #[.slice X n cap, .int .i64 m, .bool f] 27)).alloc (.cells #[.int .i64 c.t, .int .i64 c.k, .bool c.had, .int .i64 c.o0, .int .i64 c.o1, .int .i64 c.o2, .bool c.has, .int .i64 c.n0, .int .i64 c.n1, .int .i64 c.n2] 30)).alloc (.cells #[.slice none 0 0, .int .i64 0, .bool false] 27)) (w.heap.size + 1) 27 #[.slice X n cap, .int .i64 m, .bool f]) := Lib.hid ((hbr.alloc _).alloc _)
  have hbc := Blk.new ((w.alloc (.cells #[.int .i64 q.kind, .int .i64 q.table, .int .i64 q.column, .int .i64 q.low, .int .i64 q.high, .int .i64 q.by_, .int .i64 q.other] 24)).alloc (.cells #[.slice X n cap, .int .i64 m, .bool f] 27)) 30 #[.int .i64 c.t, .int .i64 c.k, .bool c.had, .int .i64 c.o0, .int .i64 c.o1, .int .i64 c.o2, .bool c.has, .int .i64 c.n0, .int .i64 c.n1, .int .i64 c.n2]
  rw [World.size_alloc, World.size_alloc] at hbc
  have hcB : Blk ((((w.alloc (.cells #[.int .i64 q.kind, .int .i64 q.table, .int .i64 q.column, .int .i64 q.low, .int .i64 q.high, .int .i64 q.by_, .int .i64 q.other] 24)).alloc (.cells #[.slice X n cap, .int .i64 m, .bool f] 27)).alloc (.cells #[.int .i64 c.t, .int .i64 c.k, .bool c.had, .int .i64 c.o0, .int .i64 c.o1, .int .i64 c.o2, .bool c.has, .int .i64 c.n0, .int .i64 c.n1, .int .i64 c.n2] 30)).alloc (.cells #[.slice none 0 0, .int .i64 0, .bool false] 27)) (w.heap.size + 1 + 1) 30 #[.int .i64 c.t, .int .i64 c.k, .bool c.had, .int .i64 c.o0, .int .i64 c.o1, .int .i64 c.o2, .bool c.has, .int .i64 c.n0, .int .i64 c.n1, .int .i64 c.n2] := (hbc.alloc _)
  have hbz := Blk.new (((w.alloc (.cells #[.int .i64 q.kind, .int .i64 q.table, .int .i64 q.column, .int .i64 q.low, .int .i64 q.high, .int .i64 q.by_, .int .i64 q.other] 24)).alloc (.cells #[.slice X n cap, .int .i64 m, .bool f] 27)).alloc (.cells #[.int .i64 c.t, .int .i64 c.k, .bool c.had, .int .i64 c.o0, .int .i64 c.o1, .int .i64 c.o2, .bool c.has, .int .i64 c.n0, .int .i64 c.n1, .int .i64 c.n2] 30)) 27 #[.slice none 0 0, .int .i64 0, .bool false]
  rw [World.size_alloc, World.size_alloc, World.size_alloc] at hbz
  have HZ : Hid (Blk ((((w.alloc (.cells #[.int .i64 q.kind, .int .i64 q.table, .int .i64 q.column, .int .i64 q.low, .int .i64 q.high, .int .i64 q.by_, .int .i64 q.other] 24)).alloc (.cells #[.slice X n cap, .int .i64 m, .bool f] 27)).alloc (.cells #[.int .i64 c.t, .int .i64 c.k, .bool c.had, .int .i64 c.o0, .int .i64 c.o1, .int .i64 c.o2, .bool c.has, .int .i64 c.n0, .int .i64 c.n1, .int .i64 c.n2] 30)).alloc (.cells #[.slice none 0 0, .int .i64 0, .bool false] 27)) (w.heap.size + 1 + 1 + 1) 27 #[.slice none 0 0, .int .i64 0, .bool false]) := Lib.hid hbz
  have AT : Hid (RtAt ((((w.alloc (.cells #[.int .i64 q.kind, .int .i64 q.table, .int .i64 q.column, .int .i64 q.low, .int .i64 q.high, .int .i64 q.by_, .int .i64 q.other] 24)).alloc (.cells #[.slice X n cap, .int .i64 m, .bool f] 27)).alloc (.cells #[.int .i64 c.t, .int .i64 c.k, .bool c.had, .int .i64 c.o0, .int .i64 c.o1, .int .i64 c.o2, .bool c.has, .int .i64 c.n0, .int .i64 c.n1, .int .i64 c.n2] 30)).alloc (.cells #[.slice none 0 0, .int .i64 0, .bool false] 27)) w.heap.size (w.heap.size + 1 + 1) q c) := Lib.hid ⟨hqB, hcB⟩
  clear hqB hcB
  clear hbq hbr hbc hbz
  go_enter Try.func34, Try.ntmps34
  go_upto_region 1 with (fail)
  generalize ((((w.alloc (.cells #[.int .i64 q.kind, .int .i64 q.table, .int .i64 q.column, .int .i64 q.low, .int .i64 q.high, .int .i64 q.by_, .int .i64 q.other] 24)).alloc (.cells #[.slice X n cap, .int .i64 m, .bool f] 27)).alloc (.cells #[.int .i64 c.t, .int .i64 c.k, .bool c.had, .int .i64 c.o0, .int .i64 c.o1, .int .i64 c.o2, .bool c.has, .int .i64 c.n0, .int .i64 c.n1, .int .i64 c.n2] 30)).alloc (.cells #[.slice none 0 0, .int .i64 0, .bool false] 27)) = w5 at *
  have HC := Lib.hid (fun W => rhad_row c W)
  have hc := AT.out.c
  go_upto_region 2 with (first
    | (refine wpList_load_row rfl _ _ rfl (w.heap.size + 1 + 1) rfl 30 _ (0, 0) _ hc Try.underlying30 rfl (by kernel_rfl) ?_)
    | (go_at_call 21; refine (HC.out _).mono ?_; rintro e w4 ⟨rfl, f3⟩; have F3 := Lib.hid f3; clear f3))
  clear hc HC
  have f5 := F3.out.alloc (.cells #[.int .i64 (Pm.rowB c).t, .int .i64 (Pm.rowB c).k, .int .i64 (Pm.rowB c).x, .int .i64 (Pm.rowB c).y, .int .i64 (Pm.rowB c).z] 57)
  have Brb := Lib.hid (Blk.new w4 57 #[.int .i64 (Pm.rowB c).t, .int .i64 (Pm.rowB c).k, .int .i64 (Pm.rowB c).x, .int .i64 (Pm.rowB c).y, .int .i64 (Pm.rowB c).z])
  have HGrb : Hid (w.heap.size ≤ w4.heap.size) := Lib.hid (Nat.le_trans F0.out.size F3.out.size)
  replace AT := Lib.hid (AT.out.fr0 f5)
  replace F0 := Lib.hid (F0.out.trans f5)
  replace HR := Lib.hid (HR.out.fr f5 (by simp))
  replace HZ := Lib.hid (HZ.out.fr f5 (by simp))
  clear f5 F3
  generalize hw5 : w4.alloc (.cells #[.int .i64 (Pm.rowB c).t, .int .i64 (Pm.rowB c).k, .int .i64 (Pm.rowB c).x, .int .i64 (Pm.rowB c).y, .int .i64 (Pm.rowB c).z] 57) = w5 at *
  clear hw5
  generalize w4.heap.size = grb at *
  have HC := Lib.hid (fun W => rhas_row c W)
  have hc := AT.out.c
  go_upto_region 3 with (first
    | (refine wpList_load_row rfl _ _ rfl (w.heap.size + 1 + 1) rfl 30 _ (0, 0) _ hc Try.underlying30 rfl (by kernel_rfl) ?_)
    | (go_at_call 22; refine (HC.out _).mono ?_; rintro e w4 ⟨rfl, f3⟩; have F3 := Lib.hid f3; clear f3))
  clear hc HC
  have f5 := F3.out.alloc (.cells #[.int .i64 (Pm.rowA c).t, .int .i64 (Pm.rowA c).k, .int .i64 (Pm.rowA c).x, .int .i64 (Pm.rowA c).y, .int .i64 (Pm.rowA c).z] 57)
  have Bra := Lib.hid (Blk.new w4 57 #[.int .i64 (Pm.rowA c).t, .int .i64 (Pm.rowA c).k, .int .i64 (Pm.rowA c).x, .int .i64 (Pm.rowA c).y, .int .i64 (Pm.rowA c).z])
  have HGra : Hid (w.heap.size ≤ w4.heap.size) := Lib.hid (Nat.le_trans F0.out.size F3.out.size)
  replace AT := Lib.hid (AT.out.fr0 f5)
  replace F0 := Lib.hid (F0.out.trans f5)
  replace HR := Lib.hid (HR.out.fr f5 (by simp))
  replace HZ := Lib.hid (HZ.out.fr f5 (by simp))
  replace Brb := Lib.hid (Brb.out.fr f5 (by simp))
  clear f5 F3
  generalize hw5 : w4.alloc (.cells #[.int .i64 (Pm.rowA c).t, .int .i64 (Pm.rowA c).k, .int .i64 (Pm.rowA c).x, .int .i64 (Pm.rowA c).y, .int .i64 (Pm.rowA c).z] 57) = w5 at *
  clear hw5
  generalize w4.heap.size = gra at *
  have HC := Lib.hid (fun W => rin_any q (Pm.rowB c) c.had W)
  rw [Pm.inB] at HC
  have hr := Brb.out
  have hq : Blk w5 w.heap.size 24 #[.int .i64 q.kind, .int .i64 q.table, .int .i64 q.column, .int .i64 q.low, .int .i64 q.high, .int .i64 q.by_, .int .i64 q.other] := AT.out.q
  go_upto_region 4 with (first
    | (refine wpList_load_row rfl _ _ rfl w.heap.size rfl 24 _ (0, 0) _ hq Try.underlying24 rfl (by kernel_rfl) ?_)
    | (refine wpList_load_row rfl _ _ rfl grb rfl 57 _ (0, 0) _ hr Try.underlying57 rfl (by kernel_rfl) ?_)
    | (go_at_call 31; refine (HC.out _).mono ?_; rintro e w4 ⟨rfl, f3⟩; have F3 := Lib.hid f3; clear f3))
  clear hr hq HC
  replace AT := Lib.hid (AT.out.fr0 F3.out)
  replace F0 := Lib.hid (F0.out.trans F3.out)
  replace HR := Lib.hid (HR.out.fr F3.out (by simp))
  replace HZ := Lib.hid (HZ.out.fr F3.out (by simp))
  replace Brb := Lib.hid (Brb.out.fr F3.out (by simp))
  replace Bra := Lib.hid (Bra.out.fr F3.out (by simp))
  clear F3
  generalize hw5 : w4 = w5 at *
  clear hw5
  have HC := Lib.hid (fun W => rin_any q (Pm.rowA c) c.has W)
  rw [Pm.inA] at HC
  have hr := Bra.out
  have hq : Blk w5 w.heap.size 24 #[.int .i64 q.kind, .int .i64 q.table, .int .i64 q.column, .int .i64 q.low, .int .i64 q.high, .int .i64 q.by_, .int .i64 q.other] := AT.out.q
  go_upto_region 5 with (first
    | (refine wpList_load_row rfl _ _ rfl w.heap.size rfl 24 _ (0, 0) _ hq Try.underlying24 rfl (by kernel_rfl) ?_)
    | (refine wpList_load_row rfl _ _ rfl gra rfl 57 _ (0, 0) _ hr Try.underlying57 rfl (by kernel_rfl) ?_)
    | (go_at_call 31; refine (HC.out _).mono ?_; rintro e w4 ⟨rfl, f3⟩; have F3 := Lib.hid f3; clear f3))
  clear hr hq HC
  replace AT := Lib.hid (AT.out.fr0 F3.out)
  replace F0 := Lib.hid (F0.out.trans F3.out)
  replace HR := Lib.hid (HR.out.fr F3.out (by simp))
  replace HZ := Lib.hid (HZ.out.fr F3.out (by simp))
  replace Brb := Lib.hid (Brb.out.fr F3.out (by simp))
  replace Bra := Lib.hid (Bra.out.fr F3.out (by simp))
  clear F3
  generalize hw5 : w4 = w5 at *
  clear hw5
  have HC := Lib.hid (fun W => rmeasure_any q (Pm.rowB c) (Pm.B q c).isSome W)
  rw [Pm.mB] at HC
  have hr := Brb.out
  have hq : Blk w5 w.heap.size 24 #[.int .i64 q.kind, .int .i64 q.table, .int .i64 q.column, .int .i64 q.low, .int .i64 q.high, .int .i64 q.by_, .int .i64 q.other] := AT.out.q
  go_upto_region 6 with (first
    | (refine wpList_load_row rfl _ _ rfl w.heap.size rfl 24 _ (0, 0) _ hq Try.underlying24 rfl (by kernel_rfl) ?_)
    | (refine wpList_load_row rfl _ _ rfl grb rfl 57 _ (0, 0) _ hr Try.underlying57 rfl (by kernel_rfl) ?_)
    | (go_at_call 33; refine (HC.out _).mono ?_; rintro e w4 ⟨rfl, f3⟩; have F3 := Lib.hid f3; clear f3))
  clear hr hq HC
  replace AT := Lib.hid (AT.out.fr0 F3.out)
  replace F0 := Lib.hid (F0.out.trans F3.out)
  replace HR := Lib.hid (HR.out.fr F3.out (by simp))
  replace HZ := Lib.hid (HZ.out.fr F3.out (by simp))
  replace Brb := Lib.hid (Brb.out.fr F3.out (by simp))
  replace Bra := Lib.hid (Bra.out.fr F3.out (by simp))
  clear F3
  generalize hw5 : w4 = w5 at *
  clear hw5
  have HC := Lib.hid (fun W => rmeasure_any q (Pm.rowA c) (Pm.A q c).isSome W)
  rw [Pm.mA] at HC
  have hr := Bra.out
  have hq : Blk w5 w.heap.size 24 #[.int .i64 q.kind, .int .i64 q.table, .int .i64 q.column, .int .i64 q.low, .int .i64 q.high, .int .i64 q.by_, .int .i64 q.other] := AT.out.q
  go_upto_region 7 with (first
    | (refine wpList_load_row rfl _ _ rfl w.heap.size rfl 24 _ (0, 0) _ hq Try.underlying24 rfl (by kernel_rfl) ?_)
    | (refine wpList_load_row rfl _ _ rfl gra rfl 57 _ (0, 0) _ hr Try.underlying57 rfl (by kernel_rfl) ?_)
    | (go_at_call 33; refine (HC.out _).mono ?_; rintro e w4 ⟨rfl, f3⟩; have F3 := Lib.hid f3; clear f3))
  clear hr hq HC
  replace AT := Lib.hid (AT.out.fr0 F3.out)
  replace F0 := Lib.hid (F0.out.trans F3.out)
  replace HR := Lib.hid (HR.out.fr F3.out (by simp))
  replace HZ := Lib.hid (HZ.out.fr F3.out (by simp))
  replace Brb := Lib.hid (Brb.out.fr F3.out (by simp))
  replace Bra := Lib.hid (Bra.out.fr F3.out (by simp))
  clear F3
  generalize hw5 : w4 = w5 at *
  clear hw5
  clear Brb Bra AT HGrb HGra
  generalize (Pm.B q c).isSome = sb at *
  generalize (Pm.A q c).isSome = sa at *
  generalize Pm.old q c = u at *
  generalize Pm.now q c = v at *
  cases sb with
  | true =>
    cases sa with
    | true =>
      cases hf : f with
      | true =>
        cases hb1 : bt m u with
        | true =>
          cases hb3 : bt v m with
          | true =>
            have r1 := HR.out.cell 1
            have r2 := HR.out.cell 2
            have y1 := HR.out.frozen 1
            have y2 := HR.out.frozen 2
            have B2 : Hid True := Lib.hid trivial
            have HE : Hid (E = (v, true, true)) := Lib.hid (by rw [← HEE.out]; simp [Pm.extE, hf, hb1, hb3])
            clear HEE
            have B1 : Hid (bt m u = true) := Lib.hid hb1
            clear hb1
            have B3 : Hid (bt v m = true) := Lib.hid hb3
            clear hb3
            subst hf
            go_upto_region 15 with (go_at_call 66; refine (HBT.out _ _ _).mono ?_; rintro e wx ⟨rfl, rfl⟩; (first | rw [B1.out] | rw [B2.out] | rw [B3.out]))
            have hfsA : Fr [(w.heap.size + 1)] w5 (w5.setCell ⟨(w.heap.size + 1), 1, none⟩ (.int .i64 v)) := (Fr.refl _ _).setCell (.inl (by simp)) _
            have HRA : Hid (Blk (w5.setCell ⟨(w.heap.size + 1), 1, none⟩ (.int .i64 v)) (w.heap.size + 1) 27 #[.slice X n cap, .int .i64 v, .bool true]) := Lib.hid (HR.out.set_ 1 _)
            have HZA := Lib.hid (HZ.out.fr hfsA (by simp only [List.mem_singleton]; omega))
            have FA := Lib.hid (F0.out.trans' hfsA (by simp))
            clear hfsA
            generalize w5.setCell ⟨(w.heap.size + 1), 1, none⟩ (.int .i64 v) = w6 at *
            have x2 := HRA.out.cell 2
            have x3 := HRA.out.frozen 2
            go_upto_region 16 with (go_at_call 66; refine (HBT.out _ _ _).mono ?_; rintro e wx ⟨rfl, rfl⟩; (first | rw [B1.out] | rw [B2.out] | rw [B3.out]))
            have hfsB : Fr [(w.heap.size + 1)] w6 (w6.setCell ⟨(w.heap.size + 1), 2, none⟩ (.bool true)) := (Fr.refl _ _).setCell (.inl (by simp)) _
            have HRB : Hid (Blk (w6.setCell ⟨(w.heap.size + 1), 2, none⟩ (.bool true)) (w.heap.size + 1) 27 #[.slice X n cap, .int .i64 v, .bool true]) := Lib.hid (HRA.out.set_ 2 _)
            have HZB := Lib.hid (HZA.out.fr hfsB (by simp only [List.mem_singleton]; omega))
            have FB := Lib.hid (FA.out.trans' hfsB (by simp))
            clear hfsB
            generalize w6.setCell ⟨(w.heap.size + 1), 2, none⟩ (.bool true) = w7 at *
            have HRF := HRB.out
            have HZF := HZB.out
            go_wp2_with (first
              | (refine wpList_load_row rfl _ _ rfl (w.heap.size + 1) rfl 27 _ (0, 0) _ HRF Try.underlying27 rfl (by kernel_rfl) ?_)
              | (refine wpList_store_blk rfl _ _ _ rfl (w.heap.size + 1 + 1 + 1) #[.slice X n cap, .int .i64 v, .bool true] rfl rfl 27 _ HZF (by kernel_rfl) rfl rfl ?_; intro w9 hb9 hf9; have HB9 := Lib.hid hb9; have HF9 := Lib.hid hf9; clear hb9 hf9))
            have q0 := HB9.out.cell 0
            have q1 := HB9.out.cell 1
            have q2 := HB9.out.cell 2
            exact bodyPost_ret (v := .tuple #[.agg #[.slice X n cap, .int .i64 v, .bool true], .bool true]) (by simp [results, Try.results34, go_sem, q0, q1, q2]) rfl ⟨_, _, _, _, _, by rw [HE.out], by rw [HE.out]; exact fun _ => ⟨rfl, rfl, rfl, rfl, rfl⟩, by rw [HE.out]; exact fun h => (by cases h), FB.out.trans' HF9.out (fun i hi => .inr (by rw [List.mem_singleton] at hi; omega))⟩
          | false =>
            have r1 := HR.out.cell 1
            have r2 := HR.out.cell 2
            have y1 := HR.out.frozen 1
            have y2 := HR.out.frozen 2
            have B2 : Hid True := Lib.hid trivial
            have HE : Hid (E = (m, true, true)) := Lib.hid (by rw [← HEE.out]; simp [Pm.extE, hf, hb1, hb3])
            clear HEE
            have B1 : Hid (bt m u = true) := Lib.hid hb1
            clear hb1
            have B3 : Hid (bt v m = false) := Lib.hid hb3
            clear hb3
            subst hf
            go_upto_region 16 with (go_at_call 66; refine (HBT.out _ _ _).mono ?_; rintro e wx ⟨rfl, rfl⟩; (first | rw [B1.out] | rw [B2.out] | rw [B3.out]))
            have hfsB : Fr [(w.heap.size + 1)] w5 (w5.setCell ⟨(w.heap.size + 1), 2, none⟩ (.bool true)) := (Fr.refl _ _).setCell (.inl (by simp)) _
            have HRB : Hid (Blk (w5.setCell ⟨(w.heap.size + 1), 2, none⟩ (.bool true)) (w.heap.size + 1) 27 #[.slice X n cap, .int .i64 m, .bool true]) := Lib.hid (HR.out.set_ 2 _)
            have HZB := Lib.hid (HZ.out.fr hfsB (by simp only [List.mem_singleton]; omega))
            have FB := Lib.hid (F0.out.trans' hfsB (by simp))
            clear hfsB
            generalize w5.setCell ⟨(w.heap.size + 1), 2, none⟩ (.bool true) = w7 at *
            have HRF := HRB.out
            have HZF := HZB.out
            go_wp2_with (first
              | (refine wpList_load_row rfl _ _ rfl (w.heap.size + 1) rfl 27 _ (0, 0) _ HRF Try.underlying27 rfl (by kernel_rfl) ?_)
              | (refine wpList_store_blk rfl _ _ _ rfl (w.heap.size + 1 + 1 + 1) #[.slice X n cap, .int .i64 m, .bool true] rfl rfl 27 _ HZF (by kernel_rfl) rfl rfl ?_; intro w9 hb9 hf9; have HB9 := Lib.hid hb9; have HF9 := Lib.hid hf9; clear hb9 hf9))
            have q0 := HB9.out.cell 0
            have q1 := HB9.out.cell 1
            have q2 := HB9.out.cell 2
            exact bodyPost_ret (v := .tuple #[.agg #[.slice X n cap, .int .i64 m, .bool true], .bool true]) (by simp [results, Try.results34, go_sem, q0, q1, q2]) rfl ⟨_, _, _, _, _, by rw [HE.out], by rw [HE.out]; exact fun _ => ⟨rfl, rfl, rfl, rfl, rfl⟩, by rw [HE.out]; exact fun h => (by cases h), FB.out.trans' HF9.out (fun i hi => .inr (by rw [List.mem_singleton] at hi; omega))⟩
        | false =>
          cases hb2 : bt m v with
          | true =>
            have r1 := HR.out.cell 1
            have r2 := HR.out.cell 2
            have y1 := HR.out.frozen 1
            have y2 := HR.out.frozen 2
            have B3 : Hid True := Lib.hid trivial
            have HE : Hid (E = (v, f, false)) := Lib.hid (by rw [← HEE.out]; simp [Pm.extE, hf, hb1, hb2])
            clear HEE
            have B1 : Hid (bt m u = false) := Lib.hid hb1
            clear hb1
            have B2 : Hid (bt m v = true) := Lib.hid hb2
            clear hb2
            subst hf
            go_upto_region 9 with (go_at_call 66; refine (HBT.out _ _ _).mono ?_; rintro e wx ⟨rfl, rfl⟩; (first | rw [B1.out] | rw [B2.out] | rw [B3.out]))
            have HRF := HR.out
            have HZF := HZ.out
            go_wp2_with (first
              | (refine wpList_build_is rfl _ _ rfl #[.slice none 0 0, .int .i64 0, .bool false] (by kernel_rfl) ?_)
              | (refine wpList_store_blk rfl _ _ _ rfl (w.heap.size + 1 + 1 + 1) #[.slice none 0 0, .int .i64 0, .bool false] rfl rfl 27 _ HZF (by kernel_rfl) rfl rfl ?_; intro w9 hb9 hf9; have HB9 := Lib.hid hb9; have HF9 := Lib.hid hf9; clear hb9 hf9))
            have q0 := HB9.out.cell 0
            have q1 := HB9.out.cell 1
            have q2 := HB9.out.cell 2
            exact bodyPost_ret (v := .tuple #[.agg #[.slice none 0 0, .int .i64 0, .bool false], .bool false]) (by simp [results, Try.results34, go_sem, q0, q1, q2]) rfl ⟨_, _, _, _, _, by rw [HE.out], by rw [HE.out]; exact fun h => (by cases h), by rw [HE.out]; exact fun _ => ⟨rfl, rfl, rfl, rfl⟩, F0.out.trans' HF9.out (fun i hi => .inr (by rw [List.mem_singleton] at hi; omega))⟩
          | false =>
            have r1 := HR.out.cell 1
            have r2 := HR.out.cell 2
            have y1 := HR.out.frozen 1
            have y2 := HR.out.frozen 2
            have B3 : Hid True := Lib.hid trivial
            have HE : Hid (E = (v, f, true)) := Lib.hid (by rw [← HEE.out]; simp [Pm.extE, hf, hb1, hb2])
            clear HEE
            have B1 : Hid (bt m u = false) := Lib.hid hb1
            clear hb1
            have B2 : Hid (bt m v = false) := Lib.hid hb2
            clear hb2
            subst hf
            go_upto_region 11 with (go_at_call 66; refine (HBT.out _ _ _).mono ?_; rintro e wx ⟨rfl, rfl⟩; (first | rw [B1.out] | rw [B2.out] | rw [B3.out]))
            have hfsA : Fr [(w.heap.size + 1)] w5 (w5.setCell ⟨(w.heap.size + 1), 1, none⟩ (.int .i64 v)) := (Fr.refl _ _).setCell (.inl (by simp)) _
            have HRA : Hid (Blk (w5.setCell ⟨(w.heap.size + 1), 1, none⟩ (.int .i64 v)) (w.heap.size + 1) 27 #[.slice X n cap, .int .i64 v, .bool true]) := Lib.hid (HR.out.set_ 1 _)
            have HZA := Lib.hid (HZ.out.fr hfsA (by simp only [List.mem_singleton]; omega))
            have FA := Lib.hid (F0.out.trans' hfsA (by simp))
            clear hfsA
            generalize w5.setCell ⟨(w.heap.size + 1), 1, none⟩ (.int .i64 v) = w6 at *
            have HRF := HRA.out
            have HZF := HZA.out
            go_wp2_with (first
              | (refine wpList_load_row rfl _ _ rfl (w.heap.size + 1) rfl 27 _ (0, 0) _ HRF Try.underlying27 rfl (by kernel_rfl) ?_)
              | (refine wpList_store_blk rfl _ _ _ rfl (w.heap.size + 1 + 1 + 1) #[.slice X n cap, .int .i64 v, .bool true] rfl rfl 27 _ HZF (by kernel_rfl) rfl rfl ?_; intro w9 hb9 hf9; have HB9 := Lib.hid hb9; have HF9 := Lib.hid hf9; clear hb9 hf9))
            have q0 := HB9.out.cell 0
            have q1 := HB9.out.cell 1
            have q2 := HB9.out.cell 2
            exact bodyPost_ret (v := .tuple #[.agg #[.slice X n cap, .int .i64 v, .bool true], .bool true]) (by simp [results, Try.results34, go_sem, q0, q1, q2]) rfl ⟨_, _, _, _, _, by rw [HE.out], by rw [HE.out]; exact fun _ => ⟨rfl, rfl, rfl, rfl, rfl⟩, by rw [HE.out]; exact fun h => (by cases h), FA.out.trans' HF9.out (fun i hi => .inr (by rw [List.mem_singleton] at hi; omega))⟩
      | false =>
        have r1 := HR.out.cell 1
        have r2 := HR.out.cell 2
        have y1 := HR.out.frozen 1
        have y2 := HR.out.frozen 2
        have B1 : Hid True := Lib.hid trivial
        have B2 : Hid True := Lib.hid trivial
        have B3 : Hid True := Lib.hid trivial
        have HE : Hid (E = (v, f, false)) := Lib.hid (by rw [← HEE.out]; simp [Pm.extE, hf])
        clear HEE
        subst hf
        go_upto_region 9 with (go_at_call 66; refine (HBT.out _ _ _).mono ?_; rintro e wx ⟨rfl, rfl⟩; (first | rw [B1.out] | rw [B2.out] | rw [B3.out]))
        have HRF := HR.out
        have HZF := HZ.out
        go_wp2_with (first
          | (refine wpList_build_is rfl _ _ rfl #[.slice none 0 0, .int .i64 0, .bool false] (by kernel_rfl) ?_)
          | (refine wpList_store_blk rfl _ _ _ rfl (w.heap.size + 1 + 1 + 1) #[.slice none 0 0, .int .i64 0, .bool false] rfl rfl 27 _ HZF (by kernel_rfl) rfl rfl ?_; intro w9 hb9 hf9; have HB9 := Lib.hid hb9; have HF9 := Lib.hid hf9; clear hb9 hf9))
        have q0 := HB9.out.cell 0
        have q1 := HB9.out.cell 1
        have q2 := HB9.out.cell 2
        exact bodyPost_ret (v := .tuple #[.agg #[.slice none 0 0, .int .i64 0, .bool false], .bool false]) (by simp [results, Try.results34, go_sem, q0, q1, q2]) rfl ⟨_, _, _, _, _, by rw [HE.out], by rw [HE.out]; exact fun h => (by cases h), by rw [HE.out]; exact fun _ => ⟨rfl, rfl, rfl, rfl⟩, F0.out.trans' HF9.out (fun i hi => .inr (by rw [List.mem_singleton] at hi; omega))⟩
    | false =>
      cases hf : f with
      | true =>
        cases hb1 : bt m u with
        | true =>
          have r1 := HR.out.cell 1
          have r2 := HR.out.cell 2
          have y1 := HR.out.frozen 1
          have y2 := HR.out.frozen 2
          have B2 : Hid True := Lib.hid trivial
          have B3 : Hid True := Lib.hid trivial
          have HE : Hid (E = (m, f, true)) := Lib.hid (by rw [← HEE.out]; simp [Pm.extE, hf, hb1])
          clear HEE
          have B1 : Hid (bt m u = true) := Lib.hid hb1
          clear hb1
          subst hf
          go_upto_region 16 with (go_at_call 66; refine (HBT.out _ _ _).mono ?_; rintro e wx ⟨rfl, rfl⟩; (first | rw [B1.out] | rw [B2.out] | rw [B3.out]))
          have HRF := HR.out
          have HZF := HZ.out
          go_wp2_with (first
            | (refine wpList_load_row rfl _ _ rfl (w.heap.size + 1) rfl 27 _ (0, 0) _ HRF Try.underlying27 rfl (by kernel_rfl) ?_)
            | (refine wpList_store_blk rfl _ _ _ rfl (w.heap.size + 1 + 1 + 1) #[.slice X n cap, .int .i64 m, .bool true] rfl rfl 27 _ HZF (by kernel_rfl) rfl rfl ?_; intro w9 hb9 hf9; have HB9 := Lib.hid hb9; have HF9 := Lib.hid hf9; clear hb9 hf9))
          have q0 := HB9.out.cell 0
          have q1 := HB9.out.cell 1
          have q2 := HB9.out.cell 2
          exact bodyPost_ret (v := .tuple #[.agg #[.slice X n cap, .int .i64 m, .bool true], .bool true]) (by simp [results, Try.results34, go_sem, q0, q1, q2]) rfl ⟨_, _, _, _, _, by rw [HE.out], by rw [HE.out]; exact fun _ => ⟨rfl, rfl, rfl, rfl, rfl⟩, by rw [HE.out]; exact fun h => (by cases h), F0.out.trans' HF9.out (fun i hi => .inr (by rw [List.mem_singleton] at hi; omega))⟩
        | false =>
          have r1 := HR.out.cell 1
          have r2 := HR.out.cell 2
          have y1 := HR.out.frozen 1
          have y2 := HR.out.frozen 2
          have B2 : Hid True := Lib.hid trivial
          have B3 : Hid True := Lib.hid trivial
          have HE : Hid (E = (v, f, false)) := Lib.hid (by rw [← HEE.out]; simp [Pm.extE, hf, hb1])
          clear HEE
          have B1 : Hid (bt m u = false) := Lib.hid hb1
          clear hb1
          subst hf
          go_upto_region 9 with (go_at_call 66; refine (HBT.out _ _ _).mono ?_; rintro e wx ⟨rfl, rfl⟩; (first | rw [B1.out] | rw [B2.out] | rw [B3.out]))
          have HRF := HR.out
          have HZF := HZ.out
          go_wp2_with (first
            | (refine wpList_build_is rfl _ _ rfl #[.slice none 0 0, .int .i64 0, .bool false] (by kernel_rfl) ?_)
            | (refine wpList_store_blk rfl _ _ _ rfl (w.heap.size + 1 + 1 + 1) #[.slice none 0 0, .int .i64 0, .bool false] rfl rfl 27 _ HZF (by kernel_rfl) rfl rfl ?_; intro w9 hb9 hf9; have HB9 := Lib.hid hb9; have HF9 := Lib.hid hf9; clear hb9 hf9))
          have q0 := HB9.out.cell 0
          have q1 := HB9.out.cell 1
          have q2 := HB9.out.cell 2
          exact bodyPost_ret (v := .tuple #[.agg #[.slice none 0 0, .int .i64 0, .bool false], .bool false]) (by simp [results, Try.results34, go_sem, q0, q1, q2]) rfl ⟨_, _, _, _, _, by rw [HE.out], by rw [HE.out]; exact fun h => (by cases h), by rw [HE.out]; exact fun _ => ⟨rfl, rfl, rfl, rfl⟩, F0.out.trans' HF9.out (fun i hi => .inr (by rw [List.mem_singleton] at hi; omega))⟩
      | false =>
        have r1 := HR.out.cell 1
        have r2 := HR.out.cell 2
        have y1 := HR.out.frozen 1
        have y2 := HR.out.frozen 2
        have B1 : Hid True := Lib.hid trivial
        have B2 : Hid True := Lib.hid trivial
        have B3 : Hid True := Lib.hid trivial
        have HE : Hid (E = (v, f, false)) := Lib.hid (by rw [← HEE.out]; simp [Pm.extE, hf])
        clear HEE
        subst hf
        go_upto_region 9 with (go_at_call 66; refine (HBT.out _ _ _).mono ?_; rintro e wx ⟨rfl, rfl⟩; (first | rw [B1.out] | rw [B2.out] | rw [B3.out]))
        have HRF := HR.out
        have HZF := HZ.out
        go_wp2_with (first
          | (refine wpList_build_is rfl _ _ rfl #[.slice none 0 0, .int .i64 0, .bool false] (by kernel_rfl) ?_)
          | (refine wpList_store_blk rfl _ _ _ rfl (w.heap.size + 1 + 1 + 1) #[.slice none 0 0, .int .i64 0, .bool false] rfl rfl 27 _ HZF (by kernel_rfl) rfl rfl ?_; intro w9 hb9 hf9; have HB9 := Lib.hid hb9; have HF9 := Lib.hid hf9; clear hb9 hf9))
        have q0 := HB9.out.cell 0
        have q1 := HB9.out.cell 1
        have q2 := HB9.out.cell 2
        exact bodyPost_ret (v := .tuple #[.agg #[.slice none 0 0, .int .i64 0, .bool false], .bool false]) (by simp [results, Try.results34, go_sem, q0, q1, q2]) rfl ⟨_, _, _, _, _, by rw [HE.out], by rw [HE.out]; exact fun h => (by cases h), by rw [HE.out]; exact fun _ => ⟨rfl, rfl, rfl, rfl⟩, F0.out.trans' HF9.out (fun i hi => .inr (by rw [List.mem_singleton] at hi; omega))⟩
  | false =>
    cases sa with
    | true =>
      cases hf : f with
      | true =>
        cases hb3 : bt v m with
        | true =>
          have r1 := HR.out.cell 1
          have r2 := HR.out.cell 2
          have y1 := HR.out.frozen 1
          have y2 := HR.out.frozen 2
          have B1 : Hid True := Lib.hid trivial
          have B2 : Hid True := Lib.hid trivial
          have HE : Hid (E = (v, true, true)) := Lib.hid (by rw [← HEE.out]; simp [Pm.extE, hf, hb3])
          clear HEE
          have B3 : Hid (bt v m = true) := Lib.hid hb3
          clear hb3
          subst hf
          go_upto_region 15 with (go_at_call 66; refine (HBT.out _ _ _).mono ?_; rintro e wx ⟨rfl, rfl⟩; (first | rw [B1.out] | rw [B2.out] | rw [B3.out]))
          have hfsA : Fr [(w.heap.size + 1)] w5 (w5.setCell ⟨(w.heap.size + 1), 1, none⟩ (.int .i64 v)) := (Fr.refl _ _).setCell (.inl (by simp)) _
          have HRA : Hid (Blk (w5.setCell ⟨(w.heap.size + 1), 1, none⟩ (.int .i64 v)) (w.heap.size + 1) 27 #[.slice X n cap, .int .i64 v, .bool true]) := Lib.hid (HR.out.set_ 1 _)
          have HZA := Lib.hid (HZ.out.fr hfsA (by simp only [List.mem_singleton]; omega))
          have FA := Lib.hid (F0.out.trans' hfsA (by simp))
          clear hfsA
          generalize w5.setCell ⟨(w.heap.size + 1), 1, none⟩ (.int .i64 v) = w6 at *
          have x2 := HRA.out.cell 2
          have x3 := HRA.out.frozen 2
          go_upto_region 16 with (go_at_call 66; refine (HBT.out _ _ _).mono ?_; rintro e wx ⟨rfl, rfl⟩; (first | rw [B1.out] | rw [B2.out] | rw [B3.out]))
          have hfsB : Fr [(w.heap.size + 1)] w6 (w6.setCell ⟨(w.heap.size + 1), 2, none⟩ (.bool true)) := (Fr.refl _ _).setCell (.inl (by simp)) _
          have HRB : Hid (Blk (w6.setCell ⟨(w.heap.size + 1), 2, none⟩ (.bool true)) (w.heap.size + 1) 27 #[.slice X n cap, .int .i64 v, .bool true]) := Lib.hid (HRA.out.set_ 2 _)
          have HZB := Lib.hid (HZA.out.fr hfsB (by simp only [List.mem_singleton]; omega))
          have FB := Lib.hid (FA.out.trans' hfsB (by simp))
          clear hfsB
          generalize w6.setCell ⟨(w.heap.size + 1), 2, none⟩ (.bool true) = w7 at *
          have HRF := HRB.out
          have HZF := HZB.out
          go_wp2_with (first
            | (refine wpList_load_row rfl _ _ rfl (w.heap.size + 1) rfl 27 _ (0, 0) _ HRF Try.underlying27 rfl (by kernel_rfl) ?_)
            | (refine wpList_store_blk rfl _ _ _ rfl (w.heap.size + 1 + 1 + 1) #[.slice X n cap, .int .i64 v, .bool true] rfl rfl 27 _ HZF (by kernel_rfl) rfl rfl ?_; intro w9 hb9 hf9; have HB9 := Lib.hid hb9; have HF9 := Lib.hid hf9; clear hb9 hf9))
          have q0 := HB9.out.cell 0
          have q1 := HB9.out.cell 1
          have q2 := HB9.out.cell 2
          exact bodyPost_ret (v := .tuple #[.agg #[.slice X n cap, .int .i64 v, .bool true], .bool true]) (by simp [results, Try.results34, go_sem, q0, q1, q2]) rfl ⟨_, _, _, _, _, by rw [HE.out], by rw [HE.out]; exact fun _ => ⟨rfl, rfl, rfl, rfl, rfl⟩, by rw [HE.out]; exact fun h => (by cases h), FB.out.trans' HF9.out (fun i hi => .inr (by rw [List.mem_singleton] at hi; omega))⟩
        | false =>
          have r1 := HR.out.cell 1
          have r2 := HR.out.cell 2
          have y1 := HR.out.frozen 1
          have y2 := HR.out.frozen 2
          have B1 : Hid True := Lib.hid trivial
          have B2 : Hid True := Lib.hid trivial
          have HE : Hid (E = (m, true, true)) := Lib.hid (by rw [← HEE.out]; simp [Pm.extE, hf, hb3])
          clear HEE
          have B3 : Hid (bt v m = false) := Lib.hid hb3
          clear hb3
          subst hf
          go_upto_region 16 with (go_at_call 66; refine (HBT.out _ _ _).mono ?_; rintro e wx ⟨rfl, rfl⟩; (first | rw [B1.out] | rw [B2.out] | rw [B3.out]))
          have hfsB : Fr [(w.heap.size + 1)] w5 (w5.setCell ⟨(w.heap.size + 1), 2, none⟩ (.bool true)) := (Fr.refl _ _).setCell (.inl (by simp)) _
          have HRB : Hid (Blk (w5.setCell ⟨(w.heap.size + 1), 2, none⟩ (.bool true)) (w.heap.size + 1) 27 #[.slice X n cap, .int .i64 m, .bool true]) := Lib.hid (HR.out.set_ 2 _)
          have HZB := Lib.hid (HZ.out.fr hfsB (by simp only [List.mem_singleton]; omega))
          have FB := Lib.hid (F0.out.trans' hfsB (by simp))
          clear hfsB
          generalize w5.setCell ⟨(w.heap.size + 1), 2, none⟩ (.bool true) = w7 at *
          have HRF := HRB.out
          have HZF := HZB.out
          go_wp2_with (first
            | (refine wpList_load_row rfl _ _ rfl (w.heap.size + 1) rfl 27 _ (0, 0) _ HRF Try.underlying27 rfl (by kernel_rfl) ?_)
            | (refine wpList_store_blk rfl _ _ _ rfl (w.heap.size + 1 + 1 + 1) #[.slice X n cap, .int .i64 m, .bool true] rfl rfl 27 _ HZF (by kernel_rfl) rfl rfl ?_; intro w9 hb9 hf9; have HB9 := Lib.hid hb9; have HF9 := Lib.hid hf9; clear hb9 hf9))
          have q0 := HB9.out.cell 0
          have q1 := HB9.out.cell 1
          have q2 := HB9.out.cell 2
          exact bodyPost_ret (v := .tuple #[.agg #[.slice X n cap, .int .i64 m, .bool true], .bool true]) (by simp [results, Try.results34, go_sem, q0, q1, q2]) rfl ⟨_, _, _, _, _, by rw [HE.out], by rw [HE.out]; exact fun _ => ⟨rfl, rfl, rfl, rfl, rfl⟩, by rw [HE.out]; exact fun h => (by cases h), FB.out.trans' HF9.out (fun i hi => .inr (by rw [List.mem_singleton] at hi; omega))⟩
      | false =>
        have r1 := HR.out.cell 1
        have r2 := HR.out.cell 2
        have y1 := HR.out.frozen 1
        have y2 := HR.out.frozen 2
        have B1 : Hid True := Lib.hid trivial
        have B2 : Hid True := Lib.hid trivial
        have B3 : Hid True := Lib.hid trivial
        have HE : Hid (E = (v, true, true)) := Lib.hid (by rw [← HEE.out]; simp [Pm.extE, hf])
        clear HEE
        subst hf
        go_upto_region 15 with (go_at_call 66; refine (HBT.out _ _ _).mono ?_; rintro e wx ⟨rfl, rfl⟩; (first | rw [B1.out] | rw [B2.out] | rw [B3.out]))
        have hfsA : Fr [(w.heap.size + 1)] w5 (w5.setCell ⟨(w.heap.size + 1), 1, none⟩ (.int .i64 v)) := (Fr.refl _ _).setCell (.inl (by simp)) _
        have HRA : Hid (Blk (w5.setCell ⟨(w.heap.size + 1), 1, none⟩ (.int .i64 v)) (w.heap.size + 1) 27 #[.slice X n cap, .int .i64 v, .bool false]) := Lib.hid (HR.out.set_ 1 _)
        have HZA := Lib.hid (HZ.out.fr hfsA (by simp only [List.mem_singleton]; omega))
        have FA := Lib.hid (F0.out.trans' hfsA (by simp))
        clear hfsA
        generalize w5.setCell ⟨(w.heap.size + 1), 1, none⟩ (.int .i64 v) = w6 at *
        have x2 := HRA.out.cell 2
        have x3 := HRA.out.frozen 2
        go_upto_region 16 with (go_at_call 66; refine (HBT.out _ _ _).mono ?_; rintro e wx ⟨rfl, rfl⟩; (first | rw [B1.out] | rw [B2.out] | rw [B3.out]))
        have hfsB : Fr [(w.heap.size + 1)] w6 (w6.setCell ⟨(w.heap.size + 1), 2, none⟩ (.bool true)) := (Fr.refl _ _).setCell (.inl (by simp)) _
        have HRB : Hid (Blk (w6.setCell ⟨(w.heap.size + 1), 2, none⟩ (.bool true)) (w.heap.size + 1) 27 #[.slice X n cap, .int .i64 v, .bool true]) := Lib.hid (HRA.out.set_ 2 _)
        have HZB := Lib.hid (HZA.out.fr hfsB (by simp only [List.mem_singleton]; omega))
        have FB := Lib.hid (FA.out.trans' hfsB (by simp))
        clear hfsB
        generalize w6.setCell ⟨(w.heap.size + 1), 2, none⟩ (.bool true) = w7 at *
        have HRF := HRB.out
        have HZF := HZB.out
        go_wp2_with (first
          | (refine wpList_load_row rfl _ _ rfl (w.heap.size + 1) rfl 27 _ (0, 0) _ HRF Try.underlying27 rfl (by kernel_rfl) ?_)
          | (refine wpList_store_blk rfl _ _ _ rfl (w.heap.size + 1 + 1 + 1) #[.slice X n cap, .int .i64 v, .bool true] rfl rfl 27 _ HZF (by kernel_rfl) rfl rfl ?_; intro w9 hb9 hf9; have HB9 := Lib.hid hb9; have HF9 := Lib.hid hf9; clear hb9 hf9))
        have q0 := HB9.out.cell 0
        have q1 := HB9.out.cell 1
        have q2 := HB9.out.cell 2
        exact bodyPost_ret (v := .tuple #[.agg #[.slice X n cap, .int .i64 v, .bool true], .bool true]) (by simp [results, Try.results34, go_sem, q0, q1, q2]) rfl ⟨_, _, _, _, _, by rw [HE.out], by rw [HE.out]; exact fun _ => ⟨rfl, rfl, rfl, rfl, rfl⟩, by rw [HE.out]; exact fun h => (by cases h), FB.out.trans' HF9.out (fun i hi => .inr (by rw [List.mem_singleton] at hi; omega))⟩
    | false =>
      cases hf : f with
      | true =>
        have r1 := HR.out.cell 1
        have r2 := HR.out.cell 2
        have y1 := HR.out.frozen 1
        have y2 := HR.out.frozen 2
        have B1 : Hid True := Lib.hid trivial
        have B2 : Hid True := Lib.hid trivial
        have B3 : Hid True := Lib.hid trivial
        have HE : Hid (E = (m, f, true)) := Lib.hid (by rw [← HEE.out]; simp [Pm.extE, hf])
        clear HEE
        subst hf
        go_upto_region 16 with (go_at_call 66; refine (HBT.out _ _ _).mono ?_; rintro e wx ⟨rfl, rfl⟩; (first | rw [B1.out] | rw [B2.out] | rw [B3.out]))
        have HRF := HR.out
        have HZF := HZ.out
        go_wp2_with (first
          | (refine wpList_load_row rfl _ _ rfl (w.heap.size + 1) rfl 27 _ (0, 0) _ HRF Try.underlying27 rfl (by kernel_rfl) ?_)
          | (refine wpList_store_blk rfl _ _ _ rfl (w.heap.size + 1 + 1 + 1) #[.slice X n cap, .int .i64 m, .bool true] rfl rfl 27 _ HZF (by kernel_rfl) rfl rfl ?_; intro w9 hb9 hf9; have HB9 := Lib.hid hb9; have HF9 := Lib.hid hf9; clear hb9 hf9))
        have q0 := HB9.out.cell 0
        have q1 := HB9.out.cell 1
        have q2 := HB9.out.cell 2
        exact bodyPost_ret (v := .tuple #[.agg #[.slice X n cap, .int .i64 m, .bool true], .bool true]) (by simp [results, Try.results34, go_sem, q0, q1, q2]) rfl ⟨_, _, _, _, _, by rw [HE.out], by rw [HE.out]; exact fun _ => ⟨rfl, rfl, rfl, rfl, rfl⟩, by rw [HE.out]; exact fun h => (by cases h), F0.out.trans' HF9.out (fun i hi => .inr (by rw [List.mem_singleton] at hi; omega))⟩
      | false =>
        have r1 := HR.out.cell 1
        have r2 := HR.out.cell 2
        have y1 := HR.out.frozen 1
        have y2 := HR.out.frozen 2
        have B1 : Hid True := Lib.hid trivial
        have B2 : Hid True := Lib.hid trivial
        have B3 : Hid True := Lib.hid trivial
        have HE : Hid (E = (m, f, true)) := Lib.hid (by rw [← HEE.out]; simp [Pm.extE, hf])
        clear HEE
        subst hf
        go_upto_region 16 with (go_at_call 66; refine (HBT.out _ _ _).mono ?_; rintro e wx ⟨rfl, rfl⟩; (first | rw [B1.out] | rw [B2.out] | rw [B3.out]))
        have HRF := HR.out
        have HZF := HZ.out
        go_wp2_with (first
          | (refine wpList_load_row rfl _ _ rfl (w.heap.size + 1) rfl 27 _ (0, 0) _ HRF Try.underlying27 rfl (by kernel_rfl) ?_)
          | (refine wpList_store_blk rfl _ _ _ rfl (w.heap.size + 1 + 1 + 1) #[.slice X n cap, .int .i64 m, .bool false] rfl rfl 27 _ HZF (by kernel_rfl) rfl rfl ?_; intro w9 hb9 hf9; have HB9 := Lib.hid hb9; have HF9 := Lib.hid hf9; clear hb9 hf9))
        have q0 := HB9.out.cell 0
        have q1 := HB9.out.cell 1
        have q2 := HB9.out.cell 2
        exact bodyPost_ret (v := .tuple #[.agg #[.slice X n cap, .int .i64 m, .bool false], .bool true]) (by simp [results, Try.results34, go_sem, q0, q1, q2]) rfl ⟨_, _, _, _, _, by rw [HE.out], by rw [HE.out]; exact fun _ => ⟨rfl, rfl, rfl, rfl, rfl⟩, by rw [HE.out]; exact fun h => (by cases h), F0.out.trans' HF9.out (fun i hi => .inr (by rw [List.mem_singleton] at hi; omega))⟩
theorem rext_any (sg : Int) (q : Qry) (c : Chg) (X : Option Addr) (n cap : Nat) (m : Int) (f : Bool) (L : List RowV) (w : World) (hk : (q.kind = 5 ∧ sg = 1) ∨ (q.kind = 6 ∧ sg = -1)) (hx : AtL RowV.cells 5 w X L) (hn : n = L.length) :
    Calls Try.prog 34 #[q.val, .agg #[.slice X n cap, .int .i64 m, .bool f], c.val, .int .i64 sg] w fun e w' => ∃ A' n' c' m' f' k, e = .returned (.tuple #[.agg #[.slice A' n' c', .int .i64 m', .bool f'], .bool k]) ∧ PP w w' (Pm.ext q ⟨L, m, f⟩ c) A' n' m' f' k (n + 2) := by
  have hbt : ∀ a b W, Calls Try.prog 66 #[.int .i64 sg, .int .i64 a, .int .i64 b] W fun e w' => e = .returned (.bool (Pm.better q.kind a b)) ∧ W = w' := by
    intro a b W
    rcases hk with ⟨h1, rfl⟩ | ⟨h1, rfl⟩
    · rw [h1]; exact rless_min a b W
    · rw [h1]; exact rless_max a b W
  refine (rextE_any sg (Pm.better q.kind) q c X n cap m f w hbt).mono ?_
  rintro e w' ⟨A', n', c', m', f', rfl, h1, h2, hf⟩
  have hext := Pm.ext_extE q ⟨L, m, f⟩ c
  refine ⟨A', n', c', m', f', _, rfl, fun h => ?_, fun h => ?_, hf⟩
  · obtain ⟨rfl, rfl, rfl, rfl, rfl⟩ := h1 h
    exact ⟨L, by rw [hext, if_pos h], hx.fr0 hf, hn, by omega⟩
  · obtain ⟨rfl, rfl, rfl, rfl⟩ := h2 h
    exact ⟨by rw [hext, if_neg (by rw [h]; simp)], rfl, rfl, rfl, rfl⟩
end Go.Proofs.Ytjiikpmkedkbkaa
