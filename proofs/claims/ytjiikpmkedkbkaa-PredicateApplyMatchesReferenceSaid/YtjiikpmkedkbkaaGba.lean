/-
  extreme: how a least or a greatest value is patched.
-/
import Derived.Test.YtjiikpmkedkbkaaGaz
namespace Go.Proofs.Ytjiikpmkedkbkaa
open Go.RowKit

namespace Pm
/-- The value, whether there is one, and whether it is known. -/
def extE (bt : Int → Int → Bool) (p r f : Bool) (m u v : Int) : Int × Bool × Bool :=
  if (p && (!f || !bt m u)) = true then (v, f, r && (f && !bt m v)) else if r = true then (if (!f || bt v m) = true then v else m, true, true) else (m, f, true)
end Pm
set_option maxRecDepth 100000 in
set_option maxHeartbeats 8000000 in
theorem pext_any (lf gb : Nat) (bt : Int → Int → Bool) (q : Qry) (c : Chg) (pb pa : Option Addr) (u v : Int) (X : Option Addr) (n cap : Nat) (m : Int) (f : Bool) (w : World)
    (eg : ∀ args w, (callFunc lf args).run Try.prog w = .ok (.enter lf args) w) (hbt : ∀ a b w, Calls Try.prog lf #[.int .i64 a, .int .i64 b] w fun e w' => e = .returned (.bool (bt a b)) ∧ w = w') (hg : Blk w gb 95 #[fnV lf]) :
    Calls Try.prog 74 #[.agg (effArr q c pb pa u v), .agg #[.slice X n cap, .int .i64 m, .bool f], .pointer (some ⟨gb, 0, none⟩)] w fun e w' => e = .returned (.tuple #[.agg #[.slice X n cap, .int .i64 (Pm.extE bt pb.isSome pa.isSome f m u v).1, .bool (Pm.extE bt pb.isSome pa.isSome f m u v).2.1], .bool (Pm.extE bt pb.isSome pa.isSome f m u v).2.2]) ∧ Fr [] w w' := by
  have F0 : Hid (Fr [] w (((w.alloc (.cells (effArr q c pb pa u v) 78)).alloc (.cells #[.slice X n cap, .int .i64 m, .bool f] 27)).alloc (.cells #[.slice none 0 0, .int .i64 0, .bool false] 27))) := Lib.hid ((((Fr.refl _ _).alloc _).alloc _).alloc _)
  have HB : Hid (EffAt (((w.alloc (.cells (effArr q c pb pa u v) 78)).alloc (.cells #[.slice X n cap, .int .i64 m, .bool f] 27)).alloc (.cells #[.slice none 0 0, .int .i64 0, .bool false] 27)) w.heap.size q c pb pa u v) := Lib.hid (Blk.alloc (Blk.alloc (EffAt.new w q c pb pa u v) _) _)
  have hr := Blk.new (w.alloc (.cells (effArr q c pb pa u v) 78)) 27 #[.slice X n cap, .int .i64 m, .bool f]
  rw [World.size_alloc] at hr
  have HR : Hid (Blk (((w.alloc (.cells (effArr q c pb pa u v) 78)).alloc (.cells #[.slice X n cap, .int .i64 m, .bool f] 27)).alloc (.cells #[.slice none 0 0, .int .i64 0, .bool false] 27)) (w.heap.size + 1) 27 #[.slice X n cap, .int .i64 m, .bool f]) := Lib.hid (hr.alloc _)
  have hz := Blk.new ((w.alloc (.cells (effArr q c pb pa u v) 78)).alloc (.cells #[.slice X n cap, .int .i64 m, .bool f] 27)) 27 #[.slice none 0 0, .int .i64 0, .bool false]
  rw [World.size_alloc, World.size_alloc] at hz
  have HZ := Lib.hid hz
  have HG := Lib.hid (hg.fr F0.out (by simp))
  have HBT := Lib.hid hbt
  clear hr hz hg hbt
  go_enter Try.func74, Try.ntmps74
  go_upto_region 1 with (fail)
  generalize (((w.alloc (.cells (effArr q c pb pa u v) 78)).alloc (.cells #[.slice X n cap, .int .i64 m, .bool f] 27)).alloc (.cells #[.slice none 0 0, .int .i64 0, .bool false] 27)) = w1 at *
  cases pb with
  | none =>
    cases pa with
    | none =>
      cases hf : f with
      | true =>
        have e17 := HB.out.c17
        have e18 := HB.out.c18
        have e19 := HB.out.c19
        have e20 := HB.out.c20
        have r1 := HR.out.cell 1
        have r2 := HR.out.cell 2
        have y1 := HR.out.frozen 1
        have y2 := HR.out.frozen 2
        have g0 := HG.out.cell 0
        have B1 : Hid True := Lib.hid trivial
        have B2 : Hid True := Lib.hid trivial
        have B3 : Hid True := Lib.hid trivial
        have HE : Hid (Pm.extE bt false false f m u v = (m, f, true)) := Lib.hid (by simp [Pm.extE, hf])
        subst hf
        go_upto_region 9 with (go_at_fn lf; refine (HBT.out _ _ _).mono ?_; rintro e wx ⟨rfl, rfl⟩; (first | rw [B1.out] | rw [B2.out] | rw [B3.out]))
        have HRF := HR.out
        have HZF := HZ.out
        go_wp2_with (first
          | (refine wpList_load_row rfl _ _ rfl (w.heap.size + 1) rfl 27 _ (0, 0) _ HRF Try.underlying27 rfl (by kernel_rfl) ?_)
          | (refine wpList_store_blk rfl _ _ _ rfl (w.heap.size + 1 + 1) #[.slice X n cap, .int .i64 m, .bool true] rfl rfl 27 _ HZF (by kernel_rfl) rfl rfl ?_; intro w9 hb9 hf9; have HB9 := Lib.hid hb9; have HF9 := Lib.hid hf9; clear hb9 hf9))
        have q0 := HB9.out.cell 0
        have q1 := HB9.out.cell 1
        have q2 := HB9.out.cell 2
        exact bodyPost_ret (v := .tuple #[.agg #[.slice X n cap, .int .i64 m, .bool true], .bool true]) (by simp [results, Try.results74, go_sem, q0, q1, q2]) rfl ⟨by simp only [Option.isSome, HE.out], F0.out.trans' HF9.out (fun i hi => .inr (by rw [List.mem_singleton] at hi; omega))⟩
      | false =>
        have e17 := HB.out.c17
        have e18 := HB.out.c18
        have e19 := HB.out.c19
        have e20 := HB.out.c20
        have r1 := HR.out.cell 1
        have r2 := HR.out.cell 2
        have y1 := HR.out.frozen 1
        have y2 := HR.out.frozen 2
        have g0 := HG.out.cell 0
        have B1 : Hid True := Lib.hid trivial
        have B2 : Hid True := Lib.hid trivial
        have B3 : Hid True := Lib.hid trivial
        have HE : Hid (Pm.extE bt false false f m u v = (m, f, true)) := Lib.hid (by simp [Pm.extE, hf])
        subst hf
        go_upto_region 9 with (go_at_fn lf; refine (HBT.out _ _ _).mono ?_; rintro e wx ⟨rfl, rfl⟩; (first | rw [B1.out] | rw [B2.out] | rw [B3.out]))
        have HRF := HR.out
        have HZF := HZ.out
        go_wp2_with (first
          | (refine wpList_load_row rfl _ _ rfl (w.heap.size + 1) rfl 27 _ (0, 0) _ HRF Try.underlying27 rfl (by kernel_rfl) ?_)
          | (refine wpList_store_blk rfl _ _ _ rfl (w.heap.size + 1 + 1) #[.slice X n cap, .int .i64 m, .bool false] rfl rfl 27 _ HZF (by kernel_rfl) rfl rfl ?_; intro w9 hb9 hf9; have HB9 := Lib.hid hb9; have HF9 := Lib.hid hf9; clear hb9 hf9))
        have q0 := HB9.out.cell 0
        have q1 := HB9.out.cell 1
        have q2 := HB9.out.cell 2
        exact bodyPost_ret (v := .tuple #[.agg #[.slice X n cap, .int .i64 m, .bool false], .bool true]) (by simp [results, Try.results74, go_sem, q0, q1, q2]) rfl ⟨by simp only [Option.isSome, HE.out], F0.out.trans' HF9.out (fun i hi => .inr (by rw [List.mem_singleton] at hi; omega))⟩
    | some aa =>
      cases hf : f with
      | true =>
        cases hb3 : bt v m with
        | true =>
          have e17 := HB.out.c17
          have e18 := HB.out.c18
          have e19 := HB.out.c19
          have e20 := HB.out.c20
          have r1 := HR.out.cell 1
          have r2 := HR.out.cell 2
          have y1 := HR.out.frozen 1
          have y2 := HR.out.frozen 2
          have g0 := HG.out.cell 0
          have B1 : Hid True := Lib.hid trivial
          have B2 : Hid True := Lib.hid trivial
          have HE : Hid (Pm.extE bt false true f m u v = (v, true, true)) := Lib.hid (by simp [Pm.extE, hf, hb3])
          have B3 : Hid (bt v m = true) := Lib.hid hb3
          clear hb3
          subst hf
          go_upto_region 8 with (go_at_fn lf; refine (HBT.out _ _ _).mono ?_; rintro e wx ⟨rfl, rfl⟩; (first | rw [B1.out] | rw [B2.out] | rw [B3.out]))
          have hfsA : Fr [w.heap.size + 1] w1 (w1.setCell ⟨w.heap.size + 1, 1, none⟩ (.int .i64 v)) := (Fr.refl _ _).setCell (.inl (by simp)) _
          have HRA : Hid (Blk (w1.setCell ⟨w.heap.size + 1, 1, none⟩ (.int .i64 v)) (w.heap.size + 1) 27 #[.slice X n cap, .int .i64 v, .bool true]) := Lib.hid (HR.out.set_ 1 _)
          have HZA := Lib.hid (HZ.out.fr hfsA (by simp))
          have FA := Lib.hid (F0.out.trans' hfsA (by simp))
          clear hfsA
          generalize w1.setCell ⟨w.heap.size + 1, 1, none⟩ (.int .i64 v) = w2 at *
          have x2 := HRA.out.cell 2
          have x3 := HRA.out.frozen 2
          go_upto_region 9 with (go_at_fn lf; refine (HBT.out _ _ _).mono ?_; rintro e wx ⟨rfl, rfl⟩; (first | rw [B1.out] | rw [B2.out] | rw [B3.out]))
          have hfsB : Fr [w.heap.size + 1] w2 (w2.setCell ⟨w.heap.size + 1, 2, none⟩ (.bool true)) := (Fr.refl _ _).setCell (.inl (by simp)) _
          have HRB : Hid (Blk (w2.setCell ⟨w.heap.size + 1, 2, none⟩ (.bool true)) (w.heap.size + 1) 27 #[.slice X n cap, .int .i64 v, .bool true]) := Lib.hid (HRA.out.set_ 2 _)
          have HZB := Lib.hid (HZA.out.fr hfsB (by simp))
          have FB := Lib.hid (FA.out.trans' hfsB (by simp))
          clear hfsB
          generalize w2.setCell ⟨w.heap.size + 1, 2, none⟩ (.bool true) = w3 at *
          have HRF := HRB.out
          have HZF := HZB.out
          go_wp2_with (first
            | (refine wpList_load_row rfl _ _ rfl (w.heap.size + 1) rfl 27 _ (0, 0) _ HRF Try.underlying27 rfl (by kernel_rfl) ?_)
            | (refine wpList_store_blk rfl _ _ _ rfl (w.heap.size + 1 + 1) #[.slice X n cap, .int .i64 v, .bool true] rfl rfl 27 _ HZF (by kernel_rfl) rfl rfl ?_; intro w9 hb9 hf9; have HB9 := Lib.hid hb9; have HF9 := Lib.hid hf9; clear hb9 hf9))
          have q0 := HB9.out.cell 0
          have q1 := HB9.out.cell 1
          have q2 := HB9.out.cell 2
          exact bodyPost_ret (v := .tuple #[.agg #[.slice X n cap, .int .i64 v, .bool true], .bool true]) (by simp [results, Try.results74, go_sem, q0, q1, q2]) rfl ⟨by simp only [Option.isSome, HE.out], FB.out.trans' HF9.out (fun i hi => .inr (by rw [List.mem_singleton] at hi; omega))⟩
        | false =>
          have e17 := HB.out.c17
          have e18 := HB.out.c18
          have e19 := HB.out.c19
          have e20 := HB.out.c20
          have r1 := HR.out.cell 1
          have r2 := HR.out.cell 2
          have y1 := HR.out.frozen 1
          have y2 := HR.out.frozen 2
          have g0 := HG.out.cell 0
          have B1 : Hid True := Lib.hid trivial
          have B2 : Hid True := Lib.hid trivial
          have HE : Hid (Pm.extE bt false true f m u v = (m, true, true)) := Lib.hid (by simp [Pm.extE, hf, hb3])
          have B3 : Hid (bt v m = false) := Lib.hid hb3
          clear hb3
          subst hf
          go_upto_region 9 with (go_at_fn lf; refine (HBT.out _ _ _).mono ?_; rintro e wx ⟨rfl, rfl⟩; (first | rw [B1.out] | rw [B2.out] | rw [B3.out]))
          have hfsB : Fr [w.heap.size + 1] w1 (w1.setCell ⟨w.heap.size + 1, 2, none⟩ (.bool true)) := (Fr.refl _ _).setCell (.inl (by simp)) _
          have HRB : Hid (Blk (w1.setCell ⟨w.heap.size + 1, 2, none⟩ (.bool true)) (w.heap.size + 1) 27 #[.slice X n cap, .int .i64 m, .bool true]) := Lib.hid (HR.out.set_ 2 _)
          have HZB := Lib.hid (HZ.out.fr hfsB (by simp))
          have FB := Lib.hid (F0.out.trans' hfsB (by simp))
          clear hfsB
          generalize w1.setCell ⟨w.heap.size + 1, 2, none⟩ (.bool true) = w3 at *
          have HRF := HRB.out
          have HZF := HZB.out
          go_wp2_with (first
            | (refine wpList_load_row rfl _ _ rfl (w.heap.size + 1) rfl 27 _ (0, 0) _ HRF Try.underlying27 rfl (by kernel_rfl) ?_)
            | (refine wpList_store_blk rfl _ _ _ rfl (w.heap.size + 1 + 1) #[.slice X n cap, .int .i64 m, .bool true] rfl rfl 27 _ HZF (by kernel_rfl) rfl rfl ?_; intro w9 hb9 hf9; have HB9 := Lib.hid hb9; have HF9 := Lib.hid hf9; clear hb9 hf9))
          have q0 := HB9.out.cell 0
          have q1 := HB9.out.cell 1
          have q2 := HB9.out.cell 2
          exact bodyPost_ret (v := .tuple #[.agg #[.slice X n cap, .int .i64 m, .bool true], .bool true]) (by simp [results, Try.results74, go_sem, q0, q1, q2]) rfl ⟨by simp only [Option.isSome, HE.out], FB.out.trans' HF9.out (fun i hi => .inr (by rw [List.mem_singleton] at hi; omega))⟩
      | false =>
        have e17 := HB.out.c17
        have e18 := HB.out.c18
        have e19 := HB.out.c19
        have e20 := HB.out.c20
        have r1 := HR.out.cell 1
        have r2 := HR.out.cell 2
        have y1 := HR.out.frozen 1
        have y2 := HR.out.frozen 2
        have g0 := HG.out.cell 0
        have B1 : Hid True := Lib.hid trivial
        have B2 : Hid True := Lib.hid trivial
        have B3 : Hid True := Lib.hid trivial
        have HE : Hid (Pm.extE bt false true f m u v = (v, true, true)) := Lib.hid (by simp [Pm.extE, hf])
        subst hf
        go_upto_region 8 with (go_at_fn lf; refine (HBT.out _ _ _).mono ?_; rintro e wx ⟨rfl, rfl⟩; (first | rw [B1.out] | rw [B2.out] | rw [B3.out]))
        have hfsA : Fr [w.heap.size + 1] w1 (w1.setCell ⟨w.heap.size + 1, 1, none⟩ (.int .i64 v)) := (Fr.refl _ _).setCell (.inl (by simp)) _
        have HRA : Hid (Blk (w1.setCell ⟨w.heap.size + 1, 1, none⟩ (.int .i64 v)) (w.heap.size + 1) 27 #[.slice X n cap, .int .i64 v, .bool false]) := Lib.hid (HR.out.set_ 1 _)
        have HZA := Lib.hid (HZ.out.fr hfsA (by simp))
        have FA := Lib.hid (F0.out.trans' hfsA (by simp))
        clear hfsA
        generalize w1.setCell ⟨w.heap.size + 1, 1, none⟩ (.int .i64 v) = w2 at *
        have x2 := HRA.out.cell 2
        have x3 := HRA.out.frozen 2
        go_upto_region 9 with (go_at_fn lf; refine (HBT.out _ _ _).mono ?_; rintro e wx ⟨rfl, rfl⟩; (first | rw [B1.out] | rw [B2.out] | rw [B3.out]))
        have hfsB : Fr [w.heap.size + 1] w2 (w2.setCell ⟨w.heap.size + 1, 2, none⟩ (.bool true)) := (Fr.refl _ _).setCell (.inl (by simp)) _
        have HRB : Hid (Blk (w2.setCell ⟨w.heap.size + 1, 2, none⟩ (.bool true)) (w.heap.size + 1) 27 #[.slice X n cap, .int .i64 v, .bool true]) := Lib.hid (HRA.out.set_ 2 _)
        have HZB := Lib.hid (HZA.out.fr hfsB (by simp))
        have FB := Lib.hid (FA.out.trans' hfsB (by simp))
        clear hfsB
        generalize w2.setCell ⟨w.heap.size + 1, 2, none⟩ (.bool true) = w3 at *
        have HRF := HRB.out
        have HZF := HZB.out
        go_wp2_with (first
          | (refine wpList_load_row rfl _ _ rfl (w.heap.size + 1) rfl 27 _ (0, 0) _ HRF Try.underlying27 rfl (by kernel_rfl) ?_)
          | (refine wpList_store_blk rfl _ _ _ rfl (w.heap.size + 1 + 1) #[.slice X n cap, .int .i64 v, .bool true] rfl rfl 27 _ HZF (by kernel_rfl) rfl rfl ?_; intro w9 hb9 hf9; have HB9 := Lib.hid hb9; have HF9 := Lib.hid hf9; clear hb9 hf9))
        have q0 := HB9.out.cell 0
        have q1 := HB9.out.cell 1
        have q2 := HB9.out.cell 2
        exact bodyPost_ret (v := .tuple #[.agg #[.slice X n cap, .int .i64 v, .bool true], .bool true]) (by simp [results, Try.results74, go_sem, q0, q1, q2]) rfl ⟨by simp only [Option.isSome, HE.out], FB.out.trans' HF9.out (fun i hi => .inr (by rw [List.mem_singleton] at hi; omega))⟩
  | some ab =>
    cases pa with
    | none =>
      cases hf : f with
      | true =>
        cases hb1 : bt m u with
        | true =>
          have e17 := HB.out.c17
          have e18 := HB.out.c18
          have e19 := HB.out.c19
          have e20 := HB.out.c20
          have r1 := HR.out.cell 1
          have r2 := HR.out.cell 2
          have y1 := HR.out.frozen 1
          have y2 := HR.out.frozen 2
          have g0 := HG.out.cell 0
          have B2 : Hid True := Lib.hid trivial
          have B3 : Hid True := Lib.hid trivial
          have HE : Hid (Pm.extE bt true false f m u v = (m, f, true)) := Lib.hid (by simp [Pm.extE, hf, hb1])
          have B1 : Hid (bt m u = true) := Lib.hid hb1
          clear hb1
          subst hf
          go_upto_region 9 with (go_at_fn lf; refine (HBT.out _ _ _).mono ?_; rintro e wx ⟨rfl, rfl⟩; (first | rw [B1.out] | rw [B2.out] | rw [B3.out]))
          have HRF := HR.out
          have HZF := HZ.out
          go_wp2_with (first
            | (refine wpList_load_row rfl _ _ rfl (w.heap.size + 1) rfl 27 _ (0, 0) _ HRF Try.underlying27 rfl (by kernel_rfl) ?_)
            | (refine wpList_store_blk rfl _ _ _ rfl (w.heap.size + 1 + 1) #[.slice X n cap, .int .i64 m, .bool true] rfl rfl 27 _ HZF (by kernel_rfl) rfl rfl ?_; intro w9 hb9 hf9; have HB9 := Lib.hid hb9; have HF9 := Lib.hid hf9; clear hb9 hf9))
          have q0 := HB9.out.cell 0
          have q1 := HB9.out.cell 1
          have q2 := HB9.out.cell 2
          exact bodyPost_ret (v := .tuple #[.agg #[.slice X n cap, .int .i64 m, .bool true], .bool true]) (by simp [results, Try.results74, go_sem, q0, q1, q2]) rfl ⟨by simp only [Option.isSome, HE.out], F0.out.trans' HF9.out (fun i hi => .inr (by rw [List.mem_singleton] at hi; omega))⟩
        | false =>
          have e17 := HB.out.c17
          have e18 := HB.out.c18
          have e19 := HB.out.c19
          have e20 := HB.out.c20
          have r1 := HR.out.cell 1
          have r2 := HR.out.cell 2
          have y1 := HR.out.frozen 1
          have y2 := HR.out.frozen 2
          have g0 := HG.out.cell 0
          have B2 : Hid True := Lib.hid trivial
          have B3 : Hid True := Lib.hid trivial
          have HE : Hid (Pm.extE bt true false f m u v = (v, f, false)) := Lib.hid (by simp [Pm.extE, hf, hb1])
          have B1 : Hid (bt m u = false) := Lib.hid hb1
          clear hb1
          subst hf
          go_upto_region 4 with (go_at_fn lf; refine (HBT.out _ _ _).mono ?_; rintro e wx ⟨rfl, rfl⟩; (first | rw [B1.out] | rw [B2.out] | rw [B3.out]))
          have hfsA : Fr [w.heap.size + 1] w1 (w1.setCell ⟨w.heap.size + 1, 1, none⟩ (.int .i64 v)) := (Fr.refl _ _).setCell (.inl (by simp)) _
          have HRA : Hid (Blk (w1.setCell ⟨w.heap.size + 1, 1, none⟩ (.int .i64 v)) (w.heap.size + 1) 27 #[.slice X n cap, .int .i64 v, .bool true]) := Lib.hid (HR.out.set_ 1 _)
          have HZA := Lib.hid (HZ.out.fr hfsA (by simp))
          have FA := Lib.hid (F0.out.trans' hfsA (by simp))
          clear hfsA
          generalize w1.setCell ⟨w.heap.size + 1, 1, none⟩ (.int .i64 v) = w2 at *
          have HRF := HRA.out
          have HZF := HZA.out
          go_wp2_with (first
            | (refine wpList_load_row rfl _ _ rfl (w.heap.size + 1) rfl 27 _ (0, 0) _ HRF Try.underlying27 rfl (by kernel_rfl) ?_)
            | (refine wpList_store_blk rfl _ _ _ rfl (w.heap.size + 1 + 1) #[.slice X n cap, .int .i64 v, .bool true] rfl rfl 27 _ HZF (by kernel_rfl) rfl rfl ?_; intro w9 hb9 hf9; have HB9 := Lib.hid hb9; have HF9 := Lib.hid hf9; clear hb9 hf9))
          have q0 := HB9.out.cell 0
          have q1 := HB9.out.cell 1
          have q2 := HB9.out.cell 2
          exact bodyPost_ret (v := .tuple #[.agg #[.slice X n cap, .int .i64 v, .bool true], .bool false]) (by simp [results, Try.results74, go_sem, q0, q1, q2]) rfl ⟨by simp only [Option.isSome, HE.out], FA.out.trans' HF9.out (fun i hi => .inr (by rw [List.mem_singleton] at hi; omega))⟩
      | false =>
        have e17 := HB.out.c17
        have e18 := HB.out.c18
        have e19 := HB.out.c19
        have e20 := HB.out.c20
        have r1 := HR.out.cell 1
        have r2 := HR.out.cell 2
        have y1 := HR.out.frozen 1
        have y2 := HR.out.frozen 2
        have g0 := HG.out.cell 0
        have B1 : Hid True := Lib.hid trivial
        have B2 : Hid True := Lib.hid trivial
        have B3 : Hid True := Lib.hid trivial
        have HE : Hid (Pm.extE bt true false f m u v = (v, f, false)) := Lib.hid (by simp [Pm.extE, hf])
        subst hf
        go_upto_region 4 with (go_at_fn lf; refine (HBT.out _ _ _).mono ?_; rintro e wx ⟨rfl, rfl⟩; (first | rw [B1.out] | rw [B2.out] | rw [B3.out]))
        have hfsA : Fr [w.heap.size + 1] w1 (w1.setCell ⟨w.heap.size + 1, 1, none⟩ (.int .i64 v)) := (Fr.refl _ _).setCell (.inl (by simp)) _
        have HRA : Hid (Blk (w1.setCell ⟨w.heap.size + 1, 1, none⟩ (.int .i64 v)) (w.heap.size + 1) 27 #[.slice X n cap, .int .i64 v, .bool false]) := Lib.hid (HR.out.set_ 1 _)
        have HZA := Lib.hid (HZ.out.fr hfsA (by simp))
        have FA := Lib.hid (F0.out.trans' hfsA (by simp))
        clear hfsA
        generalize w1.setCell ⟨w.heap.size + 1, 1, none⟩ (.int .i64 v) = w2 at *
        have HRF := HRA.out
        have HZF := HZA.out
        go_wp2_with (first
          | (refine wpList_load_row rfl _ _ rfl (w.heap.size + 1) rfl 27 _ (0, 0) _ HRF Try.underlying27 rfl (by kernel_rfl) ?_)
          | (refine wpList_store_blk rfl _ _ _ rfl (w.heap.size + 1 + 1) #[.slice X n cap, .int .i64 v, .bool false] rfl rfl 27 _ HZF (by kernel_rfl) rfl rfl ?_; intro w9 hb9 hf9; have HB9 := Lib.hid hb9; have HF9 := Lib.hid hf9; clear hb9 hf9))
        have q0 := HB9.out.cell 0
        have q1 := HB9.out.cell 1
        have q2 := HB9.out.cell 2
        exact bodyPost_ret (v := .tuple #[.agg #[.slice X n cap, .int .i64 v, .bool false], .bool false]) (by simp [results, Try.results74, go_sem, q0, q1, q2]) rfl ⟨by simp only [Option.isSome, HE.out], FA.out.trans' HF9.out (fun i hi => .inr (by rw [List.mem_singleton] at hi; omega))⟩
    | some aa =>
      cases hf : f with
      | true =>
        cases hb1 : bt m u with
        | true =>
          cases hb3 : bt v m with
          | true =>
            have e17 := HB.out.c17
            have e18 := HB.out.c18
            have e19 := HB.out.c19
            have e20 := HB.out.c20
            have r1 := HR.out.cell 1
            have r2 := HR.out.cell 2
            have y1 := HR.out.frozen 1
            have y2 := HR.out.frozen 2
            have g0 := HG.out.cell 0
            have B2 : Hid True := Lib.hid trivial
            have HE : Hid (Pm.extE bt true true f m u v = (v, true, true)) := Lib.hid (by simp [Pm.extE, hf, hb1, hb3])
            have B1 : Hid (bt m u = true) := Lib.hid hb1
            clear hb1
            have B3 : Hid (bt v m = true) := Lib.hid hb3
            clear hb3
            subst hf
            go_upto_region 8 with (go_at_fn lf; refine (HBT.out _ _ _).mono ?_; rintro e wx ⟨rfl, rfl⟩; (first | rw [B1.out] | rw [B2.out] | rw [B3.out]))
            have hfsA : Fr [w.heap.size + 1] w1 (w1.setCell ⟨w.heap.size + 1, 1, none⟩ (.int .i64 v)) := (Fr.refl _ _).setCell (.inl (by simp)) _
            have HRA : Hid (Blk (w1.setCell ⟨w.heap.size + 1, 1, none⟩ (.int .i64 v)) (w.heap.size + 1) 27 #[.slice X n cap, .int .i64 v, .bool true]) := Lib.hid (HR.out.set_ 1 _)
            have HZA := Lib.hid (HZ.out.fr hfsA (by simp))
            have FA := Lib.hid (F0.out.trans' hfsA (by simp))
            clear hfsA
            generalize w1.setCell ⟨w.heap.size + 1, 1, none⟩ (.int .i64 v) = w2 at *
            have x2 := HRA.out.cell 2
            have x3 := HRA.out.frozen 2
            go_upto_region 9 with (go_at_fn lf; refine (HBT.out _ _ _).mono ?_; rintro e wx ⟨rfl, rfl⟩; (first | rw [B1.out] | rw [B2.out] | rw [B3.out]))
            have hfsB : Fr [w.heap.size + 1] w2 (w2.setCell ⟨w.heap.size + 1, 2, none⟩ (.bool true)) := (Fr.refl _ _).setCell (.inl (by simp)) _
            have HRB : Hid (Blk (w2.setCell ⟨w.heap.size + 1, 2, none⟩ (.bool true)) (w.heap.size + 1) 27 #[.slice X n cap, .int .i64 v, .bool true]) := Lib.hid (HRA.out.set_ 2 _)
            have HZB := Lib.hid (HZA.out.fr hfsB (by simp))
            have FB := Lib.hid (FA.out.trans' hfsB (by simp))
            clear hfsB
            generalize w2.setCell ⟨w.heap.size + 1, 2, none⟩ (.bool true) = w3 at *
            have HRF := HRB.out
            have HZF := HZB.out
            go_wp2_with (first
              | (refine wpList_load_row rfl _ _ rfl (w.heap.size + 1) rfl 27 _ (0, 0) _ HRF Try.underlying27 rfl (by kernel_rfl) ?_)
              | (refine wpList_store_blk rfl _ _ _ rfl (w.heap.size + 1 + 1) #[.slice X n cap, .int .i64 v, .bool true] rfl rfl 27 _ HZF (by kernel_rfl) rfl rfl ?_; intro w9 hb9 hf9; have HB9 := Lib.hid hb9; have HF9 := Lib.hid hf9; clear hb9 hf9))
            have q0 := HB9.out.cell 0
            have q1 := HB9.out.cell 1
            have q2 := HB9.out.cell 2
            exact bodyPost_ret (v := .tuple #[.agg #[.slice X n cap, .int .i64 v, .bool true], .bool true]) (by simp [results, Try.results74, go_sem, q0, q1, q2]) rfl ⟨by simp only [Option.isSome, HE.out], FB.out.trans' HF9.out (fun i hi => .inr (by rw [List.mem_singleton] at hi; omega))⟩
          | false =>
            have e17 := HB.out.c17
            have e18 := HB.out.c18
            have e19 := HB.out.c19
            have e20 := HB.out.c20
            have r1 := HR.out.cell 1
            have r2 := HR.out.cell 2
            have y1 := HR.out.frozen 1
            have y2 := HR.out.frozen 2
            have g0 := HG.out.cell 0
            have B2 : Hid True := Lib.hid trivial
            have HE : Hid (Pm.extE bt true true f m u v = (m, true, true)) := Lib.hid (by simp [Pm.extE, hf, hb1, hb3])
            have B1 : Hid (bt m u = true) := Lib.hid hb1
            clear hb1
            have B3 : Hid (bt v m = false) := Lib.hid hb3
            clear hb3
            subst hf
            go_upto_region 9 with (go_at_fn lf; refine (HBT.out _ _ _).mono ?_; rintro e wx ⟨rfl, rfl⟩; (first | rw [B1.out] | rw [B2.out] | rw [B3.out]))
            have hfsB : Fr [w.heap.size + 1] w1 (w1.setCell ⟨w.heap.size + 1, 2, none⟩ (.bool true)) := (Fr.refl _ _).setCell (.inl (by simp)) _
            have HRB : Hid (Blk (w1.setCell ⟨w.heap.size + 1, 2, none⟩ (.bool true)) (w.heap.size + 1) 27 #[.slice X n cap, .int .i64 m, .bool true]) := Lib.hid (HR.out.set_ 2 _)
            have HZB := Lib.hid (HZ.out.fr hfsB (by simp))
            have FB := Lib.hid (F0.out.trans' hfsB (by simp))
            clear hfsB
            generalize w1.setCell ⟨w.heap.size + 1, 2, none⟩ (.bool true) = w3 at *
            have HRF := HRB.out
            have HZF := HZB.out
            go_wp2_with (first
              | (refine wpList_load_row rfl _ _ rfl (w.heap.size + 1) rfl 27 _ (0, 0) _ HRF Try.underlying27 rfl (by kernel_rfl) ?_)
              | (refine wpList_store_blk rfl _ _ _ rfl (w.heap.size + 1 + 1) #[.slice X n cap, .int .i64 m, .bool true] rfl rfl 27 _ HZF (by kernel_rfl) rfl rfl ?_; intro w9 hb9 hf9; have HB9 := Lib.hid hb9; have HF9 := Lib.hid hf9; clear hb9 hf9))
            have q0 := HB9.out.cell 0
            have q1 := HB9.out.cell 1
            have q2 := HB9.out.cell 2
            exact bodyPost_ret (v := .tuple #[.agg #[.slice X n cap, .int .i64 m, .bool true], .bool true]) (by simp [results, Try.results74, go_sem, q0, q1, q2]) rfl ⟨by simp only [Option.isSome, HE.out], FB.out.trans' HF9.out (fun i hi => .inr (by rw [List.mem_singleton] at hi; omega))⟩
        | false =>
          cases hb2 : bt m v with
          | true =>
            have e17 := HB.out.c17
            have e18 := HB.out.c18
            have e19 := HB.out.c19
            have e20 := HB.out.c20
            have r1 := HR.out.cell 1
            have r2 := HR.out.cell 2
            have y1 := HR.out.frozen 1
            have y2 := HR.out.frozen 2
            have g0 := HG.out.cell 0
            have B3 : Hid True := Lib.hid trivial
            have HE : Hid (Pm.extE bt true true f m u v = (v, f, false)) := Lib.hid (by simp [Pm.extE, hf, hb1, hb2])
            have B1 : Hid (bt m u = false) := Lib.hid hb1
            clear hb1
            have B2 : Hid (bt m v = true) := Lib.hid hb2
            clear hb2
            subst hf
            go_upto_region 4 with (go_at_fn lf; refine (HBT.out _ _ _).mono ?_; rintro e wx ⟨rfl, rfl⟩; (first | rw [B1.out] | rw [B2.out] | rw [B3.out]))
            have hfsA : Fr [w.heap.size + 1] w1 (w1.setCell ⟨w.heap.size + 1, 1, none⟩ (.int .i64 v)) := (Fr.refl _ _).setCell (.inl (by simp)) _
            have HRA : Hid (Blk (w1.setCell ⟨w.heap.size + 1, 1, none⟩ (.int .i64 v)) (w.heap.size + 1) 27 #[.slice X n cap, .int .i64 v, .bool true]) := Lib.hid (HR.out.set_ 1 _)
            have HZA := Lib.hid (HZ.out.fr hfsA (by simp))
            have FA := Lib.hid (F0.out.trans' hfsA (by simp))
            clear hfsA
            generalize w1.setCell ⟨w.heap.size + 1, 1, none⟩ (.int .i64 v) = w2 at *
            have HRF := HRA.out
            have HZF := HZA.out
            go_wp2_with (first
              | (refine wpList_load_row rfl _ _ rfl (w.heap.size + 1) rfl 27 _ (0, 0) _ HRF Try.underlying27 rfl (by kernel_rfl) ?_)
              | (refine wpList_store_blk rfl _ _ _ rfl (w.heap.size + 1 + 1) #[.slice X n cap, .int .i64 v, .bool true] rfl rfl 27 _ HZF (by kernel_rfl) rfl rfl ?_; intro w9 hb9 hf9; have HB9 := Lib.hid hb9; have HF9 := Lib.hid hf9; clear hb9 hf9))
            have q0 := HB9.out.cell 0
            have q1 := HB9.out.cell 1
            have q2 := HB9.out.cell 2
            exact bodyPost_ret (v := .tuple #[.agg #[.slice X n cap, .int .i64 v, .bool true], .bool false]) (by simp [results, Try.results74, go_sem, q0, q1, q2]) rfl ⟨by simp only [Option.isSome, HE.out], FA.out.trans' HF9.out (fun i hi => .inr (by rw [List.mem_singleton] at hi; omega))⟩
          | false =>
            have e17 := HB.out.c17
            have e18 := HB.out.c18
            have e19 := HB.out.c19
            have e20 := HB.out.c20
            have r1 := HR.out.cell 1
            have r2 := HR.out.cell 2
            have y1 := HR.out.frozen 1
            have y2 := HR.out.frozen 2
            have g0 := HG.out.cell 0
            have B3 : Hid True := Lib.hid trivial
            have HE : Hid (Pm.extE bt true true f m u v = (v, f, true)) := Lib.hid (by simp [Pm.extE, hf, hb1, hb2])
            have B1 : Hid (bt m u = false) := Lib.hid hb1
            clear hb1
            have B2 : Hid (bt m v = false) := Lib.hid hb2
            clear hb2
            subst hf
            go_upto_region 4 with (go_at_fn lf; refine (HBT.out _ _ _).mono ?_; rintro e wx ⟨rfl, rfl⟩; (first | rw [B1.out] | rw [B2.out] | rw [B3.out]))
            have hfsA : Fr [w.heap.size + 1] w1 (w1.setCell ⟨w.heap.size + 1, 1, none⟩ (.int .i64 v)) := (Fr.refl _ _).setCell (.inl (by simp)) _
            have HRA : Hid (Blk (w1.setCell ⟨w.heap.size + 1, 1, none⟩ (.int .i64 v)) (w.heap.size + 1) 27 #[.slice X n cap, .int .i64 v, .bool true]) := Lib.hid (HR.out.set_ 1 _)
            have HZA := Lib.hid (HZ.out.fr hfsA (by simp))
            have FA := Lib.hid (F0.out.trans' hfsA (by simp))
            clear hfsA
            generalize w1.setCell ⟨w.heap.size + 1, 1, none⟩ (.int .i64 v) = w2 at *
            have HRF := HRA.out
            have HZF := HZA.out
            go_wp2_with (first
              | (refine wpList_load_row rfl _ _ rfl (w.heap.size + 1) rfl 27 _ (0, 0) _ HRF Try.underlying27 rfl (by kernel_rfl) ?_)
              | (refine wpList_store_blk rfl _ _ _ rfl (w.heap.size + 1 + 1) #[.slice X n cap, .int .i64 v, .bool true] rfl rfl 27 _ HZF (by kernel_rfl) rfl rfl ?_; intro w9 hb9 hf9; have HB9 := Lib.hid hb9; have HF9 := Lib.hid hf9; clear hb9 hf9))
            have q0 := HB9.out.cell 0
            have q1 := HB9.out.cell 1
            have q2 := HB9.out.cell 2
            exact bodyPost_ret (v := .tuple #[.agg #[.slice X n cap, .int .i64 v, .bool true], .bool true]) (by simp [results, Try.results74, go_sem, q0, q1, q2]) rfl ⟨by simp only [Option.isSome, HE.out], FA.out.trans' HF9.out (fun i hi => .inr (by rw [List.mem_singleton] at hi; omega))⟩
      | false =>
        have e17 := HB.out.c17
        have e18 := HB.out.c18
        have e19 := HB.out.c19
        have e20 := HB.out.c20
        have r1 := HR.out.cell 1
        have r2 := HR.out.cell 2
        have y1 := HR.out.frozen 1
        have y2 := HR.out.frozen 2
        have g0 := HG.out.cell 0
        have B1 : Hid True := Lib.hid trivial
        have B2 : Hid True := Lib.hid trivial
        have B3 : Hid True := Lib.hid trivial
        have HE : Hid (Pm.extE bt true true f m u v = (v, f, false)) := Lib.hid (by simp [Pm.extE, hf])
        subst hf
        go_upto_region 4 with (go_at_fn lf; refine (HBT.out _ _ _).mono ?_; rintro e wx ⟨rfl, rfl⟩; (first | rw [B1.out] | rw [B2.out] | rw [B3.out]))
        have hfsA : Fr [w.heap.size + 1] w1 (w1.setCell ⟨w.heap.size + 1, 1, none⟩ (.int .i64 v)) := (Fr.refl _ _).setCell (.inl (by simp)) _
        have HRA : Hid (Blk (w1.setCell ⟨w.heap.size + 1, 1, none⟩ (.int .i64 v)) (w.heap.size + 1) 27 #[.slice X n cap, .int .i64 v, .bool false]) := Lib.hid (HR.out.set_ 1 _)
        have HZA := Lib.hid (HZ.out.fr hfsA (by simp))
        have FA := Lib.hid (F0.out.trans' hfsA (by simp))
        clear hfsA
        generalize w1.setCell ⟨w.heap.size + 1, 1, none⟩ (.int .i64 v) = w2 at *
        have HRF := HRA.out
        have HZF := HZA.out
        go_wp2_with (first
          | (refine wpList_load_row rfl _ _ rfl (w.heap.size + 1) rfl 27 _ (0, 0) _ HRF Try.underlying27 rfl (by kernel_rfl) ?_)
          | (refine wpList_store_blk rfl _ _ _ rfl (w.heap.size + 1 + 1) #[.slice X n cap, .int .i64 v, .bool false] rfl rfl 27 _ HZF (by kernel_rfl) rfl rfl ?_; intro w9 hb9 hf9; have HB9 := Lib.hid hb9; have HF9 := Lib.hid hf9; clear hb9 hf9))
        have q0 := HB9.out.cell 0
        have q1 := HB9.out.cell 1
        have q2 := HB9.out.cell 2
        exact bodyPost_ret (v := .tuple #[.agg #[.slice X n cap, .int .i64 v, .bool false], .bool false]) (by simp [results, Try.results74, go_sem, q0, q1, q2]) rfl ⟨by simp only [Option.isSome, HE.out], FA.out.trans' HF9.out (fun i hi => .inr (by rw [List.mem_singleton] at hi; omega))⟩
end Go.Proofs.Ytjiikpmkedkbkaa
