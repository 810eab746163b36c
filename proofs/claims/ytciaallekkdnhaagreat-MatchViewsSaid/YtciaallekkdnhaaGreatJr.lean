/-
  The closures of join; a pair's right row written in place.
-/
import Derived.Test.YtciaallekkdnhaaGreatJp
namespace Go.Proofs.YtciaallekkdnhaaGreat
open Go.RowKit

namespace Pm
/-- The value, whether there is one, and whether it is known. -/
def extE (bt : Int → Int → Bool) (p r f : Bool) (m u v : Int) : Int × Bool × Bool :=
  if (p && (!f || !bt m u)) = true then (v, f, r && (f && !bt m v)) else if r = true then (if (!f || bt v m) = true then v else m, true, true) else (m, f, true)
end Pm
set_option maxRecDepth 100000 in
set_option maxHeartbeats 8000000 in
theorem pext_any (lf gb : Nat) (bt : Int → Int → Bool) (q : Qry) (c : Chg) (pb pa : Option Addr) (u v : Int) (X : Option Addr) (n cap : Nat) (m : Int) (f : Bool) (w : World)
    (eg : ∀ args w, (callFunc lf args).run Tryz.prog w = .ok (.enter lf args) w) (hbt : ∀ a b w, Calls Tryz.prog lf #[.int .i64 a, .int .i64 b] w fun e w' => e = .returned (.bool (bt a b)) ∧ w = w') (hg : Blk w gb 156 #[fnV lf]) :
    Calls Tryz.prog 125 #[.agg (effArr q c pb pa u v), .agg #[.slice X n cap, .int .i64 m, .bool f], .pointer (some ⟨gb, 0, none⟩)] w fun e w' => e = .returned (.tuple #[.agg #[.slice X n cap, .int .i64 (Pm.extE bt pb.isSome pa.isSome f m u v).1, .bool (Pm.extE bt pb.isSome pa.isSome f m u v).2.1], .bool (Pm.extE bt pb.isSome pa.isSome f m u v).2.2]) ∧ Fr [] w w' := by
  have F0 : Hid (Fr [] w (((w.alloc (.cells (effArr q c pb pa u v) 103)).alloc (.cells #[.slice X n cap, .int .i64 m, .bool f] 71)).alloc (.cells #[.slice none 0 0, .int .i64 0, .bool false] 71))) := Lib.hid ((((Fr.refl _ _).alloc _).alloc _).alloc _)
  have HB : Hid (EffAt (((w.alloc (.cells (effArr q c pb pa u v) 103)).alloc (.cells #[.slice X n cap, .int .i64 m, .bool f] 71)).alloc (.cells #[.slice none 0 0, .int .i64 0, .bool false] 71)) w.heap.size q c pb pa u v) := Lib.hid (Blk.alloc (Blk.alloc (EffAt.new w q c pb pa u v) _) _)
  have hr := Blk.new (w.alloc (.cells (effArr q c pb pa u v) 103)) 71 #[.slice X n cap, .int .i64 m, .bool f]
  rw [World.size_alloc] at hr
  have HR : Hid (Blk (((w.alloc (.cells (effArr q c pb pa u v) 103)).alloc (.cells #[.slice X n cap, .int .i64 m, .bool f] 71)).alloc (.cells #[.slice none 0 0, .int .i64 0, .bool false] 71)) (w.heap.size + 1) 71 #[.slice X n cap, .int .i64 m, .bool f]) := Lib.hid (hr.alloc _)
  have hz := Blk.new ((w.alloc (.cells (effArr q c pb pa u v) 103)).alloc (.cells #[.slice X n cap, .int .i64 m, .bool f] 71)) 71 #[.slice none 0 0, .int .i64 0, .bool false]
  rw [World.size_alloc, World.size_alloc] at hz
  have HZ := Lib.hid hz
  have HG := Lib.hid (hg.fr F0.out (by simp))
  have HBT := Lib.hid hbt
  clear hr hz hg hbt
  go_enter Tryz.func125, Tryz.ntmps125
  go_upto_region 1 with (fail)
  generalize (((w.alloc (.cells (effArr q c pb pa u v) 103)).alloc (.cells #[.slice X n cap, .int .i64 m, .bool f] 71)).alloc (.cells #[.slice none 0 0, .int .i64 0, .bool false] 71)) = w1 at *
  cases pb with
  | none =>
    cases pa with
    | none =>
      cases hf : f with
      | true =>
        have e17 := HB.out.c17
        have e18 := HB.out.c18
        have e19 := HB.out.c19
        have e20 := HB.out.c20
        have r1 := HR.out.cell 1
        have r2 := HR.out.cell 2
        have y1 := HR.out.frozen 1
        have y2 := HR.out.frozen 2
        have g0 := HG.out.cell 0
        have B1 : Hid True := Lib.hid trivial
        have B2 : Hid True := Lib.hid trivial
        have B3 : Hid True := Lib.hid trivial
        have HE : Hid (Pm.extE bt false false f m u v = (m, f, true)) := Lib.hid (by simp [Pm.extE, hf])
        subst hf
        go_upto_region 9 with (go_at_fn lf; refine (HBT.out _ _ _).mono ?_; rintro e wx ⟨rfl, rfl⟩; (first | rw [B1.out] | rw [B2.out] | rw [B3.out]))
        have HRF := HR.out
        have HZF := HZ.out
        go_wp2_with (first
          | (refine wpList_load_row rfl _ _ rfl (w.heap.size + 1) rfl 71 _ (0, 0) _ HRF Tryz.underlying71 rfl (by kernel_rfl) ?_)
          | (refine wpList_store_blk rfl _ _ _ rfl (w.heap.size + 1 + 1) #[.slice X n cap, .int .i64 m, .bool true] rfl rfl 71 _ HZF (by kernel_rfl) rfl rfl ?_; intro w9 hb9 hf9; have HB9 := Lib.hid hb9; have HF9 := Lib.hid hf9; clear hb9 hf9))
        have q0 := HB9.out.cell 0
        have q1 := HB9.out.cell 1
        have q2 := HB9.out.cell 2
        exact bodyPost_ret (v := .tuple #[.agg #[.slice X n cap, .int .i64 m, .bool true], .bool true]) (by simp [results, Tryz.results125, go_sem, q0, q1, q2]) rfl ⟨by simp only [Option.isSome, HE.out], F0.out.trans' HF9.out (fun i hi => .inr (by rw [List.mem_singleton] at hi; omega))⟩
      | false =>
        have e17 := HB.out.c17
        have e18 := HB.out.c18
        have e19 := HB.out.c19
        have e20 := HB.out.c20
        have r1 := HR.out.cell 1
        have r2 := HR.out.cell 2
        have y1 := HR.out.frozen 1
        have y2 := HR.out.frozen 2
        have g0 := HG.out.cell 0
        have B1 : Hid True := Lib.hid trivial
        have B2 : Hid True := Lib.hid trivial
        have B3 : Hid True := Lib.hid trivial
        have HE : Hid (Pm.extE bt false false f m u v = (m, f, true)) := Lib.hid (by simp [Pm.extE, hf])
        subst hf
        go_upto_region 9 with (go_at_fn lf; refine (HBT.out _ _ _).mono ?_; rintro e wx ⟨rfl, rfl⟩; (first | rw [B1.out] | rw [B2.out] | rw [B3.out]))
        have HRF := HR.out
        have HZF := HZ.out
        go_wp2_with (first
          | (refine wpList_load_row rfl _ _ rfl (w.heap.size + 1) rfl 71 _ (0, 0) _ HRF Tryz.underlying71 rfl (by kernel_rfl) ?_)
          | (refine wpList_store_blk rfl _ _ _ rfl (w.heap.size + 1 + 1) #[.slice X n cap, .int .i64 m, .bool false] rfl rfl 71 _ HZF (by kernel_rfl) rfl rfl ?_; intro w9 hb9 hf9; have HB9 := Lib.hid hb9; have HF9 := Lib.hid hf9; clear hb9 hf9))
        have q0 := HB9.out.cell 0
        have q1 := HB9.out.cell 1
        have q2 := HB9.out.cell 2
        exact bodyPost_ret (v := .tuple #[.agg #[.slice X n cap, .int .i64 m, .bool false], .bool true]) (by simp [results, Tryz.results125, go_sem, q0, q1, q2]) rfl ⟨by simp only [Option.isSome, HE.out], F0.out.trans' HF9.out (fun i hi => .inr (by rw [List.mem_singleton] at hi; omega))⟩
    | some aa =>
      cases hf : f with
      | true =>
        cases hb3 : bt v m with
        | true =>
          have e17 := HB.out.c17
          have e18 := HB.out.c18
          have e19 := HB.out.c19
          have e20 := HB.out.c20
          have r1 := HR.out.cell 1
          have r2 := HR.out.cell 2
          have y1 := HR.out.frozen 1
          have y2 := HR.out.frozen 2
          have g0 := HG.out.cell 0
          have B1 : Hid True := Lib.hid trivial
          have B2 : Hid True := Lib.hid trivial
          have HE : Hid (Pm.extE bt false true f m u v = (v, true, true)) := Lib.hid (by simp [Pm.extE, hf, hb3])
          have B3 : Hid (bt v m = true) := Lib.hid hb3
          clear hb3
          subst hf
          go_upto_region 8 with (go_at_fn lf; refine (HBT.out _ _ _).mono ?_; rintro e wx ⟨rfl, rfl⟩; (first | rw [B1.out] | rw [B2.out] | rw [B3.out]))
          have hfsA : Fr [w.heap.size + 1] w1 (w1.setCell ⟨w.heap.size + 1, 1, none⟩ (.int .i64 v)) := (Fr.refl _ _).setCell (.inl (by simp)) _
          have HRA : Hid (Blk (w1.setCell ⟨w.heap.size + 1, 1, none⟩ (.int .i64 v)) (w.heap.size + 1) 71 #[.slice X n cap, .int .i64 v, .bool true]) := Lib.hid (HR.out.set_ 1 _)
          have HZA := Lib.hid (HZ.out.fr hfsA (by simp))
          have FA := Lib.hid (F0.out.trans' hfsA (by simp))
          clear hfsA
          generalize w1.setCell ⟨w.heap.size + 1, 1, none⟩ (.int .i64 v) = w2 at *
          have x2 := HRA.out.cell 2
          have x3 := HRA.out.frozen 2
          go_upto_region 9 with (go_at_fn lf; refine (HBT.out _ _ _).mono ?_; rintro e wx ⟨rfl, rfl⟩; (first | rw [B1.out] | rw [B2.out] | rw [B3.out]))
          have hfsB : Fr [w.heap.size + 1] w2 (w2.setCell ⟨w.heap.size + 1, 2, none⟩ (.bool true)) := (Fr.refl _ _).setCell (.inl (by simp)) _
          have HRB : Hid (Blk (w2.setCell ⟨w.heap.size + 1, 2, none⟩ (.bool true)) (w.heap.size + 1) 71 #[.slice X n cap, .int .i64 v, .bool true]) := Lib.hid (HRA.out.set_ 2 _)
          have HZB := Lib.hid (HZA.out.fr hfsB (by simp))
          have FB := Lib.hid (FA.out.trans' hfsB (by simp))
          clear hfsB
          generalize w2.setCell ⟨w.heap.size + 1, 2, none⟩ (.bool true) = w3 at *
          have HRF := HRB.out
          have HZF := HZB.out
          go_wp2_with (first
            | (refine wpList_load_row rfl _ _ rfl (w.heap.size + 1) rfl 71 _ (0, 0) _ HRF Tryz.underlying71 rfl (by kernel_rfl) ?_)
            | (refine wpList_store_blk rfl _ _ _ rfl (w.heap.size + 1 + 1) #[.slice X n cap, .int .i64 v, .bool true] rfl rfl 71 _ HZF (by kernel_rfl) rfl rfl ?_; intro w9 hb9 hf9; have HB9 := Lib.hid hb9; have HF9 := Lib.hid hf9; clear hb9 hf9))
          have q0 := HB9.out.cell 0
          have q1 := HB9.out.cell 1
          have q2 := HB9.out.cell 2
          exact bodyPost_ret (v := .tuple #[.agg #[.slice X n cap, .int .i64 v, .bool true], .bool true]) (by simp [results, Tryz.results125, go_sem, q0, q1, q2]) rfl ⟨by simp only [Option.isSome, HE.out], FB.out.trans' HF9.out (fun i hi => .inr (by rw [List.mem_singleton] at hi; omega))⟩
        | false =>
          have e17 := HB.out.c17
          have e18 := HB.out.c18
          have e19 := HB.out.c19
          have e20 := HB.out.c20
          have r1 := HR.out.cell 1
          have r2 := HR.out.cell 2
          have y1 := HR.out.frozen 1
          have y2 := HR.out.frozen 2
          have g0 := HG.out.cell 0
          have B1 : Hid True := Lib.hid trivial
          have B2 : Hid True := Lib.hid trivial
          have HE : Hid (Pm.extE bt false true f m u v = (m, true, true)) := Lib.hid (by simp [Pm.extE, hf, hb3])
          have B3 : Hid (bt v m = false) := Lib.hid hb3
          clear hb3
          subst hf
          go_upto_region 9 with (go_at_fn lf; refine (HBT.out _ _ _).mono ?_; rintro e wx ⟨rfl, rfl⟩; (first | rw [B1.out] | rw [B2.out] | rw [B3.out]))
          have hfsB : Fr [w.heap.size + 1] w1 (w1.setCell ⟨w.heap.size + 1, 2, none⟩ (.bool true)) := (Fr.refl _ _).setCell (.inl (by simp)) _
          have HRB : Hid (Blk (w1.setCell ⟨w.heap.size + 1, 2, none⟩ (.bool true)) (w.heap.size + 1) 71 #[.slice X n cap, .int .i64 m, .bool true]) := Lib.hid (HR.out.set_ 2 _)
          have HZB := Lib.hid (HZ.out.fr hfsB (by simp))
          have FB := Lib.hid (F0.out.trans' hfsB (by simp))
          clear hfsB
          generalize w1.setCell ⟨w.heap.size + 1, 2, none⟩ (.bool true) = w3 at *
          have HRF := HRB.out
          have HZF := HZB.out
          go_wp2_with (first
            | (refine wpList_load_row rfl _ _ rfl (w.heap.size + 1) rfl 71 _ (0, 0) _ HRF Tryz.underlying71 rfl (by kernel_rfl) ?_)
            | (refine wpList_store_blk rfl _ _ _ rfl (w.heap.size + 1 + 1) #[.slice X n cap, .int .i64 m, .bool true] rfl rfl 71 _ HZF (by kernel_rfl) rfl rfl ?_; intro w9 hb9 hf9; have HB9 := Lib.hid hb9; have HF9 := Lib.hid hf9; clear hb9 hf9))
          have q0 := HB9.out.cell 0
          have q1 := HB9.out.cell 1
          have q2 := HB9.out.cell 2
          exact bodyPost_ret (v := .tuple #[.agg #[.slice X n cap, .int .i64 m, .bool true], .bool true]) (by simp [results, Tryz.results125, go_sem, q0, q1, q2]) rfl ⟨by simp only [Option.isSome, HE.out], FB.out.trans' HF9.out (fun i hi => .inr (by rw [List.mem_singleton] at hi; omega))⟩
      | false =>
        have e17 := HB.out.c17
        have e18 := HB.out.c18
        have e19 := HB.out.c19
        have e20 := HB.out.c20
        have r1 := HR.out.cell 1
        have r2 := HR.out.cell 2
        have y1 := HR.out.frozen 1
        have y2 := HR.out.frozen 2
        have g0 := HG.out.cell 0
        have B1 : Hid True := Lib.hid trivial
        have B2 : Hid True := Lib.hid trivial
        have B3 : Hid True := Lib.hid trivial
        have HE : Hid (Pm.extE bt false true f m u v = (v, true, true)) := Lib.hid (by simp [Pm.extE, hf])
        subst hf
        go_upto_region 8 with (go_at_fn lf; refine (HBT.out _ _ _).mono ?_; rintro e wx ⟨rfl, rfl⟩; (first | rw [B1.out] | rw [B2.out] | rw [B3.out]))
        have hfsA : Fr [w.heap.size + 1] w1 (w1.setCell ⟨w.heap.size + 1, 1, none⟩ (.int .i64 v)) := (Fr.refl _ _).setCell (.inl (by simp)) _
        have HRA : Hid (Blk (w1.setCell ⟨w.heap.size + 1, 1, none⟩ (.int .i64 v)) (w.heap.size + 1) 71 #[.slice X n cap, .int .i64 v, .bool false]) := Lib.hid (HR.out.set_ 1 _)
        have HZA := Lib.hid (HZ.out.fr hfsA (by simp))
        have FA := Lib.hid (F0.out.trans' hfsA (by simp))
        clear hfsA
        generalize w1.setCell ⟨w.heap.size + 1, 1, none⟩ (.int .i64 v) = w2 at *
        have x2 := HRA.out.cell 2
        have x3 := HRA.out.frozen 2
        go_upto_region 9 with (go_at_fn lf; refine (HBT.out _ _ _).mono ?_; rintro e wx ⟨rfl, rfl⟩; (first | rw [B1.out] | rw [B2.out] | rw [B3.out]))
        have hfsB : Fr [w.heap.size + 1] w2 (w2.setCell ⟨w.heap.size + 1, 2, none⟩ (.bool true)) := (Fr.refl _ _).setCell (.inl (by simp)) _
        have HRB : Hid (Blk (w2.setCell ⟨w.heap.size + 1, 2, none⟩ (.bool true)) (w.heap.size + 1) 71 #[.slice X n cap, .int .i64 v, .bool true]) := Lib.hid (HRA.out.set_ 2 _)
        have HZB := Lib.hid (HZA.out.fr hfsB (by simp))
        have FB := Lib.hid (FA.out.trans' hfsB (by simp))
        clear hfsB
        generalize w2.setCell ⟨w.heap.size + 1, 2, none⟩ (.bool true) = w3 at *
        have HRF := HRB.out
        have HZF := HZB.out
        go_wp2_with (first
          | (refine wpList_load_row rfl _ _ rfl (w.heap.size + 1) rfl 71 _ (0, 0) _ HRF Tryz.underlying71 rfl (by kernel_rfl) ?_)
          | (refine wpList_store_blk rfl _ _ _ rfl (w.heap.size + 1 + 1) #[.slice X n cap, .int .i64 v, .bool true] rfl rfl 71 _ HZF (by kernel_rfl) rfl rfl ?_; intro w9 hb9 hf9; have HB9 := Lib.hid hb9; have HF9 := Lib.hid hf9; clear hb9 hf9))
        have q0 := HB9.out.cell 0
        have q1 := HB9.out.cell 1
        have q2 := HB9.out.cell 2
        exact bodyPost_ret (v := .tuple #[.agg #[.slice X n cap, .int .i64 v, .bool true], .bool true]) (by simp [results, Tryz.results125, go_sem, q0, q1, q2]) rfl ⟨by simp only [Option.isSome, HE.out], FB.out.trans' HF9.out (fun i hi => .inr (by rw [List.mem_singleton] at hi; omega))⟩
  | some ab =>
    cases pa with
    | none =>
      cases hf : f with
      | true =>
        cases hb1 : bt m u with
        | true =>
          have e17 := HB.out.c17
          have e18 := HB.out.c18
          have e19 := HB.out.c19
          have e20 := HB.out.c20
          have r1 := HR.out.cell 1
          have r2 := HR.out.cell 2
          have y1 := HR.out.frozen 1
          have y2 := HR.out.frozen 2
          have g0 := HG.out.cell 0
          have B2 : Hid True := Lib.hid trivial
          have B3 : Hid True := Lib.hid trivial
          have HE : Hid (Pm.extE bt true false f m u v = (m, f, true)) := Lib.hid (by simp [Pm.extE, hf, hb1])
          have B1 : Hid (bt m u = true) := Lib.hid hb1
          clear hb1
          subst hf
          go_upto_region 9 with (go_at_fn lf; refine (HBT.out _ _ _).mono ?_; rintro e wx ⟨rfl, rfl⟩; (first | rw [B1.out] | rw [B2.out] | rw [B3.out]))
          have HRF := HR.out
          have HZF := HZ.out
          go_wp2_with (first
            | (refine wpList_load_row rfl _ _ rfl (w.heap.size + 1) rfl 71 _ (0, 0) _ HRF Tryz.underlying71 rfl (by kernel_rfl) ?_)
            | (refine wpList_store_blk rfl _ _ _ rfl (w.heap.size + 1 + 1) #[.slice X n cap, .int .i64 m, .bool true] rfl rfl 71 _ HZF (by kernel_rfl) rfl rfl ?_; intro w9 hb9 hf9; have HB9 := Lib.hid hb9; have HF9 := Lib.hid hf9; clear hb9 hf9))
          have q0 := HB9.out.cell 0
          have q1 := HB9.out.cell 1
          have q2 := HB9.out.cell 2
          exact bodyPost_ret (v := .tuple #[.agg #[.slice X n cap, .int .i64 m, .bool true], .bool true]) (by simp [results, Tryz.results125, go_sem, q0, q1, q2]) rfl ⟨by simp only [Option.isSome, HE.out], F0.out.trans' HF9.out (fun i hi => .inr (by rw [List.mem_singleton] at hi; omega))⟩
        | false =>
          have e17 := HB.out.c17
          have e18 := HB.out.c18
          have e19 := HB.out.c19
          have e20 := HB.out.c20
          have r1 := HR.out.cell 1
          have r2 := HR.out.cell 2
          have y1 := HR.out.frozen 1
          have y2 := HR.out.frozen 2
          have g0 := HG.out.cell 0
          have B2 : Hid True := Lib.hid trivial
          have B3 : Hid True := Lib.hid trivial
          have HE : Hid (Pm.extE bt true false f m u v = (v, f, false)) := Lib.hid (by simp [Pm.extE, hf, hb1])
          have B1 : Hid (bt m u = false) := Lib.hid hb1
          clear hb1
          subst hf
          go_upto_region 4 with (go_at_fn lf; refine (HBT.out _ _ _).mono ?_; rintro e wx ⟨rfl, rfl⟩; (first | rw [B1.out] | rw [B2.out] | rw [B3.out]))
          have hfsA : Fr [w.heap.size + 1] w1 (w1.setCell ⟨w.heap.size + 1, 1, none⟩ (.int .i64 v)) := (Fr.refl _ _).setCell (.inl (by simp)) _
          have HRA : Hid (Blk (w1.setCell ⟨w.heap.size + 1, 1, none⟩ (.int .i64 v)) (w.heap.size + 1) 71 #[.slice X n cap, .int .i64 v, .bool true]) := Lib.hid (HR.out.set_ 1 _)
          have HZA := Lib.hid (HZ.out.fr hfsA (by simp))
          have FA := Lib.hid (F0.out.trans' hfsA (by simp))
          clear hfsA
          generalize w1.setCell ⟨w.heap.size + 1, 1, none⟩ (.int .i64 v) = w2 at *
          have HRF := HRA.out
          have HZF := HZA.out
          go_wp2_with (first
            | (refine wpList_load_row rfl _ _ rfl (w.heap.size + 1) rfl 71 _ (0, 0) _ HRF Tryz.underlying71 rfl (by kernel_rfl) ?_)
            | (refine wpList_store_blk rfl _ _ _ rfl (w.heap.size + 1 + 1) #[.slice X n cap, .int .i64 v, .bool true] rfl rfl 71 _ HZF (by kernel_rfl) rfl rfl ?_; intro w9 hb9 hf9; have HB9 := Lib.hid hb9; have HF9 := Lib.hid hf9; clear hb9 hf9))
          have q0 := HB9.out.cell 0
          have q1 := HB9.out.cell 1
          have q2 := HB9.out.cell 2
          exact bodyPost_ret (v := .tuple #[.agg #[.slice X n cap, .int .i64 v, .bool true], .bool false]) (by simp [results, Tryz.results125, go_sem, q0, q1, q2]) rfl ⟨by simp only [Option.isSome, HE.out], FA.out.trans' HF9.out (fun i hi => .inr (by rw [List.mem_singleton] at hi; omega))⟩
      | false =>
        have e17 := HB.out.c17
        have e18 := HB.out.c18
        have e19 := HB.out.c19
        have e20 := HB.out.c20
        have r1 := HR.out.cell 1
        have r2 := HR.out.cell 2
        have y1 := HR.out.frozen 1
        have y2 := HR.out.frozen 2
        have g0 := HG.out.cell 0
        have B1 : Hid True := Lib.hid trivial
        have B2 : Hid True := Lib.hid trivial
        have B3 : Hid True := Lib.hid trivial
        have HE : Hid (Pm.extE bt true false f m u v = (v, f, false)) := Lib.hid (by simp [Pm.extE, hf])
        subst hf
        go_upto_region 4 with (go_at_fn lf; refine (HBT.out _ _ _).mono ?_; rintro e wx ⟨rfl, rfl⟩; (first | rw [B1.out] | rw [B2.out] | rw [B3.out]))
        have hfsA : Fr [w.heap.size + 1] w1 (w1.setCell ⟨w.heap.size + 1, 1, none⟩ (.int .i64 v)) := (Fr.refl _ _).setCell (.inl (by simp)) _
        have HRA : Hid (Blk (w1.setCell ⟨w.heap.size + 1, 1, none⟩ (.int .i64 v)) (w.heap.size + 1) 71 #[.slice X n cap, .int .i64 v, .bool false]) := Lib.hid (HR.out.set_ 1 _)
        have HZA := Lib.hid (HZ.out.fr hfsA (by simp))
        have FA := Lib.hid (F0.out.trans' hfsA (by simp))
        clear hfsA
        generalize w1.setCell ⟨w.heap.size + 1, 1, none⟩ (.int .i64 v) = w2 at *
        have HRF := HRA.out
        have HZF := HZA.out
        go_wp2_with (first
          | (refine wpList_load_row rfl _ _ rfl (w.heap.size + 1) rfl 71 _ (0, 0) _ HRF Tryz.underlying71 rfl (by kernel_rfl) ?_)
          | (refine wpList_store_blk rfl _ _ _ rfl (w.heap.size + 1 + 1) #[.slice X n cap, .int .i64 v, .bool false] rfl rfl 71 _ HZF (by kernel_rfl) rfl rfl ?_; intro w9 hb9 hf9; have HB9 := Lib.hid hb9; have HF9 := Lib.hid hf9; clear hb9 hf9))
        have q0 := HB9.out.cell 0
        have q1 := HB9.out.cell 1
        have q2 := HB9.out.cell 2
        exact bodyPost_ret (v := .tuple #[.agg #[.slice X n cap, .int .i64 v, .bool false], .bool false]) (by simp [results, Tryz.results125, go_sem, q0, q1, q2]) rfl ⟨by simp only [Option.isSome, HE.out], FA.out.trans' HF9.out (fun i hi => .inr (by rw [List.mem_singleton] at hi; omega))⟩
    | some aa =>
      cases hf : f with
      | true =>
        cases hb1 : bt m u with
        | true =>
          cases hb3 : bt v m with
          | true =>
            have e17 := HB.out.c17
            have e18 := HB.out.c18
            have e19 := HB.out.c19
            have e20 := HB.out.c20
            have r1 := HR.out.cell 1
            have r2 := HR.out.cell 2
            have y1 := HR.out.frozen 1
            have y2 := HR.out.frozen 2
            have g0 := HG.out.cell 0
            have B2 : Hid True := Lib.hid trivial
            have HE : Hid (Pm.extE bt true true f m u v = (v, true, true)) := Lib.hid (by simp [Pm.extE, hf, hb1, hb3])
            have B1 : Hid (bt m u = true) := Lib.hid hb1
            clear hb1
            have B3 : Hid (bt v m = true) := Lib.hid hb3
            clear hb3
            subst hf
            go_upto_region 8 with (go_at_fn lf; refine (HBT.out _ _ _).mono ?_; rintro e wx ⟨rfl, rfl⟩; (first | rw [B1.out] | rw [B2.out] | rw [B3.out]))
            have hfsA : Fr [w.heap.size + 1] w1 (w1.setCell ⟨w.heap.size + 1, 1, none⟩ (.int .i64 v)) := (Fr.refl _ _).setCell (.inl (by simp)) _
            have HRA : Hid (Blk (w1.setCell ⟨w.heap.size + 1, 1, none⟩ (.int .i64 v)) (w.heap.size + 1) 71 #[.slice X n cap, .int .i64 v, .bool true]) := Lib.hid (HR.out.set_ 1 _)
            have HZA := Lib.hid (HZ.out.fr hfsA (by simp))
            have FA := Lib.hid (F0.out.trans' hfsA (by simp))
            clear hfsA
            generalize w1.setCell ⟨w.heap.size + 1, 1, none⟩ (.int .i64 v) = w2 at *
            have x2 := HRA.out.cell 2
            have x3 := HRA.out.frozen 2
            go_upto_region 9 with (go_at_fn lf; refine (HBT.out _ _ _).mono ?_; rintro e wx ⟨rfl, rfl⟩; (first | rw [B1.out] | rw [B2.out] | rw [B3.out]))
            have hfsB : Fr [w.heap.size + 1] w2 (w2.setCell ⟨w.heap.size + 1, 2, none⟩ (.bool true)) := (Fr.refl _ _).setCell (.inl (by simp)) _
            have HRB : Hid (Blk (w2.setCell ⟨w.heap.size + 1, 2, none⟩ (.bool true)) (w.heap.size + 1) 71 #[.slice X n cap, .int .i64 v, .bool true]) := Lib.hid (HRA.out.set_ 2 _)
            have HZB := Lib.hid (HZA.out.fr hfsB (by simp))
            have FB := Lib.hid (FA.out.trans' hfsB (by simp))
            clear hfsB
            generalize w2.setCell ⟨w.heap.size + 1, 2, none⟩ (.bool true) = w3 at *
            have HRF := HRB.out
            have HZF := HZB.out
            go_wp2_with (first
              | (refine wpList_load_row rfl _ _ rfl (w.heap.size + 1) rfl 71 _ (0, 0) _ HRF Tryz.underlying71 rfl (by kernel_rfl) ?_)
              | (refine wpList_store_blk rfl _ _ _ rfl (w.heap.size + 1 + 1) #[.slice X n cap, .int .i64 v, .bool true] rfl rfl 71 _ HZF (by kernel_rfl) rfl rfl ?_; intro w9 hb9 hf9; have HB9 := Lib.hid hb9; have HF9 := Lib.hid hf9; clear hb9 hf9))
            have q0 := HB9.out.cell 0
            have q1 := HB9.out.cell 1
            have q2 := HB9.out.cell 2
            exact bodyPost_ret (v := .tuple #[.agg #[.slice X n cap, .int .i64 v, .bool true], .bool true]) (by simp [results, Tryz.results125, go_sem, q0, q1, q2]) rfl ⟨by simp only [Option.isSome, HE.out], FB.out.trans' HF9.out (fun i hi => .inr (by rw [List.mem_singleton] at hi; omega))⟩
          | false =>
            have e17 := HB.out.c17
            have e18 := HB.out.c18
            have e19 := HB.out.c19
            have e20 := HB.out.c20
            have r1 := HR.out.cell 1
            have r2 := HR.out.cell 2
            have y1 := HR.out.frozen 1
            have y2 := HR.out.frozen 2
            have g0 := HG.out.cell 0
            have B2 : Hid True := Lib.hid trivial
            have HE : Hid (Pm.extE bt true true f m u v = (m, true, true)) := Lib.hid (by simp [Pm.extE, hf, hb1, hb3])
            have B1 : Hid (bt m u = true) := Lib.hid hb1
            clear hb1
            have B3 : Hid (bt v m = false) := Lib.hid hb3
            clear hb3
            subst hf
            go_upto_region 9 with (go_at_fn lf; refine (HBT.out _ _ _).mono ?_; rintro e wx ⟨rfl, rfl⟩; (first | rw [B1.out] | rw [B2.out] | rw [B3.out]))
            have hfsB : Fr [w.heap.size + 1] w1 (w1.setCell ⟨w.heap.size + 1, 2, none⟩ (.bool true)) := (Fr.refl _ _).setCell (.inl (by simp)) _
            have HRB : Hid (Blk (w1.setCell ⟨w.heap.size + 1, 2, none⟩ (.bool true)) (w.heap.size + 1) 71 #[.slice X n cap, .int .i64 m, .bool true]) := Lib.hid (HR.out.set_ 2 _)
            have HZB := Lib.hid (HZ.out.fr hfsB (by simp))
            have FB := Lib.hid (F0.out.trans' hfsB (by simp))
            clear hfsB
            generalize w1.setCell ⟨w.heap.size + 1, 2, none⟩ (.bool true) = w3 at *
            have HRF := HRB.out
            have HZF := HZB.out
            go_wp2_with (first
              | (refine wpList_load_row rfl _ _ rfl (w.heap.size + 1) rfl 71 _ (0, 0) _ HRF Tryz.underlying71 rfl (by kernel_rfl) ?_)
              | (refine wpList_store_blk rfl _ _ _ rfl (w.heap.size + 1 + 1) #[.slice X n cap, .int .i64 m, .bool true] rfl rfl 71 _ HZF (by kernel_rfl) rfl rfl ?_; intro w9 hb9 hf9; have HB9 := Lib.hid hb9; have HF9 := Lib.hid hf9; clear hb9 hf9))
            have q0 := HB9.out.cell 0
            have q1 := HB9.out.cell 1
            have q2 := HB9.out.cell 2
            exact bodyPost_ret (v := .tuple #[.agg #[.slice X n cap, .int .i64 m, .bool true], .bool true]) (by simp [results, Tryz.results125, go_sem, q0, q1, q2]) rfl ⟨by simp only [Option.isSome, HE.out], FB.out.trans' HF9.out (fun i hi => .inr (by rw [List.mem_singleton] at hi; omega))⟩
        | false =>
          cases hb2 : bt m v with
          | true =>
            have e17 := HB.out.c17
            have e18 := HB.out.c18
            have e19 := HB.out.c19
            have e20 := HB.out.c20
            have r1 := HR.out.cell 1
            have r2 := HR.out.cell 2
            have y1 := HR.out.frozen 1
            have y2 := HR.out.frozen 2
            have g0 := HG.out.cell 0
            have B3 : Hid True := Lib.hid trivial
            have HE : Hid (Pm.extE bt true true f m u v = (v, f, false)) := Lib.hid (by simp [Pm.extE, hf, hb1, hb2])
            have B1 : Hid (bt m u = false) := Lib.hid hb1
            clear hb1
            have B2 : Hid (bt m v = true) := Lib.hid hb2
            clear hb2
            subst hf
            go_upto_region 4 with (go_at_fn lf; refine (HBT.out _ _ _).mono ?_; rintro e wx ⟨rfl, rfl⟩; (first | rw [B1.out] | rw [B2.out] | rw [B3.out]))
            have hfsA : Fr [w.heap.size + 1] w1 (w1.setCell ⟨w.heap.size + 1, 1, none⟩ (.int .i64 v)) := (Fr.refl _ _).setCell (.inl (by simp)) _
            have HRA : Hid (Blk (w1.setCell ⟨w.heap.size + 1, 1, none⟩ (.int .i64 v)) (w.heap.size + 1) 71 #[.slice X n cap, .int .i64 v, .bool true]) := Lib.hid (HR.out.set_ 1 _)
            have HZA := Lib.hid (HZ.out.fr hfsA (by simp))
            have FA := Lib.hid (F0.out.trans' hfsA (by simp))
            clear hfsA
            generalize w1.setCell ⟨w.heap.size + 1, 1, none⟩ (.int .i64 v) = w2 at *
            have HRF := HRA.out
            have HZF := HZA.out
            go_wp2_with (first
              | (refine wpList_load_row rfl _ _ rfl (w.heap.size + 1) rfl 71 _ (0, 0) _ HRF Tryz.underlying71 rfl (by kernel_rfl) ?_)
              | (refine wpList_store_blk rfl _ _ _ rfl (w.heap.size + 1 + 1) #[.slice X n cap, .int .i64 v, .bool true] rfl rfl 71 _ HZF (by kernel_rfl) rfl rfl ?_; intro w9 hb9 hf9; have HB9 := Lib.hid hb9; have HF9 := Lib.hid hf9; clear hb9 hf9))
            have q0 := HB9.out.cell 0
            have q1 := HB9.out.cell 1
            have q2 := HB9.out.cell 2
            exact bodyPost_ret (v := .tuple #[.agg #[.slice X n cap, .int .i64 v, .bool true], .bool false]) (by simp [results, Tryz.results125, go_sem, q0, q1, q2]) rfl ⟨by simp only [Option.isSome, HE.out], FA.out.trans' HF9.out (fun i hi => .inr (by rw [List.mem_singleton] at hi; omega))⟩
          | false =>
            have e17 := HB.out.c17
            have e18 := HB.out.c18
            have e19 := HB.out.c19
            have e20 := HB.out.c20
            have r1 := HR.out.cell 1
            have r2 := HR.out.cell 2
            have y1 := HR.out.frozen 1
            have y2 := HR.out.frozen 2
            have g0 := HG.out.cell 0
            have B3 : Hid True := Lib.hid trivial
            have HE : Hid (Pm.extE bt true true f m u v = (v, f, true)) := Lib.hid (by simp [Pm.extE, hf, hb1, hb2])
            have B1 : Hid (bt m u = false) := Lib.hid hb1
            clear hb1
            have B2 : Hid (bt m v = false) := Lib.hid hb2
            clear hb2
            subst hf
            go_upto_region 4 with (go_at_fn lf; refine (HBT.out _ _ _).mono ?_; rintro e wx ⟨rfl, rfl⟩; (first | rw [B1.out] | rw [B2.out] | rw [B3.out]))
            have hfsA : Fr [w.heap.size + 1] w1 (w1.setCell ⟨w.heap.size + 1, 1, none⟩ (.int .i64 v)) := (Fr.refl _ _).setCell (.inl (by simp)) _
            have HRA : Hid (Blk (w1.setCell ⟨w.heap.size + 1, 1, none⟩ (.int .i64 v)) (w.heap.size + 1) 71 #[.slice X n cap, .int .i64 v, .bool true]) := Lib.hid (HR.out.set_ 1 _)
            have HZA := Lib.hid (HZ.out.fr hfsA (by simp))
            have FA := Lib.hid (F0.out.trans' hfsA (by simp))
            clear hfsA
            generalize w1.setCell ⟨w.heap.size + 1, 1, none⟩ (.int .i64 v) = w2 at *
            have HRF := HRA.out
            have HZF := HZA.out
            go_wp2_with (first
              | (refine wpList_load_row rfl _ _ rfl (w.heap.size + 1) rfl 71 _ (0, 0) _ HRF Tryz.underlying71 rfl (by kernel_rfl) ?_)
              | (refine wpList_store_blk rfl _ _ _ rfl (w.heap.size + 1 + 1) #[.slice X n cap, .int .i64 v, .bool true] rfl rfl 71 _ HZF (by kernel_rfl) rfl rfl ?_; intro w9 hb9 hf9; have HB9 := Lib.hid hb9; have HF9 := Lib.hid hf9; clear hb9 hf9))
            have q0 := HB9.out.cell 0
            have q1 := HB9.out.cell 1
            have q2 := HB9.out.cell 2
            exact bodyPost_ret (v := .tuple #[.agg #[.slice X n cap, .int .i64 v, .bool true], .bool true]) (by simp [results, Tryz.results125, go_sem, q0, q1, q2]) rfl ⟨by simp only [Option.isSome, HE.out], FA.out.trans' HF9.out (fun i hi => .inr (by rw [List.mem_singleton] at hi; omega))⟩
      | false =>
        have e17 := HB.out.c17
        have e18 := HB.out.c18
        have e19 := HB.out.c19
        have e20 := HB.out.c20
        have r1 := HR.out.cell 1
        have r2 := HR.out.cell 2
        have y1 := HR.out.frozen 1
        have y2 := HR.out.frozen 2
        have g0 := HG.out.cell 0
        have B1 : Hid True := Lib.hid trivial
        have B2 : Hid True := Lib.hid trivial
        have B3 : Hid True := Lib.hid trivial
        have HE : Hid (Pm.extE bt true true f m u v = (v, f, false)) := Lib.hid (by simp [Pm.extE, hf])
        subst hf
        go_upto_region 4 with (go_at_fn lf; refine (HBT.out _ _ _).mono ?_; rintro e wx ⟨rfl, rfl⟩; (first | rw [B1.out] | rw [B2.out] | rw [B3.out]))
        have hfsA : Fr [w.heap.size + 1] w1 (w1.setCell ⟨w.heap.size + 1, 1, none⟩ (.int .i64 v)) := (Fr.refl _ _).setCell (.inl (by simp)) _
        have HRA : Hid (Blk (w1.setCell ⟨w.heap.size + 1, 1, none⟩ (.int .i64 v)) (w.heap.size + 1) 71 #[.slice X n cap, .int .i64 v, .bool false]) := Lib.hid (HR.out.set_ 1 _)
        have HZA := Lib.hid (HZ.out.fr hfsA (by simp))
        have FA := Lib.hid (F0.out.trans' hfsA (by simp))
        clear hfsA
        generalize w1.setCell ⟨w.heap.size + 1, 1, none⟩ (.int .i64 v) = w2 at *
        have HRF := HRA.out
        have HZF := HZA.out
        go_wp2_with (first
          | (refine wpList_load_row rfl _ _ rfl (w.heap.size + 1) rfl 71 _ (0, 0) _ HRF Tryz.underlying71 rfl (by kernel_rfl) ?_)
          | (refine wpList_store_blk rfl _ _ _ rfl (w.heap.size + 1 + 1) #[.slice X n cap, .int .i64 v, .bool false] rfl rfl 71 _ HZF (by kernel_rfl) rfl rfl ?_; intro w9 hb9 hf9; have HB9 := Lib.hid hb9; have HF9 := Lib.hid hf9; clear hb9 hf9))
        have q0 := HB9.out.cell 0
        have q1 := HB9.out.cell 1
        have q2 := HB9.out.cell 2
        exact bodyPost_ret (v := .tuple #[.agg #[.slice X n cap, .int .i64 v, .bool false], .bool false]) (by simp [results, Tryz.results125, go_sem, q0, q1, q2]) rfl ⟨by simp only [Option.isSome, HE.out], FA.out.trans' HF9.out (fun i hi => .inr (by rw [List.mem_singleton] at hi; omega))⟩
end Go.Proofs.YtciaallekkdnhaaGreat
namespace Go.Proofs.YtciaallekkdnhaaGreat
open Go.RowKit

set_option maxRecDepth 100000 in
set_option maxHeartbeats 4000000 in
/-- The pairs with the key of the change on the right. -/
theorem pj1_any (q : Qry) (c : Chg) (pb pa : Option Addr) (u v : Int) (ge : Nat) (x : PairV) (w : World) (he : EffAt w ge q c pb pa u v) :
    Calls Tryz.prog 152 #[x.val, .pointer (some ⟨ge, 0, none⟩)] w fun e w' => e = .returned (.bool (decide (x.2.k = c.k))) ∧ Fr [] w w' := by
  obtain ⟨⟨r0, r1, r2, r3, r4⟩, ⟨r5, r6, r7, r8, r9⟩⟩ := x
  have F0 := (Fr.refl [] w).alloc (.cells #[.int .i64 r0, .int .i64 r1, .int .i64 r2, .int .i64 r3, .int .i64 r4, .int .i64 r5, .int .i64 r6, .int .i64 r7, .int .i64 r8, .int .i64 r9] 187)
  have HB := Lib.hid (Blk.new w 187 #[.int .i64 r0, .int .i64 r1, .int .i64 r2, .int .i64 r3, .int .i64 r4, .int .i64 r5, .int .i64 r6, .int .i64 r7, .int .i64 r8, .int .i64 r9])
  have HE := Lib.hid (he.fr0 F0)
  have HF := Lib.hid F0
  clear he F0
  go_enter Tryz.func152, Tryz.ntmps152
  go_upto_region 1 with (fail)
  generalize w.alloc (.cells #[.int .i64 r0, .int .i64 r1, .int .i64 r2, .int .i64 r3, .int .i64 r4, .int .i64 r5, .int .i64 r6, .int .i64 r7, .int .i64 r8, .int .i64 r9] 187) = w1 at *
  have b : w1.cell? ⟨w.heap.size, 6, none⟩ = some (.int .i64 r6) := HB.out.cell 6
  have e := HE.out.c8
  go_wp2
  go_ret
  exact ⟨rfl, HF.out⟩
set_option maxRecDepth 100000 in
set_option maxHeartbeats 4000000 in
/-- The same on the left. -/
theorem pj2_any (q : Qry) (c : Chg) (pb pa : Option Addr) (u v : Int) (ge : Nat) (x : PairV) (w : World) (he : EffAt w ge q c pb pa u v) :
    Calls Tryz.prog 153 #[x.val, .pointer (some ⟨ge, 0, none⟩)] w fun e w' => e = .returned (.bool (decide (x.1.k = c.k))) ∧ Fr [] w w' := by
  obtain ⟨⟨r0, r1, r2, r3, r4⟩, ⟨r5, r6, r7, r8, r9⟩⟩ := x
  have F0 := (Fr.refl [] w).alloc (.cells #[.int .i64 r0, .int .i64 r1, .int .i64 r2, .int .i64 r3, .int .i64 r4, .int .i64 r5, .int .i64 r6, .int .i64 r7, .int .i64 r8, .int .i64 r9] 187)
  have HB := Lib.hid (Blk.new w 187 #[.int .i64 r0, .int .i64 r1, .int .i64 r2, .int .i64 r3, .int .i64 r4, .int .i64 r5, .int .i64 r6, .int .i64 r7, .int .i64 r8, .int .i64 r9])
  have HE := Lib.hid (he.fr0 F0)
  have HF := Lib.hid F0
  clear he F0
  go_enter Tryz.func153, Tryz.ntmps153
  go_upto_region 1 with (fail)
  generalize w.alloc (.cells #[.int .i64 r0, .int .i64 r1, .int .i64 r2, .int .i64 r3, .int .i64 r4, .int .i64 r5, .int .i64 r6, .int .i64 r7, .int .i64 r8, .int .i64 r9] 187) = w1 at *
  have b : w1.cell? ⟨w.heap.size, 1, none⟩ = some (.int .i64 r1) := HB.out.cell 1
  have e := HE.out.c8
  go_wp2
  go_ret
  exact ⟨rfl, HF.out⟩
set_option maxRecDepth 100000 in
set_option maxHeartbeats 4000000 in
/-- The partner. -/
theorem pj3_any (q : Qry) (c : Chg) (pb pa : Option Addr) (u v : Int) (ge : Nat) (x : PairV) (w : World) (he : EffAt w ge q c pb pa u v) :
    Calls Tryz.prog 155 #[x.val, .pointer (some ⟨ge, 0, none⟩)] w fun e w' => e = .returned (.bool (decide (x.2.k = v))) ∧ Fr [] w w' := by
  obtain ⟨⟨r0, r1, r2, r3, r4⟩, ⟨r5, r6, r7, r8, r9⟩⟩ := x
  have F0 := (Fr.refl [] w).alloc (.cells #[.int .i64 r0, .int .i64 r1, .int .i64 r2, .int .i64 r3, .int .i64 r4, .int .i64 r5, .int .i64 r6, .int .i64 r7, .int .i64 r8, .int .i64 r9] 187)
  have HB := Lib.hid (Blk.new w 187 #[.int .i64 r0, .int .i64 r1, .int .i64 r2, .int .i64 r3, .int .i64 r4, .int .i64 r5, .int .i64 r6, .int .i64 r7, .int .i64 r8, .int .i64 r9])
  have HE := Lib.hid (he.fr0 F0)
  have HF := Lib.hid F0
  clear he F0
  go_enter Tryz.func155, Tryz.ntmps155
  go_upto_region 1 with (fail)
  generalize w.alloc (.cells #[.int .i64 r0, .int .i64 r1, .int .i64 r2, .int .i64 r3, .int .i64 r4, .int .i64 r5, .int .i64 r6, .int .i64 r7, .int .i64 r8, .int .i64 r9] 187) = w1 at *
  have b : w1.cell? ⟨w.heap.size, 6, none⟩ = some (.int .i64 r6) := HB.out.cell 6
  have e := HE.out.c20
  go_wp2
  go_ret
  exact ⟨rfl, HF.out⟩
set_option maxRecDepth 100000 in
set_option maxHeartbeats 4000000 in
/-- Pairs behind. -/
theorem pj4_any (q : Qry) (c : Chg) (pb : Option Addr) (u v : Int) (ga ge gv gf : Nat) (a : RowV) (x : PairV) (w : World) (hf : w.cell? ⟨gf, 0, none⟩ = some (.func (.func 150) #[] #[.pointer (some ⟨ge, 0, none⟩), .pointer (some ⟨gv, 0, none⟩)])) (hfl : gf < w.heap.size)
    (he : EffAt w ge q c pb (some ⟨ga, 0, none⟩) u v) (hv : Blk w gv 3 #[.int .i64 (a.value q.column)]) (ha : Blk w ga 116 a.cells.toArray) :
    Calls Tryz.prog 157 #[x.val, .pointer (some ⟨gf, 0, none⟩)] w fun e w' => e = .returned (.bool (Pm.behind q a x.1)) ∧ Fr [] w w' := by
  have F0 := (Fr.refl [] w).alloc (.cells #[.int .i64 x.1.t, .int .i64 x.1.k, .int .i64 x.1.x, .int .i64 x.1.y, .int .i64 x.1.z, .int .i64 x.2.t, .int .i64 x.2.k, .int .i64 x.2.x, .int .i64 x.2.y, .int .i64 x.2.z] 187)
  have HC := Lib.hid (pbehind1_any q c pb u v ga ge gv a x.1 _ (he.fr0 F0) (hv.fr F0 (by simp)) (ha.fr F0 (by simp)))
  obtain ⟨⟨r0, r1, r2, r3, r4⟩, ⟨r5, r6, r7, r8, r9⟩⟩ := x
  have HB := Lib.hid (Blk.new w 187 #[.int .i64 r0, .int .i64 r1, .int .i64 r2, .int .i64 r3, .int .i64 r4, .int .i64 r5, .int .i64 r6, .int .i64 r7, .int .i64 r8, .int .i64 r9])
  have hf1 := (F0.rules.1 gf 0 hfl).trans hf
  have HF := Lib.hid F0
  clear he F0 hv ha hf
  obtain ⟨R, hR⟩ : ∃ R, Pm.behind q a ⟨r0, r1, r2, r3, r4⟩ = R := ⟨_, rfl⟩
  replace HC := Lib.hid (HC.out)
  rw [hR] at HC ⊢
  clear hR
  go_enter Tryz.func157, Tryz.ntmps157
  go_upto_region 1 with (fail)
  dsimp only at HF hf1 HC HB
  generalize w.alloc (.cells #[.int .i64 r0, .int .i64 r1, .int .i64 r2, .int .i64 r3, .int .i64 r4, .int .i64 r5, .int .i64 r6, .int .i64 r7, .int .i64 r8, .int .i64 r9] 187) = w1 at *
  have b0 : w1.cell? ⟨w.heap.size, 0, none⟩ = some (.int .i64 r0) := HB.out.cell 0
  have b1 : w1.cell? ⟨w.heap.size, 1, none⟩ = some (.int .i64 r1) := HB.out.cell 1
  have b2 : w1.cell? ⟨w.heap.size, 2, none⟩ = some (.int .i64 r2) := HB.out.cell 2
  have b3 : w1.cell? ⟨w.heap.size, 3, none⟩ = some (.int .i64 r3) := HB.out.cell 3
  have b4 : w1.cell? ⟨w.heap.size, 4, none⟩ = some (.int .i64 r4) := HB.out.cell 4
  go_wp2_with (go_at_call 150; refine HC.out.mono ?_; rintro e w2 ⟨rfl, f2⟩; have F2 := Lib.hid (HF.out.trans f2); clear f2)
  go_ret
  exact ⟨rfl, F2.out⟩
/-- The right row of a pair is written. -/
theorem OwnL.putRight {w : World} {g n cap : Nat} {L : List PairV} (h : OwnL 187 10 PairV.cells w (.slice (some ⟨g, 0, none⟩) n cap) L) {i : Nat} (hi : i < L.length) (y : RowV) :
    OwnL 187 10 PairV.cells (w.setCells g (i * 10 + 5) y.cells) (.slice (some ⟨g, 0, none⟩) n cap) (L.set i (L[i].1, y)) := by
  obtain ⟨hn, h0 | ⟨g', cur, hA, hb, hc, hm, hs, ht⟩⟩ := h.blk
  · cases h0.1
  · injection hA with hA
    injection hA with hA
    subst hA
    refine OwnL.of_blk PairV.cells_len (Blk.puts _ _ hb) (by rw [List.length_set]; exact hn) hc hm (by rw [wr_size, hs]) (fun k hk => ?_)
    have hy : y.cells.length = 5 := RowV.cells_len y
    rw [wr_get _ _ _ _ (by rw [hy, hs]; omega), hy]
    have hq : k / 10 < L.length := by omega
    have hr : k % 10 < 10 := Nat.mod_lt _ (by decide)
    have h2 := flat_get PairV.cells_len (L.set i (L[i].1, y)) (k / 10) (by rw [List.length_set]; exact hq) (k % 10) hr
    have h3 := flat_get PairV.cells_len L (k / 10) hq (k % 10) hr
    rw [show k / 10 * 10 + k % 10 = k by omega] at h2 h3
    rw [h2, OwnL.cur_get ht hk, h3]
    by_cases hki : k / 10 = i
    · subst hki
      have h4 : (L.set (k / 10) (L[k / 10].1, y))[k / 10]'(by rw [List.length_set]; exact hq) = (L[k / 10].1, y) := by simp
      rw [h4]
      by_cases hj : k / 10 * 10 + 5 ≤ k
      · rw [if_pos (by omega)]
        have hj2 : k - (k / 10 * 10 + 5) = k % 10 - 5 := by omega
        have hj3 : k % 10 = 5 ∨ k % 10 = 6 ∨ k % 10 = 7 ∨ k % 10 = 8 ∨ k % 10 = 9 := by omega
        rw [hj2]
        rcases hj3 with e | e | e | e | e <;> rw [e] <;> rfl
      · rw [if_neg (by omega)]
        have hj3 : k % 10 = 0 ∨ k % 10 = 1 ∨ k % 10 = 2 ∨ k % 10 = 3 ∨ k % 10 = 4 := by omega
        rcases hj3 with e | e | e | e | e <;> rw [e] <;> rfl
    · rw [if_neg (by omega)]
      have h4 : (L.set i (L[i].1, y))[k / 10]'(by rw [List.length_set]; exact hq) = L[k / 10] := by
        rw [List.getElem_set_ne (by omega)]
      rw [h4]
theorem wpList_store_right {P : Program} {L : List PairV} {ops : Array Oper} {rest : List Oper} {o : Oper} {a : Act} {w : World} {Q : Exit → Act → World → Prop} (hgd : o.guard = none) (ty : TypeId) (x y : Operand) (ho : o.op = .store ty x y)
    (g off : Nat) (r : RowV) (hx : a.eval x = .pointer (some ⟨g, off, none⟩)) (hy : a.eval y = .agg r.cells.toArray)
    (i n cap : Nat) (hown : OwnL 187 10 PairV.cells w (.slice (some ⟨g, 0, none⟩) n cap) L) (hi : i < L.length) (hoff : off = i * 10 + 5)
    (hsz : (P.info? ty).map (·.size) = some 5)
    (h : ∀ w', OwnL 187 10 PairV.cells w' (.slice (some ⟨g, 0, none⟩) n cap) (L.set i (L[i].1, r)) → Fr [g] w w' → wpList P ops Q rest (a.put o.dst undef) w') : wpList P ops Q (o :: rest) a w := by
  subst hoff
  obtain ⟨hn, h0 | ⟨g', cur, hA, hb, hc, hm, hs, ht⟩⟩ := hown.blk
  · cases h0.1
  · injection hA with hA
    injection hA with hA
    subst hA
    refine wpList_store_put hgd ty x y ho g (i * 10 + 5) r.cells.toArray hx hy 187 cur hb (by rw [hsz]; simp) (by simp only [List.size_toArray]; rw [RowV.cells_len, hs]; omega) (List.all_eq_true.2 (fun u hu => RowV.cells_one r u (by simpa using hu))) (h _ (by simpa using hown.putRight hi r) (Fr.puts _ _ (Fr.refl [g] w) (.inl (by simp))))
end Go.Proofs.YtciaallekkdnhaaGreat
