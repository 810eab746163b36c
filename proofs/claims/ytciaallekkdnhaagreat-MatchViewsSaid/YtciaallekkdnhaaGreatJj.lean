/-
  The library's functions on slices of rows: IndexFunc, Clone, DeleteFunc, Insert; without, inserted.
-/
import Derived.Test.YtciaallekkdnhaaGreatJg
import Derived.Test.YtciaallekkdnhaaGreatJc
import Derived.Deep.RegionHeld3
import Derived.Test.YtciaallekkdnhaaGreatJd
import Derived.Test.YtciaallekkdnhaaGreatJe
import Derived.Shelf.Abstract
import Derived.Deep.DeepCutAuto
import Derived.WalkSpells
import Derived.OwnWalk
import Derived.Lib.SliceRun
namespace Go.Proofs.YtciaallekkdnhaaGreat
open Go.RowKit

namespace Pm
/-- Whether the rows of an effect touch a query of a kind. -/
def tkE (k t o : Int) (p r : Bool) (u v : Int) : Bool :=
  if k = 3 then (p != r) else if k = 4 then !decide (u = v) else if k = 5 ∨ k = 6 then ((p != r) || !decide (u = v)) else if k = 7 then ((p || r) || decide (t = o)) else (p || r)
theorem tkE_tk (q : Qry) (c : Chg) : tkE q.kind c.t q.other (B q c).isSome (A q c).isSome (old q c) (now q c) = tk q c := rfl
theorem valid_kind {q : Qry} (h : Em.valid q = true) : q.kind = 1 ∨ q.kind = 2 ∨ q.kind = 3 ∨ q.kind = 4 ∨ q.kind = 5 ∨ q.kind = 6 ∨ q.kind = 7 := by
  unfold Em.valid at h
  split at h <;> rename_i h1
  · exact .inl h1
  · split at h <;> rename_i h2
    · omega
    · split at h <;> rename_i h3
      · omega
      · split at h <;> rename_i h4
        · omega
        · cases h
end Pm
/-- The function that says whether a query of a kind is touched. -/
theorem kindT {q : Qry} (hk : Em.valid q = true) : ∃ n : Nat, (∀ args w, (callFunc n args).run Tryz.prog w = .ok (.enter n args) w) ∧ (∀ (c : Chg) (pb pa : Option Addr) (u v : Int) (w : World), Calls Tryz.prog n #[.agg (effArr q c pb pa u v)] w fun e w' => e = .returned (.bool (Pm.tkE q.kind c.t q.other pb.isSome pa.isSome u v)) ∧ Fr [] w w') ∧
    ∀ g5 g6, ∃ p, mget (KM g5 g6) q.kind = some (fnV n, p) := by
  have hg := fun g5 g6 => KM.get g5 g6
  rcases Pm.valid_kind hk with h | h | h | h | h | h | h
  · refine ⟨75, enters_of Tryz.func75 (by kernel_rfl) rfl, fun c pb pa u v w => (pany_any q c pb pa u v w).mono fun e w' hh => ⟨hh.1.trans (by rw [h]; simp [Pm.tkE]), hh.2⟩, fun g5 g6 => ⟨_, by rw [h]; exact (hg g5 g6).1⟩⟩
  · refine ⟨75, enters_of Tryz.func75 (by kernel_rfl) rfl, fun c pb pa u v w => (pany_any q c pb pa u v w).mono fun e w' hh => ⟨hh.1.trans (by rw [h]; simp [Pm.tkE]), hh.2⟩, fun g5 g6 => ⟨_, by rw [h]; exact (hg g5 g6).2.1⟩⟩
  · refine ⟨77, enters_of Tryz.func77 (by kernel_rfl) rfl, fun c pb pa u v w => (pone_any q c pb pa u v w).mono fun e w' hh => ⟨hh.1.trans (by rw [h]; simp [Pm.tkE]), hh.2⟩, fun g5 g6 => ⟨_, by rw [h]; exact (hg g5 g6).2.2.1⟩⟩
  · refine ⟨79, enters_of Tryz.func79 (by kernel_rfl) rfl, fun c pb pa u v w => (psum_t q c pb pa u v w).mono fun e w' hh => ⟨hh.1.trans (by rw [h]; simp [Pm.tkE]), hh.2⟩, fun g5 g6 => ⟨_, by rw [h]; exact (hg g5 g6).2.2.2.1⟩⟩
  · refine ⟨81, enters_of Tryz.func81 (by kernel_rfl) rfl, fun c pb pa u v w => (pmin_t q c pb pa u v w).mono fun e w' hh => ⟨hh.1.trans (by rw [h]; simp [Pm.tkE]), hh.2⟩, fun g5 g6 => ⟨_, by rw [h]; exact (hg g5 g6).2.2.2.2.1⟩⟩
  · refine ⟨84, enters_of Tryz.func84 (by kernel_rfl) rfl, fun c pb pa u v w => (pmax_t q c pb pa u v w).mono fun e w' hh => ⟨hh.1.trans (by rw [h]; simp [Pm.tkE]), hh.2⟩, fun g5 g6 => ⟨_, by rw [h]; exact (hg g5 g6).2.2.2.2.2.1⟩⟩
  · refine ⟨86, enters_of Tryz.func86 (by kernel_rfl) rfl, fun c pb pa u v w => (pjoin_t q c pb pa u v w).mono fun e w' hh => ⟨hh.1.trans (by rw [h]; simp [Pm.tkE]), hh.2⟩, fun g5 g6 => ⟨_, by rw [h]; exact (hg g5 g6).2.2.2.2.2.2⟩⟩
set_option maxRecDepth 100000 in
set_option maxHeartbeats 8000000 in
/-- Whether a change touches a query. -/
theorem touches_any (q : Qry) (c : Chg) (hok : okI q.kind) (w : World) : Calls Tryz.prog 25 #[q.val, c.val] w fun e w' => e = .returned (.bool (Pm.touches q c)) ∧ Fr [] w w' := by
  have HQV := Lib.hid (qvalid_any q)
  have HCV := Lib.hid (validChange_any c)
  have HEF := Lib.hid (effectOf_any q c)
  have hf0 : Fr [] w ((w.alloc (.cells #[.int .i64 q.kind, .int .i64 q.table, .int .i64 q.column, .int .i64 q.low, .int .i64 q.high, .int .i64 q.by_, .int .i64 q.other] 35)).alloc (.cells #[.int .i64 c.t, .int .i64 c.k, .bool c.had, .int .i64 c.o0, .int .i64 c.o1, .int .i64 c.o2, .bool c.has, .int .i64 c.n0, .int .i64 c.n1, .int .i64 c.n2] 59)) := ((Fr.refl _ _).alloc _).alloc _
  have hq := (QAt.new w q).fr ((Fr.refl [] _).alloc (.cells #[.int .i64 c.t, .int .i64 c.k, .bool c.had, .int .i64 c.o0, .int .i64 c.o1, .int .i64 c.o2, .bool c.has, .int .i64 c.n0, .int .i64 c.n1, .int .i64 c.n2] 59)) (by simp)
  have hc := Blk.new (w.alloc (.cells #[.int .i64 q.kind, .int .i64 q.table, .int .i64 q.column, .int .i64 q.low, .int .i64 q.high, .int .i64 q.by_, .int .i64 q.other] 35)) 59 #[.int .i64 c.t, .int .i64 c.k, .bool c.had, .int .i64 c.o0, .int .i64 c.o1, .int .i64 c.o2, .bool c.has, .int .i64 c.n0, .int .i64 c.n1, .int .i64 c.n2]
  rw [World.size_alloc] at hc
  have HF0 := Lib.hid hf0
  have HQ := Lib.hid hq
  have HC := Lib.hid hc
  clear hf0 hq hc
  go_enter Tryz.func25, Tryz.ntmps25
  go_upto_region 1 with (fail)
  generalize (w.alloc (.cells #[.int .i64 q.kind, .int .i64 q.table, .int .i64 q.column, .int .i64 q.low, .int .i64 q.high, .int .i64 q.by_, .int .i64 q.other] 35)).alloc (.cells #[.int .i64 c.t, .int .i64 c.k, .bool c.had, .int .i64 c.o0, .int .i64 c.o1, .int .i64 c.o2, .bool c.has, .int .i64 c.n0, .int .i64 c.n1, .int .i64 c.n2] 59) = w1 at *
  have HS : Hid (∀ W, Fr [] w1 W → W.cell? ⟨w.heap.size, 0, none⟩ = some (.int .i64 q.kind) ∧ W.cell? ⟨w.heap.size, 1, none⟩ = some (.int .i64 q.table) ∧ W.cell? ⟨w.heap.size, 2, none⟩ = some (.int .i64 q.column) ∧ W.cell? ⟨w.heap.size, 3, none⟩ = some (.int .i64 q.low) ∧ W.cell? ⟨w.heap.size, 4, none⟩ = some (.int .i64 q.high) ∧ W.cell? ⟨w.heap.size, 5, none⟩ = some (.int .i64 q.by_) ∧ W.cell? ⟨w.heap.size, 6, none⟩ = some (.int .i64 q.other) ∧ W.cell? ⟨w.heap.size + 1, 0, none⟩ = some (.int .i64 c.t) ∧ W.cell? ⟨w.heap.size + 1, 1, none⟩ = some (.int .i64 c.k) ∧ W.cell? ⟨w.heap.size + 1, 2, none⟩ = some (.bool c.had) ∧ W.cell? ⟨w.heap.size + 1, 3, none⟩ = some (.int .i64 c.o0) ∧ W.cell? ⟨w.heap.size + 1, 4, none⟩ = some (.int .i64 c.o1) ∧ W.cell? ⟨w.heap.size + 1, 5, none⟩ = some (.int .i64 c.o2) ∧ W.cell? ⟨w.heap.size + 1, 6, none⟩ = some (.bool c.has) ∧ W.cell? ⟨w.heap.size + 1, 7, none⟩ = some (.int .i64 c.n0) ∧ W.cell? ⟨w.heap.size + 1, 8, none⟩ = some (.int .i64 c.n1) ∧ W.cell? ⟨w.heap.size + 1, 9, none⟩ = some (.int .i64 c.n2)) := Lib.hid (fun W hf => ⟨(HQ.out.fr hf (by simp)).c0, (HQ.out.fr hf (by simp)).c1, (HQ.out.fr hf (by simp)).c2, (HQ.out.fr hf (by simp)).c3, (HQ.out.fr hf (by simp)).c4, (HQ.out.fr hf (by simp)).c5, (HQ.out.fr hf (by simp)).c6, (HC.out.fr hf (by simp)).cell 0, (HC.out.fr hf (by simp)).cell 1, (HC.out.fr hf (by simp)).cell 2, (HC.out.fr hf (by simp)).cell 3, (HC.out.fr hf (by simp)).cell 4, (HC.out.fr hf (by simp)).cell 5, (HC.out.fr hf (by simp)).cell 6, (HC.out.fr hf (by simp)).cell 7, (HC.out.fr hf (by simp)).cell 8, (HC.out.fr hf (by simp)).cell 9⟩)
  cases hv : Em.valid q with
  | false =>
    have HV := Lib.hid hv
    have E : Hid (Pm.touches q c = false) := Lib.hid (by simp [Pm.touches, hv])
    have HQF : Hid (∀ W, Calls Tryz.prog 27 #[q.val] W fun e w' => e = .returned (.bool false) ∧ Fr [] W w') := Lib.hid (fun W => by rw [← hv]; exact HQV.out W)
    clear hv
    have l0 : ∀ p : Later w1, p.w.cell? ⟨w.heap.size, 0, none⟩ = some (.int .i64 q.kind) := fun p => (HS.out _ p.fr).1
    have l1 : ∀ p : Later w1, p.w.cell? ⟨w.heap.size, 1, none⟩ = some (.int .i64 q.table) := fun p => (HS.out _ p.fr).2.1
    have l2 : ∀ p : Later w1, p.w.cell? ⟨w.heap.size, 2, none⟩ = some (.int .i64 q.column) := fun p => (HS.out _ p.fr).2.2.1
    have l3 : ∀ p : Later w1, p.w.cell? ⟨w.heap.size, 3, none⟩ = some (.int .i64 q.low) := fun p => (HS.out _ p.fr).2.2.2.1
    have l4 : ∀ p : Later w1, p.w.cell? ⟨w.heap.size, 4, none⟩ = some (.int .i64 q.high) := fun p => (HS.out _ p.fr).2.2.2.2.1
    have l5 : ∀ p : Later w1, p.w.cell? ⟨w.heap.size, 5, none⟩ = some (.int .i64 q.by_) := fun p => (HS.out _ p.fr).2.2.2.2.2.1
    have l6 : ∀ p : Later w1, p.w.cell? ⟨w.heap.size, 6, none⟩ = some (.int .i64 q.other) := fun p => (HS.out _ p.fr).2.2.2.2.2.2.1
    have l7 : ∀ p : Later w1, p.w.cell? ⟨w.heap.size + 1, 0, none⟩ = some (.int .i64 c.t) := fun p => (HS.out _ p.fr).2.2.2.2.2.2.2.1
    have l8 : ∀ p : Later w1, p.w.cell? ⟨w.heap.size + 1, 1, none⟩ = some (.int .i64 c.k) := fun p => (HS.out _ p.fr).2.2.2.2.2.2.2.2.1
    have l9 : ∀ p : Later w1, p.w.cell? ⟨w.heap.size + 1, 2, none⟩ = some (.bool c.had) := fun p => (HS.out _ p.fr).2.2.2.2.2.2.2.2.2.1
    have l10 : ∀ p : Later w1, p.w.cell? ⟨w.heap.size + 1, 3, none⟩ = some (.int .i64 c.o0) := fun p => (HS.out _ p.fr).2.2.2.2.2.2.2.2.2.2.1
    have l11 : ∀ p : Later w1, p.w.cell? ⟨w.heap.size + 1, 4, none⟩ = some (.int .i64 c.o1) := fun p => (HS.out _ p.fr).2.2.2.2.2.2.2.2.2.2.2.1
    have l12 : ∀ p : Later w1, p.w.cell? ⟨w.heap.size + 1, 5, none⟩ = some (.int .i64 c.o2) := fun p => (HS.out _ p.fr).2.2.2.2.2.2.2.2.2.2.2.2.1
    have l13 : ∀ p : Later w1, p.w.cell? ⟨w.heap.size + 1, 6, none⟩ = some (.bool c.has) := fun p => (HS.out _ p.fr).2.2.2.2.2.2.2.2.2.2.2.2.2.1
    have l14 : ∀ p : Later w1, p.w.cell? ⟨w.heap.size + 1, 7, none⟩ = some (.int .i64 c.n0) := fun p => (HS.out _ p.fr).2.2.2.2.2.2.2.2.2.2.2.2.2.2.1
    have l15 : ∀ p : Later w1, p.w.cell? ⟨w.heap.size + 1, 8, none⟩ = some (.int .i64 c.n1) := fun p => (HS.out _ p.fr).2.2.2.2.2.2.2.2.2.2.2.2.2.2.2.1
    have l16 : ∀ p : Later w1, p.w.cell? ⟨w.heap.size + 1, 9, none⟩ = some (.int .i64 c.n2) := fun p => (HS.out _ p.fr).2.2.2.2.2.2.2.2.2.2.2.2.2.2.2.2
    refine wp_region_later (by kernel_rfl) (by kernel_rfl) ?_
    repeat (go_big_quiet_step (with_reducible exact Later.calls (HQF.out _)))
    refine wpQuiet_nil ?_
    rintro w' ⟨⟨wq, fq⟩, rfl⟩
    go_wp2
    go_ret
    exact ⟨by rw [E.out]; rfl, HF0.out.trans fq⟩
  | true =>
    cases hcv : Rw.chg c with
    | false =>
      have E : Hid (Pm.touches q c = false) := Lib.hid (by simp [Pm.touches, hcv])
      have HQF : Hid (∀ W, Calls Tryz.prog 27 #[q.val] W fun e w' => e = .returned (.bool true) ∧ Fr [] W w') := Lib.hid (fun W => by rw [← hv]; exact HQV.out W)
      have HCF : Hid (∀ W, Calls Tryz.prog 26 #[c.val] W fun e w' => e = .returned (.bool false) ∧ Fr [] W w') := Lib.hid (fun W => by rw [← hcv]; exact HCV.out W)
      clear hv hcv
      have l0 : ∀ p : Later w1, p.w.cell? ⟨w.heap.size, 0, none⟩ = some (.int .i64 q.kind) := fun p => (HS.out _ p.fr).1
      have l1 : ∀ p : Later w1, p.w.cell? ⟨w.heap.size, 1, none⟩ = some (.int .i64 q.table) := fun p => (HS.out _ p.fr).2.1
      have l2 : ∀ p : Later w1, p.w.cell? ⟨w.heap.size, 2, none⟩ = some (.int .i64 q.column) := fun p => (HS.out _ p.fr).2.2.1
      have l3 : ∀ p : Later w1, p.w.cell? ⟨w.heap.size, 3, none⟩ = some (.int .i64 q.low) := fun p => (HS.out _ p.fr).2.2.2.1
      have l4 : ∀ p : Later w1, p.w.cell? ⟨w.heap.size, 4, none⟩ = some (.int .i64 q.high) := fun p => (HS.out _ p.fr).2.2.2.2.1
      have l5 : ∀ p : Later w1, p.w.cell? ⟨w.heap.size, 5, none⟩ = some (.int .i64 q.by_) := fun p => (HS.out _ p.fr).2.2.2.2.2.1
      have l6 : ∀ p : Later w1, p.w.cell? ⟨w.heap.size, 6, none⟩ = some (.int .i64 q.other) := fun p => (HS.out _ p.fr).2.2.2.2.2.2.1
      have l7 : ∀ p : Later w1, p.w.cell? ⟨w.heap.size + 1, 0, none⟩ = some (.int .i64 c.t) := fun p => (HS.out _ p.fr).2.2.2.2.2.2.2.1
      have l8 : ∀ p : Later w1, p.w.cell? ⟨w.heap.size + 1, 1, none⟩ = some (.int .i64 c.k) := fun p => (HS.out _ p.fr).2.2.2.2.2.2.2.2.1
      have l9 : ∀ p : Later w1, p.w.cell? ⟨w.heap.size + 1, 2, none⟩ = some (.bool c.had) := fun p => (HS.out _ p.fr).2.2.2.2.2.2.2.2.2.1
      have l10 : ∀ p : Later w1, p.w.cell? ⟨w.heap.size + 1, 3, none⟩ = some (.int .i64 c.o0) := fun p => (HS.out _ p.fr).2.2.2.2.2.2.2.2.2.2.1
      have l11 : ∀ p : Later w1, p.w.cell? ⟨w.heap.size + 1, 4, none⟩ = some (.int .i64 c.o1) := fun p => (HS.out _ p.fr).2.2.2.2.2.2.2.2.2.2.2.1
      have l12 : ∀ p : Later w1, p.w.cell? ⟨w.heap.size + 1, 5, none⟩ = some (.int .i64 c.o2) := fun p => (HS.out _ p.fr).2.2.2.2.2.2.2.2.2.2.2.2.1
      have l13 : ∀ p : Later w1, p.w.cell? ⟨w.heap.size + 1, 6, none⟩ = some (.bool c.has) := fun p => (HS.out _ p.fr).2.2.2.2.2.2.2.2.2.2.2.2.2.1
      have l14 : ∀ p : Later w1, p.w.cell? ⟨w.heap.size + 1, 7, none⟩ = some (.int .i64 c.n0) := fun p => (HS.out _ p.fr).2.2.2.2.2.2.2.2.2.2.2.2.2.2.1
      have l15 : ∀ p : Later w1, p.w.cell? ⟨w.heap.size + 1, 8, none⟩ = some (.int .i64 c.n1) := fun p => (HS.out _ p.fr).2.2.2.2.2.2.2.2.2.2.2.2.2.2.2.1
      have l16 : ∀ p : Later w1, p.w.cell? ⟨w.heap.size + 1, 9, none⟩ = some (.int .i64 c.n2) := fun p => (HS.out _ p.fr).2.2.2.2.2.2.2.2.2.2.2.2.2.2.2.2
      refine wp_region_later (by kernel_rfl) (by kernel_rfl) ?_
      repeat (go_big_quiet_step (first | (with_reducible exact Later.calls (HQF.out _)) | (with_reducible exact Later.calls (HCF.out _))))
      refine wpQuiet_nil ?_
      rintro w' ⟨⟨wq, fq⟩, rfl⟩
      go_wp2
      go_ret
      exact ⟨by rw [E.out]; rfl, HF0.out.trans fq⟩
    | true =>
      have E : Hid (Pm.touches q c = Pm.tk q c) := Lib.hid (by simp [Pm.touches, hv, hcv])
      have HQF : Hid (∀ W, Calls Tryz.prog 27 #[q.val] W fun e w' => e = .returned (.bool true) ∧ Fr [] W w') := Lib.hid (fun W => by rw [← hv]; exact HQV.out W)
      have HCF : Hid (∀ W, Calls Tryz.prog 26 #[c.val] W fun e w' => e = .returned (.bool true) ∧ Fr [] W w') := Lib.hid (fun W => by rw [← hcv]; exact HCV.out W)
      obtain ⟨n, eg, hT, hM⟩ := kindT hv
      have HT := Lib.hid hT
      have HM := Lib.hid hM
      have HOK := Lib.hid hok
      clear hT hM hv hcv hok
      obtain ⟨s0, s1, s2, s3, s4, s5, s6, s7, s8, s9, s10, s11, s12, s13, s14, s15, s16⟩ := HS.out w1 (Fr.refl _ _)
      go_region_held3 (fun W => W.cell? ⟨w.heap.size, 0, none⟩ = some (.int .i64 q.kind) ∧ W.cell? ⟨w.heap.size, 1, none⟩ = some (.int .i64 q.table) ∧ W.cell? ⟨w.heap.size, 2, none⟩ = some (.int .i64 q.column) ∧ W.cell? ⟨w.heap.size, 3, none⟩ = some (.int .i64 q.low) ∧ W.cell? ⟨w.heap.size, 4, none⟩ = some (.int .i64 q.high) ∧ W.cell? ⟨w.heap.size, 5, none⟩ = some (.int .i64 q.by_) ∧ W.cell? ⟨w.heap.size, 6, none⟩ = some (.int .i64 q.other) ∧ W.cell? ⟨w.heap.size + 1, 0, none⟩ = some (.int .i64 c.t) ∧ W.cell? ⟨w.heap.size + 1, 1, none⟩ = some (.int .i64 c.k) ∧ W.cell? ⟨w.heap.size + 1, 2, none⟩ = some (.bool c.had) ∧ W.cell? ⟨w.heap.size + 1, 3, none⟩ = some (.int .i64 c.o0) ∧ W.cell? ⟨w.heap.size + 1, 4, none⟩ = some (.int .i64 c.o1) ∧ W.cell? ⟨w.heap.size + 1, 5, none⟩ = some (.int .i64 c.o2) ∧ W.cell? ⟨w.heap.size + 1, 6, none⟩ = some (.bool c.has) ∧ W.cell? ⟨w.heap.size + 1, 7, none⟩ = some (.int .i64 c.n0) ∧ W.cell? ⟨w.heap.size + 1, 8, none⟩ = some (.int .i64 c.n1) ∧ W.cell? ⟨w.heap.size + 1, 9, none⟩ = some (.int .i64 c.n2))
        (first | exact HS.out _ (Fr.refl [] _) | exact HS.out _ (Fr.refl [] _).drew | exact HS.out _ VF.out | exact HS.out _ CF.out | exact HS.out _ KF.out | exact HS.out _ EF.out | exact HS.out _ TF.out | go_keep)
        ((first
          | (go_at_call 27; (with_reducible refine (HQF.out _).mono ?_); rintro e wv ⟨rfl, fv⟩; have VF : Hid (Fr [] w1 wv) := Lib.hid (Fr.trans (by first | exact Fr.refl _ _ | exact (Fr.refl _ _).drew) fv); clear fv)
          | (go_at_call 26; (with_reducible refine (HCF.out _).mono ?_); rintro e wc ⟨rfl, fv⟩; have CF : Hid (Fr [] w1 wc) := Lib.hid (VF.out.trans fv); clear fv)
          | (go_at_call 44; (with_reducible refine (kinds_any _).mono ?_); rintro e wk ⟨b, g5, g6, rfl, hvm, -, -, fv⟩; have KF : Hid (Fr [] w1 wk) := Lib.hid (CF.out.trans fv); have VK := Lib.hid hvm; obtain ⟨pp, hpp⟩ := HM.out g5 g6; have hlk : (Instr.lookup 99 (.map (some b)) (.int .i64 q.kind) false).run Tryz.prog wk = .ok (.agg #[fnV n, pp]) wk := (by have h9 := VK.out.look tyKind q.kind HOK.out false; rw [hpp] at h9; exact h9); have HPP := Lib.hid hpp; have hfd : ∀ W, (Instr.field 98 (.agg #[fnV n, pp]) 0).run Tryz.prog W = .ok (fnV n) W := (fun W => by kernel_rfl); clear fv hvm hpp)
          | (go_at_call 45; (with_reducible refine (HEF.out _).mono ?_); rintro e we ⟨pb, pa, rfl, hpb, hpa, fv⟩; have EF : Hid (Fr [] w1 we) := Lib.hid (KF.out.trans fv); have IB := Lib.hid hpb.isSome; have IA := Lib.hid hpa.isSome; have hlk2 : (Instr.lookup 99 (.map (some b)) (.int .i64 q.kind) false).run Tryz.prog we = .ok (.agg #[fnV n, pp]) we := (by have h9 := (VK.out.fr fv (by simp)).look tyKind q.kind HOK.out false; rw [HPP.out] at h9; exact h9); clear fv hpb hpa)
          | (go_at_fn n; (with_reducible refine (HT.out c _ _ _ _ _).mono ?_); rintro e wt ⟨rfl, fv⟩; have TF : Hid (Fr [] w1 wt) := Lib.hid (EF.out.trans fv); clear fv)))
      all_goals
        go_wp2
        go_ret
        exact ⟨by rw [E.out, ← Pm.tkE_tk q c, ← IB.out, ← IA.out]; rfl, HF0.out.trans TF.out⟩
end Go.Proofs.YtciaallekkdnhaaGreat
namespace Go.Proofs.YtciaallekkdnhaaGreat
open Go.RowKit

/-- The blocks that a slice lies in. -/
def sliceB (A : Option Addr) : List Nat := (A.map (·.block)).toList
set_option maxRecDepth 100000 in
set_option maxHeartbeats 2000000 in
theorem rowIdx_any (fn : Nat) (cb : Array Value) (p : RowV → Bool) (A : Option Addr) (n cap : Nat) (L : List RowV) (w : World) (hx : AtL RowV.cells 5 w A L) (hn : n = L.length) (hl : n ≤ 100000)
    (eg : ∀ args w, (callFunc fn args).run Tryz.prog w = .ok (.enter fn args) w)
    (hp : ∀ (W : World) (x : RowV), Fr [] w W → Calls Tryz.prog fn (#[RowV.val x] ++ cb) W fun e w' => e = .returned (.bool (p x)) ∧ Fr [] W w') :
    Calls Tryz.prog 148 #[.slice A n cap, .func (.func fn) #[] cb] w fun e w' => e = .returned (.int .i64 (idxP p L 0)) ∧ Fr [] w w' := by
  have HP := Lib.hid hp
  have HX := Lib.hid hx
  have HN := Lib.hid hn
  have F0 : Hid (Fr [] w w) := Lib.hid (Fr.refl _ _)
  clear hp hx hn
  obtain ⟨I, HI⟩ : ∃ I, Hid (idxP p L 0 = I) := ⟨_, Lib.hid rfl⟩
  rw [HI.out]
  go_enter Tryz.func148, Tryz.ntmps148
  go_wp2_with fail
  go_loopw [5, 8] (fun i5 i8 wr => ∃ k : Nat, k ≤ n ∧ i8 = .int .i64 k ∧ Hid (Fr [] w wr) ∧ Hid (∀ y ∈ L.take k, p y = false)) (fun i5 i8 _ => n - (intOf i8).toNat)
  case atStart => exact ⟨0, Nat.zero_le _, rfl, F0, Lib.hid (by simp)⟩
  case round =>
    clear F0
    obtain ⟨k, hk, rfl, FR, HA⟩ := hrel
    by_cases hlt : k < n
    · obtain ⟨b, off, rfl, hb, hc⟩ := (HX.out.fr0 FR.out) (by rw [← HN.out]; omega)
      have hkx : k < L.length := by rw [← HN.out]; exact hlt
      have c0 := hc k hkx 0 (by decide)
      have c1 := hc k hkx 1 (by decide)
      have c2 := hc k hkx 2 (by decide)
      have c3 := hc k hkx 3 (by decide)
      have c4 := hc k hkx 4 (by decide)
      have HK := Lib.hid hkx
      cases hq : p L[k] with
      | true =>
        have HIK : Hid (I = (k : Int)) := Lib.hid (by rw [← HI.out, idxP_hit 0 k hkx HA.out hq, Nat.zero_add])
        have HQ : Hid (p L[k] = true) := Lib.hid hq
        have HC := Lib.hid (HP.out wr L[k] FR.out)
        generalize L[k] = x at c0 c1 c2 c3 c4 HC HQ hq
        clear hq
        obtain ⟨r0, r1, r2, r3, r4⟩ := x
        have d0 : wr.cell? ⟨b, off + k * 5, none⟩ = some (.int .i64 r0) := c0
        have d1 : wr.cell? ⟨b, off + k * 5 + 1, none⟩ = some (.int .i64 r1) := c1
        have d2 : wr.cell? ⟨b, off + k * 5 + 2, none⟩ = some (.int .i64 r2) := c2
        have d3 : wr.cell? ⟨b, off + k * 5 + 3, none⟩ = some (.int .i64 r3) := c3
        have d4 : wr.cell? ⟨b, off + k * 5 + 4, none⟩ = some (.int .i64 r4) := c4
        clear c0 c1 c2 c3 c4 hb hc hkx
        go_wp2_with (go_at_fn fn; refine HC.out.mono ?_; rintro e w2 ⟨rfl, f2⟩; rw [HQ.out]; have F2 := Lib.hid (FR.out.trans f2); clear f2)
        go_ret
        exact ⟨by rw [HIK.out]; rfl, F2.out⟩
      | false =>
        have HA2 : Hid (∀ y ∈ L.take (k + 1), p y = false) := Lib.hid (by
          intro y hy
          rw [List.take_succ_eq_append_getElem hkx] at hy
          rcases List.mem_append.1 hy with h1 | h1
          · exact HA.out y h1
          · rw [List.mem_singleton] at h1
            rw [h1]
            exact hq)
        have HQ : Hid (p L[k] = false) := Lib.hid hq
        have HC := Lib.hid (HP.out wr L[k] FR.out)
        generalize L[k] = x at c0 c1 c2 c3 c4 HC HQ hq
        clear hq
        obtain ⟨r0, r1, r2, r3, r4⟩ := x
        have d0 : wr.cell? ⟨b, off + k * 5, none⟩ = some (.int .i64 r0) := c0
        have d1 : wr.cell? ⟨b, off + k * 5 + 1, none⟩ = some (.int .i64 r1) := c1
        have d2 : wr.cell? ⟨b, off + k * 5 + 2, none⟩ = some (.int .i64 r2) := c2
        have d3 : wr.cell? ⟨b, off + k * 5 + 3, none⟩ = some (.int .i64 r3) := c3
        have d4 : wr.cell? ⟨b, off + k * 5 + 4, none⟩ = some (.int .i64 r4) := c4
        clear c0 c1 c2 c3 c4 hb hc hkx
        go_wp2_with (go_at_fn fn; refine HC.out.mono ?_; rintro e w2 ⟨rfl, f2⟩; rw [HQ.out]; have F2 := Lib.hid (FR.out.trans f2); clear f2)
        go_roundw
        case rel => exact ⟨k + 1, by omega, by go_num, F2, HA2⟩
        case measure => simp [intOf]; omega
    · have HIK : Hid (I = -1) := Lib.hid (by rw [← HI.out]; exact idxP_miss 0 (fun y hy => HA.out y (by rw [List.take_of_length_le (by rw [← HN.out]; omega)]; exact hy)))
      go_wp2_with fail
      go_ret
      exact ⟨by rw [HIK.out]; rfl, FR.out⟩
theorem Fr.mono0 {S : List Nat} {a b : World} (h : Fr [] a b) : Fr S a b := h.mono (by simp)
theorem reads_of_at {Y : Type} {enc : Y → List Value} {size : Nat} (henc : ∀ x, (enc x).length = size) (hp : 0 < size) {w : World} {A : Option Addr} {l : List Y} (h : AtL enc size w A l) : Reads w w.heap.size size A l.length (l.flatMap enc) := by
  refine ⟨flat_len henc l, fun hl => ?_⟩
  obtain ⟨b, off, e, hb, hc⟩ := h hl
  refine ⟨_, e, hb, fun q u hu => ?_⟩
  have hq : q < l.length * size := by
    rw [← flat_len henc l]
    exact (List.getElem?_eq_some_iff.1 hu).1
  have hq1 : q / size < l.length := by rw [Nat.div_lt_iff_lt_mul hp]; exact hq
  have h1 := hc (q / size) hq1 (q % size) (Nat.mod_lt _ hp)
  have h2 := flat_get henc l (q / size) hq1 (q % size) (Nat.mod_lt _ hp)
  have hqq : q / size * size + q % size = q := by rw [Nat.mul_comm]; exact Nat.div_add_mod q size
  rw [hqq] at h2
  have hadd : (⟨b, off, none⟩ : Addr).add q = ⟨b, off + q, none⟩ := by unfold Addr.add; split <;> simp_all
  rw [Nat.add_assoc, hqq] at h1
  rw [hadd, h1, ← h2, hu]
theorem etRowP : ∃ i0, ET Tryz.prog 69 116 5 40 i0 (.agg #[.int .i64 0, .int .i64 0, .int .i64 0, .int .i64 0, .int .i64 0]) := etRow
theorem rowZeros_len (m : Nat) : (Builtin.zeroCells (Value.cells (.agg #[.int .i64 0, .int .i64 0, .int .i64 0, .int .i64 0, .int .i64 0])) m).toList.length = m * 5 := by simp [Builtin.zeroCells, Value.cells]
theorem rowZeros_one (m : Nat) : ∀ v ∈ (Builtin.zeroCells (Value.cells (.agg #[.int .i64 0, .int .i64 0, .int .i64 0, .int .i64 0, .int .i64 0])) m).toList, v.oneCell' = true := by
  intro v hv
  simp only [Builtin.zeroCells, Value.cells, Array.toList_map, List.mem_map, Array.toList_range, List.mem_range] at hv
  obtain ⟨i, hi, rfl⟩ := hv
  have h2 : i % 5 < 5 := Nat.mod_lt _ (by decide)
  have h3 : i % 5 = 0 ∨ i % 5 = 1 ∨ i % 5 = 2 ∨ i % 5 = 3 ∨ i % 5 = 4 := by omega
  rcases h3 with h | h | h | h | h <;> simp [h, Value.oneCell']
set_option maxRecDepth 100000 in
theorem rowClone_any (A : Option Addr) (n cap : Nat) (L : List RowV) (w : World) (hx : AtL RowV.cells 5 w A L) (hn : n = L.length) (hl : n ≤ 100000) :
    Calls Tryz.prog 55 #[.slice A n cap] w fun e w' => ∃ v, e = .returned v ∧ OwnL 116 5 RowV.cells w' v L ∧ Fr [] w w' ∧ ∀ g, v.ownBlock = some g → w.heap.size ≤ g := by
  obtain ⟨i0, TR⟩ := etRowP
  have hu := TR.ht
  have hnil := Lib.run_eql_slice_nil (P := Tryz.prog)
  cases A with
  | none =>
    have h0 : L = [] := by
      rcases Nat.eq_zero_or_pos L.length with h | h
      · exact List.eq_nil_of_length_eq_zero h
      · obtain ⟨b, off, e, _⟩ := hx h
        cases e
    subst h0
    go_enter Tryz.func55, Tryz.ntmps55
    go_wp2
    go_ret
    exact ⟨_, rfl, OwnL.nil, Fr.refl _ _, by simp [Value.ownBlock]⟩
  | some ad =>
    have hE : OwnL 116 5 RowV.cells (w.alloc (.cells #[] 116)) (.slice (some ⟨w.heap.size, 0, none⟩) 0 0) ([] : List RowV) := ⟨rfl, .inr ⟨w.heap.size, 0, #[], rfl, Nat.zero_le _, Blk.new w 116 #[], Nat.le_refl _, by simp [maxLen], rfl, rfl⟩⟩
    have HE := Lib.hid hE
    have hR := reads_of_at RowV.cells_len (by decide) (hx.fr ((Fr.refl [] w).alloc (.cells #[] 116)) (by simp))
    rw [← hn] at hR
    have HR := Lib.hid hR
    have HL : Hid (L.length ≤ 100000) := Lib.hid (by omega)
    have HN := Lib.hid hn
    clear hE hR hx hn
    go_enter Tryz.func55, Tryz.ntmps55
    go_wp2_with (at_builtin; refine wpList_appendL rfl _ _ rfl TR RowV.cells_len RowV.cells_one rfl HE.out _ _ _ _ L rfl HN.out HR.out (by have := HL.out; simp only [maxLen, List.length_nil]; omega) (by have := HL.out; simp only [List.length_nil]; omega) ?_; intro v5 w1 hown5 hg5 hat5; have HG5 := Lib.hid hg5; have HO5 := Lib.hid hown5; have HA5 := Lib.hid hat5; clear hg5 hown5 hat5)
    go_ret
    have hg : (w.alloc (.cells #[] 116)).grownBy w1 (some w.heap.size) := HG5.out
    have ha : v5.ownBlock = some w.heap.size ∨ v5.ownBlock = some (w.alloc (.cells #[] 116)).heap.size := HA5.out
    refine ⟨v5, rfl, by simpa using HO5.out, ((Fr.refl [] w).alloc _).grown hg (fun g h => .inr (by injection h with h; omega)), fun g h => ?_⟩
    rcases ha with e | e
    · rw [h] at e
      injection e with e
      omega
    · rw [h] at e
      injection e with e
      rw [World.size_alloc] at e
      omega
set_option maxRecDepth 100000 in
set_option maxHeartbeats 8000000 in
theorem rowDel_any (fn : Nat) (cb : Array Value) (p : RowV → Bool) (A : Option Addr) (n cap : Nat) (L : List RowV) (w : World) (ho : OwnL 116 5 RowV.cells w (.slice A n cap) L) (hl : n ≤ 100000)
    (eg : ∀ args w, (callFunc fn args).run Tryz.prog w = .ok (.enter fn args) w)
    (hp : ∀ (W : World) (x : RowV), Fr (sliceB A) w W → Calls Tryz.prog fn (#[RowV.val x] ++ cb) W fun e w' => e = .returned (.bool (p x)) ∧ Fr [] W w') :
    Calls Tryz.prog 147 #[.slice A n cap, .func (.func fn) #[] cb] w fun e w' => ∃ m, e = .returned (.slice A m cap) ∧ OwnL 116 5 RowV.cells w' (.slice A m cap) (L.filter fun x => !p x) ∧ Fr (sliceB A) w w' := by
  have hn : n = L.length := ho.blk.1
  have hat := ho.at1 RowV.cells_len
  have HIX := Lib.hid (rowIdx_any fn cb p A n cap L w hat.1 hn hl eg (fun W x hf => hp W x (hf.mono (by simp))))
  rcases first_or p L with hall | ⟨k, hk, hbefore, hit⟩
  · have HM : Hid (idxP p L 0 = -1) := Lib.hid (idxP_miss 0 hall)
    have HF : Hid (L.filter (fun x => !p x) = L) := Lib.hid (List.filter_eq_self.2 (fun x hx => by rw [hall x hx]; rfl))
    have HO := Lib.hid ho
    clear ho hall hp hat hn
    go_enter Tryz.func147, Tryz.ntmps147
    go_wp2_with (go_at_call 148; refine HIX.out.mono ?_; rintro e w1 ⟨rfl, f1⟩; rw [HM.out]; have F1 := Lib.hid f1; clear f1)
    go_ret
    exact ⟨n, rfl, by rw [HF.out]; exact HO.out.fr F1.out (by simp), F1.out.mono (by simp)⟩
  · obtain ⟨-, h0 | ⟨g, cur0, rfl, hb0, hnc, hcm, -, -⟩⟩ := ho.blk
    · rw [h0.2.1] at hk
      simp at hk
    have HM : Hid (idxP p L 0 = (k : Int)) := Lib.hid (by rw [idxP_hit 0 k hk hbefore hit, Nat.zero_add])
    have hcm63 : cap ≤ 9223372036854775807 := by unfold maxLen at hcm; omega
    have HFk : Hid ((L.take (k + 1)).filter (fun x => !p x) = L.take k) := Lib.hid (by
      rw [List.take_succ_eq_append_getElem hk, List.filter_append, List.filter_eq_self.2 (fun x hx => by rw [hbefore x hx]; rfl)]
      simp [hit])
    have HO := Lib.hid ho
    have HP := Lib.hid hp
    have HN := Lib.hid hn
    have HKN : Hid (k < L.length) := Lib.hid hk
    have HL := Lib.hid hl
    have hkn : k < n := by omega
    have hke : ((k : Int) == -1) = false := beq_eq_false_iff_ne.2 (by omega)
    clear ho hp hn hbefore hit hk hat hb0
    go_enter Tryz.func147, Tryz.ntmps147
    go_wp2_with (go_at_call 148; refine HIX.out.mono ?_; rintro e w1 ⟨rfl, f1⟩; rw [HM.out]; have F1 := Lib.hid f1; have HO1 := Lib.hid (HO.out.fr f1 (by simp)); clear f1)
    go_loopw [5, 6, 7] (fun s5 s6 s7 wr => ∃ (i j : Nat) (R : List RowV), i < j ∧ j ≤ n ∧ s5 = .int .i64 i ∧ s6 = .int .i64 j ∧ Hid (R.length = n ∧ R.take i = (L.take j).filter (fun x => !p x) ∧ R.drop j = L.drop j) ∧ Hid (OwnL 116 5 RowV.cells wr (.slice (some ⟨g, 0, none⟩) n cap) R) ∧ Hid (Fr [g] w wr)) (fun s5 s6 s7 _ => n - (intOf s6).toNat)
    case atStart => exact ⟨k, k + 1, L, by omega, by omega, rfl, by go_num, Lib.hid ⟨HN.out.symm, HFk.out.symm, rfl⟩, HO1, Lib.hid (F1.out.mono (by simp))⟩
    case round =>
      clear HO1 F1 HIX HM
      obtain ⟨i, j, R, hij, hj, rfl, rfl, HR, HO2, F2⟩ := hrel
      by_cases hlt : j < n
      · have hjR : j < R.length := by rw [HR.out.1]; exact hlt
        have hjL : j < L.length := by rw [← HN.out]; exact hlt
        have hRL : R[j] = L[j] := by
          have h1 := congrArg (fun l => l[0]?) HR.out.2.2
          simp only [List.getElem?_drop, Nat.add_zero] at h1
          rw [List.getElem?_eq_getElem hjR, List.getElem?_eq_getElem hjL] at h1
          injection h1
        have hDR : R.drop (j + 1) = L.drop (j + 1) := by rw [← List.drop_drop, ← List.drop_drop, HR.out.2.2]
        obtain ⟨g', cap', hv, -, -, hgl, hc, -⟩ := HO2.out.form RowV.cells_len (by omega)
        injection hv with hv1 hv2 hv3
        injection hv1 with hv1
        injection hv1 with hv1
        subst hv1
        clear hv2 hv3
        have c0 := hc j hjR 0 (by decide)
        have c1 := hc j hjR 1 (by decide)
        have c2 := hc j hjR 2 (by decide)
        have c3 := hc j hjR 3 (by decide)
        have c4 := hc j hjR 4 (by decide)
        have HC := Lib.hid (HP.out)
        have HTK : Hid (L.take (j + 1) = L.take j ++ [R[j]]) := Lib.hid (by rw [hRL, List.take_succ_eq_append_getElem hjL])
        have HDR := Lib.hid hDR
        have HIJ := Lib.hid hij
        have HGL := Lib.hid hgl
        clear hRL hDR hc hgl
        generalize R[j] = x at c0 c1 c2 c3 c4 HTK
        obtain ⟨pv, hpv⟩ : ∃ b, p x = b := ⟨_, rfl⟩
        have HQ := Lib.hid hpv
        clear hpv
        obtain ⟨r0, r1, r2, r3, r4⟩ := x
        have d0 : wr.cell? ⟨g, j * 5, none⟩ = some (.int .i64 r0) := c0
        have d1 : wr.cell? ⟨g, j * 5 + 1, none⟩ = some (.int .i64 r1) := c1
        have d2 : wr.cell? ⟨g, j * 5 + 2, none⟩ = some (.int .i64 r2) := c2
        have d3 : wr.cell? ⟨g, j * 5 + 3, none⟩ = some (.int .i64 r3) := c3
        have d4 : wr.cell? ⟨g, j * 5 + 4, none⟩ = some (.int .i64 r4) := c4
        clear c0 c1 c2 c3 c4 hjR hjL
        have HB : Hid (OwnL 116 5 RowV.cells (wr.alloc (.cells #[.int .i64 r0, .int .i64 r1, .int .i64 r2, .int .i64 r3, .int .i64 r4] 116)) (.slice (some ⟨g, 0, none⟩) n cap) R) := Lib.hid (HO2.out.fr ((Fr.refl [] _).alloc _) (by simp))
        have FB : Hid (Fr [g] w (wr.alloc (.cells #[.int .i64 r0, .int .i64 r1, .int .i64 r2, .int .i64 r3, .int .i64 r4] 116))) := Lib.hid (F2.out.alloc _)
        have hbn := Blk.new wr 116 #[.int .i64 r0, .int .i64 r1, .int .i64 r2, .int .i64 r3, .int .i64 r4]
        have HBN := Lib.hid hbn
        have hil : (i : Int) < (n : Int) := by omega
        have hin : i < n := by omega
        have h0i : (0 : Int) ≤ (i : Int) := by omega
        cases pv with
        | true =>
          go_wp2_with (go_at_fn fn; refine (HC.out _ (⟨r0, r1, r2, r3, r4⟩ : RowV) (FB.out.mono (by simp [sliceB]))).mono ?_; rintro e w2 ⟨rfl, f2⟩; rw [HQ.out]; have FB2 := Lib.hid (FB.out.trans f2.mono0); have HB2 := Lib.hid (HB.out.fr f2 (by simp)); clear f2)
          go_roundw
          case rel => exact ⟨i, j + 1, R, by omega, by omega, rfl, by go_num, Lib.hid ⟨HR.out.1, by rw [HTK.out, List.filter_append, HR.out.2.1]; simp [HQ.out], HDR.out⟩, HB2, FB2⟩
          case measure => simp [intOf]; omega
        | false =>
          go_wp2_with (first
            | (go_at_fn fn; refine (HC.out _ (⟨r0, r1, r2, r3, r4⟩ : RowV) (FB.out.mono (by simp [sliceB]))).mono ?_; rintro e w2 ⟨rfl, f2⟩; rw [HQ.out]; have FB2 := Lib.hid (FB.out.trans f2.mono0); have HB2 := Lib.hid (HB.out.fr f2 (by simp)); have hbn2 := HBN.out.fr f2 (by simp); have HBN2 := Lib.hid hbn2; have e0 : w2.cell? ⟨wr.heap.size, 0, none⟩ = some (.int .i64 r0) := hbn2.cell 0; have e1 : w2.cell? ⟨wr.heap.size, 1, none⟩ = some (.int .i64 r1) := hbn2.cell 1; have e2 : w2.cell? ⟨wr.heap.size, 2, none⟩ = some (.int .i64 r2) := hbn2.cell 2; have e3 : w2.cell? ⟨wr.heap.size, 3, none⟩ = some (.int .i64 r3) := hbn2.cell 3; have e4 : w2.cell? ⟨wr.heap.size, 4, none⟩ = some (.int .i64 r4) := hbn2.cell 4; clear f2 hbn2)
            | (refine wpList_store_own rfl _ _ _ rfl g (i * 5) #[.int .i64 r0, .int .i64 r1, .int .i64 r2, .int .i64 r3, .int .i64 r4] rfl rfl i n cap (⟨r0, r1, r2, r3, r4⟩ : RowV) HB2.out RowV.cells_len RowV.cells_one hin rfl rfl (by kernel_rfl) ?_
               intro w3 hb3 hf3
               have HB3 := Lib.hid hb3
               have FB3 := Lib.hid (FB2.out.trans hf3)
               clear hb3 hf3))
          go_roundw
          case rel =>
            refine ⟨i + 1, j + 1, R.set i (⟨r0, r1, r2, r3, r4⟩ : RowV), by omega, by omega, by go_num, by go_num, Lib.hid ⟨by rw [List.length_set]; exact HR.out.1, ?_, ?_⟩, HB3, FB3⟩
            · rw [HTK.out, List.filter_append, ← HR.out.2.1, List.take_succ_eq_append_getElem (by rw [List.length_set, HR.out.1]; omega)]
              rw [List.take_set, List.set_eq_of_length_le (by rw [List.length_take]; exact Nat.min_le_left _ _)]
              simp [HQ.out]
            · rw [List.drop_set_of_lt (by omega)]
              exact HDR.out
          case measure => simp [intOf]; omega
      · have hjn : j = n := by omega
        subst hjn
        have HFF : Hid (R.take i = L.filter (fun x => !p x)) := Lib.hid (by rw [HR.out.2.1, List.take_of_length_le (by rw [← HN.out]; exact Nat.le_refl _)])
        have hci : ¬ cap = i := by omega
        have hin : (i : Int) ≤ (j : Int) := by omega
        obtain ⟨-, h9 | ⟨g9, cur9, h91, hb9, hnc9, hcm9, hs9, ht9⟩⟩ := HO2.out.blk
        · cases h9.1
        · injection h91 with h91
          injection h91 with h91
          subst h91
          have hz := rowZeros_len (j - i)
          have hcl : ∀ ty, (Builtin.clear_ #[69] ty #[.slice (some ⟨g, i * 5, none⟩) (j - i) (cap - i)]).run Tryz.prog wr = .ok (.tuple #[]) (wr.setCells g (i * 5) (Builtin.zeroCells (Value.cells (.agg #[.int .i64 0, .int .i64 0, .int .i64 0, .int .i64 0, .int .i64 0])) (j - i)).toList) := fun ty =>
            run_clear_put wr 69 116 ty (.agg #[.int .i64 0, .int .i64 0, .int .i64 0, .int .i64 0, .int .i64 0]) Tryz.underlying69 (fun w => by kernel_rfl) g (i * 5) (j - i) (cap - i) 116 cur9 (by omega) hb9 5 hz (rowZeros_one _) (by rw [hs9]; omega)
          have HT3 : Hid (OwnL 116 5 RowV.cells (wr.setCells g (i * 5) (Builtin.zeroCells (Value.cells (.agg #[.int .i64 0, .int .i64 0, .int .i64 0, .int .i64 0, .int .i64 0])) (j - i)).toList) (.slice (some ⟨g, 0, none⟩) i cap) (R.take i)) := Lib.hid (HO2.out.tail RowV.cells_len (by omega) _ (Nat.le_refl _) (by rw [hz]; omega))
          have F3 : Hid (Fr [g] w (wr.setCells g (i * 5) (Builtin.zeroCells (Value.cells (.agg #[.int .i64 0, .int .i64 0, .int .i64 0, .int .i64 0, .int .i64 0])) (j - i)).toList)) := Lib.hid (Fr.puts _ _ F2.out (.inl (by simp)))
          generalize wr.setCells g (i * 5) (Builtin.zeroCells (Value.cells (.agg #[.int .i64 0, .int .i64 0, .int .i64 0, .int .i64 0, .int .i64 0])) (j - i)).toList = w3 at *
          clear hb9 hs9 ht9 hz
          go_wp2_with fail
          go_ret
          exact ⟨i, rfl, by rw [← HFF.out]; exact HT3.out, F3.out.mono (by simp [sliceB])⟩
end Go.Proofs.YtciaallekkdnhaaGreat
