/-
  A state in memory; New, Position, Len, fits.
-/
import Derived.Test.YthiaaminkfkjpaaEam
import Derived.Deep.RegionLaw
namespace Go.Proofs.Ythiaaminkfkjpaa
open Go.RowKit

/-- At block b lies the state s, whose map lies at block m. -/
structure StaAt (w : World) (b m : Nat) (s : Sm.Sta) : Prop where
  blk : Blk w b 69 #[.map (some m), .int .i64 s.pos]
  map : VMap Try.prog 71 klId RowV.val w m s.M
  ok : Sm.Ok s
theorem StaAt.ne {w : World} {b m : Nat} {s : Sm.Sta} (h : StaAt w b m s) : m ≠ b := h.map.ne h.blk
theorem StaAt.lt {w : World} {b m : Nat} {s : Sm.Sta} (h : StaAt w b m s) : b < w.heap.size ∧ m < w.heap.size := ⟨h.blk.lt, h.map.lt⟩
theorem StaAt.fr {w w' : World} {b m : Nat} {s : Sm.Sta} {S : List Nat} (h : StaAt w b m s) (hf : Fr S w w') (hb : b ∉ S) (hm : m ∉ S) : StaAt w' b m s := ⟨h.blk.fr hf hb, h.map.fr hf hm, h.ok⟩
theorem StaAt.fr0 {w w' : World} {b m : Nat} {s : Sm.Sta} (h : StaAt w b m s) (hf : Fr [] w w') : StaAt w' b m s := h.fr hf (by simp) (by simp)

theorem Sm.ok_new : Sm.Ok Sm.new := ⟨by decide, by decide, nd_nil, by simp [Sm.new], by simp [Sm.new]⟩
theorem snew_any (w : World) : Calls Try.prog 18 #[] w fun e w' => e = .returned (.pointer (some ⟨w.heap.size + 1, 0, none⟩)) ∧ StaAt w' (w.heap.size + 1) w.heap.size Sm.new ∧ Fr [] w w' := by
  have hmm := @run_makeMap Try.prog
  go_enter Try.func18, Try.ntmps18
  go_wp2
  go_ret
  refine ⟨by simp, ⟨?_, (VMap.made _ _ w).alloc _, Sm.ok_new⟩, ((Fr.refl _ _).alloc _).alloc _⟩
  have := Blk.new (w.alloc (.map #[] 0)) 69 #[.map (some w.heap.size), .int .i64 0]
  simpa [Sm.new] using this
/-- At the head of each round of 'fits'. -/
def FitsRel (w : World) (_b _m : Nat) (s : Sm.Sta) (cs : List Chg) (k : Nat) (n : Int) (wr : World) : Prop := k ≤ cs.length ∧ Sm.fitsGo s.M s.M.length cs = Sm.fitsGo s.M n (cs.drop k) ∧ Fr [] w wr ∧ (-(k : Int) ≤ n ∧ n ≤ 2000 + k)

set_option maxRecDepth 100000 in
set_option maxHeartbeats 2000000 in
theorem fits_skip (b m : Nat) (s : Sm.Sta) (r : Rec) (A : Option Addr) (cap : Nat) (w : World) (_h : StaAt w b m s) (hc : ChgsAt w A r.cs) (hlen : r.cs.length ≤ maxLen) (hv : Rw.valid r = false) :
    Calls Try.prog 28 #[.pointer (some ⟨b, 0, none⟩), .agg #[.int .i64 r.p, .slice A r.cs.length cap]] w fun e w' => e = .returned (.bool false) ∧ Fr [] w w' := by
  have HV := Lib.hid hv
  clear hv
  have f0 : Fr [] w ((w.alloc (.cells #[.int .i64 r.p, .slice A r.cs.length cap] 38)).drew) := ((Fr.refl _ _).alloc _).drew
  have hcd := hc.fr f0 (by simp)
  go_enter Try.func28, Try.ntmps28
  go_wp2_with fail
  first
    | (go_region_with (first
          | (go_at_call 46; refine (validRecord_any r A cap _ hcd hlen).mono ?_; rintro e w1 ⟨he, f1⟩; rw [HV.out] at he; subst he)))
    | fail "with"
  all_goals
    go_wp2_with fail
    go_ret
    exact ⟨rfl, f0.trans f1⟩
end Go.Proofs.Ythiaaminkfkjpaa
