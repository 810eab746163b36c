/-
  'Receive'.
-/
import Derived.Test.YtfbhdmppddledaaGapC
import Derived.Deep.RegionLaw
namespace Go.Proofs.Ytfbhdmppddledaa
open Go.RowKit

set_option maxRecDepth 100000 in
theorem receive_nil (r : Rec) (A : Option Addr) (cap : Nat) (w : World) :
    Calls Try.prog 8 #[.pointer none, .agg #[.int .i64 r.p, .slice A r.cs.length cap]] w fun e w' => e = .returned (.bool false) ∧ Fr [] w w' := by
  go_enter Try.func8, Try.ntmps8
  go_wp2_with fail
  go_quiet (fail)
  go_wp2_with fail
  go_ret
  exact ⟨rfl, (((Fr.refl _ _).alloc _).alloc _).drewN _⟩

set_option maxRecDepth 100000 in
set_option maxHeartbeats 2000000 in
theorem receive_any (b m cap : Nat) (c : Gm.Rcv) (r : Rec) (A : Option Addr) (w : World) (h : RcvAt w b m c) (hc : HoldsC w A r.cs) (hlen : r.cs.length ≤ maxLen) :
    Calls Try.prog 8 #[.pointer (some ⟨b, 0, none⟩), .agg #[.int .i64 r.p, .slice A r.cs.length cap]] w fun e w' =>
      e = .returned (.bool (Gm.took c r)) ∧ RcvAt w' b m (Gm.receive c r) ∧ Fr [b, m] w w' := by
  have HT : Hid (Gm.took c r = (Rw.valid r && decide (c.pos < r.p) && Gm.keeps c r)) := Lib.hid rfl
  have b0 : w.cell? ⟨b, 0, none⟩ = some (.int .i64 c.pos) := h.blk.cell 0
  obtain ⟨hlb, hlm⟩ := h.lt
  go_enter Try.func8, Try.ntmps8
  go_wp2_with fail
  have F0 : Fr [] w ((w.alloc (.cells #[.pointer (some ⟨b, 0, none⟩)] 27)).alloc (.cells #[.int .i64 r.p, .slice A r.cs.length cap] 34)) := ((Fr.refl _ _).alloc _).alloc _
  have hx0 := (Blk.new w 27 #[.pointer (some ⟨b, 0, none⟩)]).alloc (.cells #[.int .i64 r.p, .slice A r.cs.length cap] 34)
  have hr0 := Blk.new (w.alloc (.cells #[.pointer (some ⟨b, 0, none⟩)] 27)) 34 #[.int .i64 r.p, .slice A r.cs.length cap]
  rw [World.size_alloc] at hr0
  generalize ((w.alloc (.cells #[.pointer (some ⟨b, 0, none⟩)] 27)).alloc (.cells #[.int .i64 r.p, .slice A r.cs.length cap] 34)) = W0 at *
  have h0 := h.fr0 F0
  have hc0 := hc.fr F0 NoC.nil
  have hcd : HoldsC W0.drew A r.cs := hc0.fr (Fr.refl [] _).drew NoC.nil
  have b0 : W0.cell? ⟨b, 0, none⟩ = some (.int .i64 c.pos) := h0.blk.cell 0
  have x0 := hx0.cell 0
  have r0 := hr0.cell 0
  have r1 := hr0.cell 1
  obtain ⟨hlb0, hlm0⟩ := h0.lt
  have hl1 := hx0.lt
  have hl2 := hr0.lt
  cases hv : Rw.valid r
  · have HV := Lib.hid hv
    clear hv
    first
      | (go_region_with (first
            | (go_at_call 28; refine (validRecord_any r A cap _ hcd.1 hlen).mono ?_; rintro e w1 ⟨he, f1⟩; rw [HV.out] at he; subst he; obtain ⟨hcc, hff⟩ := f1.rules)))
      | fail "with"
    all_goals
      go_wp2_with fail
      go_ret
      have HN : Hid (Gm.receive c r = c) := Lib.hid (by unfold Gm.receive Gm.sees; rw [HV.out]; rfl)
      rw [HN.out, HT.out, HV.out]
      have F1 : Fr [] w w1 := (F0.drew).trans f1
      exact ⟨rfl, h.fr0 F1, F1.mono (by simp)⟩
  have HV := Lib.hid hv
  by_cases hp : r.p ≤ c.pos
  · have HS : Hid (Gm.sees c r = false) := Lib.hid (by unfold Gm.sees; rw [HV.out]; simp; omega)
    clear hv
    go_region_held3 (fun w' => w'.cell? ⟨w.heap.size, 0, none⟩ = some (.pointer (some ⟨b, 0, none⟩)) ∧ w'.cell? ⟨w.heap.size + 1, 0, none⟩ = some (.int .i64 r.p) ∧ w'.cell? ⟨w.heap.size + 1, 1, none⟩ = some (.slice A r.cs.length cap) ∧ w'.cell? ⟨b, 0, none⟩ = some (.int .i64 c.pos))
      (first | go_keep | exact ⟨(hcc _ _ hl1).trans x0, (hcc _ _ hl2).trans r0, (hcc _ _ hl2).trans r1, (hcc _ _ hlb0).trans b0⟩)
      (first
        | (go_at_call 28; refine (validRecord_any r A cap _ hcd.1 hlen).mono ?_; rintro e w1 ⟨he, f1⟩; rw [HV.out] at he; subst he; obtain ⟨hcc, hff⟩ := f1.rules))
    go_wp2_with fail
    go_ret
    have HN : Hid (Gm.receive c r = c) := Lib.hid (by unfold Gm.receive; rw [HS.out]; rfl)
    have HT2 : Hid (Gm.took c r = false) := Lib.hid (by unfold Gm.took; rw [HS.out]; rfl)
    rw [HN.out, HT2.out]
    have F1 : Fr [] w w1 := (F0.drew).trans f1
    exact ⟨rfl, h.fr0 F1, F1.mono (by simp)⟩
  have HS : Hid (Gm.sees c r = true) := Lib.hid (by unfold Gm.sees; rw [HV.out]; simp; omega)
  have hvf := Rw.valid_facts hv
  clear hv
  go_region_held3 (fun w' => w'.cell? ⟨w.heap.size, 0, none⟩ = some (.pointer (some ⟨b, 0, none⟩)) ∧ w'.cell? ⟨w.heap.size + 1, 0, none⟩ = some (.int .i64 r.p) ∧ w'.cell? ⟨w.heap.size + 1, 1, none⟩ = some (.slice A r.cs.length cap) ∧ w'.cell? ⟨b, 0, none⟩ = some (.int .i64 c.pos))
    (first | go_keep | exact ⟨(hcc _ _ hl1).trans x0, (hcc _ _ hl2).trans r0, (hcc _ _ hl2).trans r1, (hcc _ _ hlb0).trans b0⟩)
    (first
      | (go_at_call 28; refine (validRecord_any r A cap _ hcd.1 hlen).mono ?_; rintro e w1 ⟨he, f1⟩; rw [HV.out] at he; subst he; obtain ⟨hcc, hff⟩ := f1.rules))
  have f01 : Fr [] W0 w1 := ((Fr.refl [] _).drew).trans f1
  have F1 : Fr [] w w1 := F0.trans f01
  have h1 := h0.fr0 f01
  have hc1 := hc0.fr f01 NoC.nil
  have hx1 := hx0.fr f01 (by simp)
  have hr1 := hr0.fr f01 (by simp)
  clear f1 f01 hcc hff x0 r0 r1 b0 hcd h0 hc0 hx0 hr0 F0
  obtain ⟨H, hHif⟩ : ∃ H, (if c.high < r.p then r.p else c.high) = H := ⟨_, rfl⟩
  have HH : Hid (Gm.mx c.high r.p = H) := hHif
  have x0 : w1.cell? ⟨w.heap.size, 0, none⟩ = some (.pointer (some ⟨b, 0, none⟩)) := hx1.cell 0
  have r0 : w1.cell? ⟨w.heap.size + 1, 0, none⟩ = some (.int .i64 r.p) := hr1.cell 0
  have b1 : w1.cell? ⟨b, 1, none⟩ = some (.int .i64 c.high) := h1.blk.cell 1
  have z1 := h1.blk.frozen 1
  go_wp2_with fail
  go_still_tail 10, (by kernel_rfl)
  clear hHif
  have F2 : Fr [b, m] w w1.drew := (F1.drew).mono (by simp)
  have h2 := h1.fr0 (Fr.refl [] _).drew
  have hc2 := hc1.fr (Fr.refl [] _).drew NoC.nil
  have hx2 := hx1.drew
  have hr2 := hr1.drew
  have hk1 : H ≤ 10000 := by have := HH.out; rw [← this]; exact Gm.mx_le h.ok.hi (by omega)
  have hk2 : c.high ≤ H := by have := HH.out; rw [← this]; exact Gm.le_mx _ _
  have hk3 : r.p ≤ H := by have := HH.out; rw [← this]; exact Gm.le_mx2 _ _
  have hok : Gm.Ok { c with high := H } := ⟨h.ok.p0, Int.le_trans h.ok.ph hk2, hk1, fun e he => ⟨(h.ok.key e he).1, (h.ok.key e he).2.1, Int.le_trans (h.ok.key e he).2.2.1 hk2, (h.ok.key e he).2.2.2⟩, h.ok.nd⟩
  have h3 := rcv_setHigh h2 H hok
  have f3 : Fr [b] w1.drew (w1.drew.setCell ⟨b, 1, none⟩ (.int .i64 H)) := (Fr.refl _ _).setCell (.inl (by simp)) _
  have n3 : NoC w1.drew [b] := NoC.cons (noC_blk h2.blk (by decide)) NoC.nil
  have hc3 := hc2.fr f3 n3
  have hx3 := hx2.fr f3 (by simp; omega)
  have hr3 := hr2.fr f3 (by simp; omega)
  have F3 : Fr [b, m] w (w1.drew.setCell ⟨b, 1, none⟩ (.int .i64 H)) := F2.trans (f3.mono (by simp))
  change wpList _ _ _ _ _ w1.drew
  have b1' : w1.drew.cell? ⟨b, 1, none⟩ = some (.int .i64 c.high) := b1
  have z1' : w1.drew.frozen? ⟨b, 1, none⟩ = false := z1
  clear f3 n3 h2 hc2 hx2 hr2 F2 h1 hc1 hx1 hr1 F1 x0 r0 b1 z1
  generalize w1.drew = W2 at *
  go_wp2_with fail
  refine (keep_any b m w.heap.size (w.heap.size + 1) cap { c with high := H } r A _ h3 (hx3.cell 0) hr3 hc3.1 (by omega) HV.out hp hk3).mono ?_
  rintro e w5 ⟨rfl, h5, f5⟩
  have HN : Hid (Gm.receive c r = Gm.kept { c with high := H } r) := Lib.hid (by unfold Gm.receive; rw [HS.out, HH.out]; rfl)
  have HT2 : Hid (Gm.took c r = Gm.keeps { c with high := H } r) := Lib.hid (by unfold Gm.took; rw [HS.out]; rfl)
  have F5 : Fr [b, m] w w5 := F3.trans' f5 (by simp)
  go_wp2_with fail
  go_ret
  rw [HN.out, HT2.out]
  exact ⟨rfl, h5, F5⟩
end Go.Proofs.Ytfbhdmppddledaa
