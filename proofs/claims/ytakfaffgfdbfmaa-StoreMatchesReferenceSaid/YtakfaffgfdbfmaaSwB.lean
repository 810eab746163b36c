/-
  The nil state; law 4's sane.
-/
import Derived.Test.YtakfaffgfdbfmaaSwA
import Derived.Test.YtakfaffgfdbfmaaStK
import Derived.Deep.DeepCutAuto
namespace Go.Proofs.Ytakfaffgfdbfmaa
open Go.RowKit

set_option maxRecDepth 100000 in
theorem sapply_nil (p : Int) (v : Value) (w : World) : Calls Try.prog 15 #[.pointer none, .agg #[.int .i64 p, v]] w fun e w' => e = .returned (.int .i64 1) ∧ Fr [] w w' := by
  go_enter Try.func15, Try.ntmps15
  go_wp2_with fail
  go_ret
  refine ⟨rfl, ?_⟩
  first
    | exact Fr.refl _ _
    | exact (Fr.refl _ _).alloc _
    | exact ((Fr.refl _ _).alloc _).alloc _
theorem slen_nil (w : World) : Calls Try.prog 29 #[.pointer none] w fun e w' => e = .returned (.int .i64 0) ∧ w = w' := by
  go_enter Try.func29, Try.ntmps29
  go_wp2
  go_ret
  exact ⟨rfl, rfl⟩
theorem chosen_nil (c : Int) (f : Value) (w : World) : Calls Try.prog 39 #[.pointer none, .int .i64 c, f] w fun e w' => e = .returned (.slice none 0 0) ∧ Fr [] w w' := by
  go_enter Try.func39, Try.ntmps39
  go_wp2_with fail
  go_ret
  refine ⟨rfl, ?_⟩
  first
    | exact Fr.refl _ _
    | exact (Fr.refl _ _).alloc _
    | exact ((Fr.refl _ _).alloc _).alloc _
theorem srows_nil (t : Int) (w : World) : Calls Try.prog 30 #[.pointer none, .int .i64 t] w fun e w' => e = .returned (.slice none 0 0) ∧ Fr [] w w' := by
  have HC := Lib.hid (fun W => chosen_nil 0 (.func (.func 43) #[] #[.pointer (some ⟨w.heap.size, 0, none⟩)]) W)
  have F0 : Fr [] w (w.alloc (.cells #[.int .i64 t] 3)) := (Fr.refl _ _).alloc _
  go_enter Try.func30, Try.ntmps30
  go_wp2_with (go_at_call 39; refine (HC.out _).mono ?_; rintro e w1 ⟨rfl, f1⟩)
  go_ret
  exact ⟨rfl, F0.trans f1⟩
theorem RecsAt.fr0 {w w' : World} {A : Option Addr} {l : List Rec} (h : RecsAt w A l) (hf : Fr [] w w') : RecsAt w' A l := by
  obtain ⟨us, h1, h2, h3⟩ := h
  exact ⟨us, h1.fr0 hf, h2, fun u hu => ⟨(h3 u hu).1.fr hf NoC.nil, (h3 u hu).2⟩⟩
theorem holds_blk {w : World} {g : Nat} {arr : Array Value} {cs : List Chg} {A : Option Addr} (hA : A = some ⟨g, 0, none⟩) (hB : Blk w g 57 arr) (h : cs.flatMap Chg.cells = arr.toList) : HoldsC w A cs := by
  subst hA
  refine ⟨fun hl => ⟨g, 0, rfl, hB.lt, fun i hi j hj => ?_⟩, fun hl ad e => ?_⟩
  · have e1 := flat_get Chg.len cs i hi j hj
    rw [← e1, h, Nat.zero_add, hB.cell]
    simp
  · cases e
    exact ⟨_, _, hB⟩
namespace Sane4
def cA : Chg := ⟨0, 5, false, 0, 0, 0, true, 10, 20, 30⟩
def cB : Chg := ⟨0, 3, false, 0, 0, 0, true, 10, 0, 0⟩
def cC : Chg := ⟨0, 5, true, 10, 20, 30, true, 10, 21, 30⟩
def rA : Rec := ⟨1, [cA]⟩
def rB : Rec := ⟨2, [cB, cC]⟩
def l : List Rec := [rA, rB]
def rowB : RowV := ⟨0, 3, 10, 0, 0⟩
def rowC : RowV := ⟨0, 5, 10, 21, 30⟩
theorem fits : ∀ i (h : i < l.length), i < 2 → Sm.fits (Lg.run (l.take i)) l[i] = true
  | 0, _, _ => by kernel_rfl
  | 1, _, _ => by kernel_rfl
  | _ + 2, _, h => absurd h (by omega)
theorem rows : ((Lg.run l).M.map (·.2)) = [rowC, rowB] := by kernel_rfl
theorem pos : (Lg.run l).pos = 2 := by kernel_rfl
theorem len : (Lg.run l).M.length = 2 := by kernel_rfl
theorem got : mget (Lg.run [rA]).M (idOf 0 5) = some ⟨0, 5, 10, 20, 30⟩ := by kernel_rfl
theorem again : Sm.fits (Lg.run l) rA = false := by kernel_rfl
theorem p0 : Picked (Lg.run l) 0 (inTab 0) [rowB, rowC] := ⟨by rw [rows]; exact List.Perm.swap _ _ _, by simp [ahead2, rowB, rowC, RowV.value]⟩
theorem p1 : Picked (Lg.run l) 1 (inRng 0 1 10 10) [rowB, rowC] := ⟨by rw [rows]; exact List.Perm.swap _ _ _, by simp [ahead2, rowB, rowC, RowV.value]⟩
theorem p2 : Picked (Lg.run l) 2 (inRng 0 2 1 100) [rowC] := ⟨by rw [rows]; exact List.Perm.refl _, by simp⟩
end Sane4
open Sane4 in
theorem Sane4.recs (w : World) : RecsAt (((w.alloc (.cells cA.cells.toArray 57)).alloc (.cells (cB.cells ++ cC.cells).toArray 57)).alloc (.cells #[.int .i64 1, .slice (some ⟨w.heap.size, 0, none⟩) 1 1, .int .i64 2, .slice (some ⟨w.heap.size + 1, 0, none⟩) 2 2] 32)) (some ⟨w.heap.size + 1 + 1, 0, none⟩) l := by
  have h1 := ((Blk.new w 57 cA.cells.toArray).alloc (.cells (cB.cells ++ cC.cells).toArray 57)).alloc (.cells #[.int .i64 1, .slice (some ⟨w.heap.size, 0, none⟩) 1 1, .int .i64 2, .slice (some ⟨w.heap.size + 1, 0, none⟩) 2 2] 32)
  have h2 := (Blk.new (w.alloc (.cells cA.cells.toArray 57)) 57 (cB.cells ++ cC.cells).toArray).alloc (.cells #[.int .i64 1, .slice (some ⟨w.heap.size, 0, none⟩) 1 1, .int .i64 2, .slice (some ⟨w.heap.size + 1, 0, none⟩) 2 2] 32)
  have h3 := Blk.new ((w.alloc (.cells cA.cells.toArray 57)).alloc (.cells (cB.cells ++ cC.cells).toArray 57)) 32 #[.int .i64 1, .slice (some ⟨w.heap.size, 0, none⟩) 1 1, .int .i64 2, .slice (some ⟨w.heap.size + 1, 0, none⟩) 2 2]
  rw [World.size_alloc] at h2
  rw [World.size_alloc, World.size_alloc] at h3
  generalize ((w.alloc (.cells cA.cells.toArray 57)).alloc (.cells (cB.cells ++ cC.cells).toArray 57)).alloc (.cells #[.int .i64 1, .slice (some ⟨w.heap.size, 0, none⟩) 1 1, .int .i64 2, .slice (some ⟨w.heap.size + 1, 0, none⟩) 2 2] 32) = W at *
  refine ⟨[⟨rA, some ⟨w.heap.size, 0, none⟩, 1⟩, ⟨rB, some ⟨w.heap.size + 1, 0, none⟩, 2⟩], AtL.of_blk WRec.len h3 rfl, rfl, ?_⟩
  intro u hu
  simp only [List.mem_cons, List.not_mem_nil, or_false] at hu
  rcases hu with rfl | rfl
  · exact ⟨holds_blk rfl h1 rfl, show 1 ≤ 8 by decide⟩
  · exact ⟨holds_blk rfl h2 rfl, show 2 ≤ 8 by decide⟩
open Sane4 in
set_option maxRecDepth 100000 in
set_option maxHeartbeats 4000000 in
theorem sane_any (w : World) : Calls Try.prog 11 #[] w fun e w' => e = .returned (.bool true) ∧ Fr [] w w' := by
  have HR0 := Sane4.recs w
  have F0 : Fr [] w (((w.alloc (.cells cA.cells.toArray 57)).alloc (.cells (cB.cells ++ cC.cells).toArray 57)).alloc (.cells #[.int .i64 1, .slice (some ⟨w.heap.size, 0, none⟩) 1 1, .int .i64 2, .slice (some ⟨w.heap.size + 1, 0, none⟩) 2 2] 32)) := (((Fr.refl _ _).alloc _).alloc _).alloc _
  have c00 : ((((w.alloc (.cells cA.cells.toArray 57)).alloc (.cells (cB.cells ++ cC.cells).toArray 57)).alloc (.cells #[.int .i64 1, .slice (some ⟨w.heap.size, 0, none⟩) 1 1, .int .i64 2, .slice (some ⟨w.heap.size + 1, 0, none⟩) 2 2] 32))).cell? ⟨w.heap.size + 1 + 1, 0, none⟩ = some (.int .i64 1) := by
    have h3 := Blk.new ((w.alloc (.cells cA.cells.toArray 57)).alloc (.cells (cB.cells ++ cC.cells).toArray 57)) 32 #[.int .i64 1, .slice (some ⟨w.heap.size, 0, none⟩) 1 1, .int .i64 2, .slice (some ⟨w.heap.size + 1, 0, none⟩) 2 2]
    rw [World.size_alloc, World.size_alloc] at h3
    exact h3.cell 0
  have c01 : ((((w.alloc (.cells cA.cells.toArray 57)).alloc (.cells (cB.cells ++ cC.cells).toArray 57)).alloc (.cells #[.int .i64 1, .slice (some ⟨w.heap.size, 0, none⟩) 1 1, .int .i64 2, .slice (some ⟨w.heap.size + 1, 0, none⟩) 2 2] 32))).cell? ⟨w.heap.size + 1 + 1, 1, none⟩ = some (.slice (some ⟨w.heap.size, 0, none⟩) 1 1) := by
    have h3 := Blk.new ((w.alloc (.cells cA.cells.toArray 57)).alloc (.cells (cB.cells ++ cC.cells).toArray 57)) 32 #[.int .i64 1, .slice (some ⟨w.heap.size, 0, none⟩) 1 1, .int .i64 2, .slice (some ⟨w.heap.size + 1, 0, none⟩) 2 2]
    rw [World.size_alloc, World.size_alloc] at h3
    exact h3.cell 1
  have hcA : HoldsC (((w.alloc (.cells cA.cells.toArray 57)).alloc (.cells (cB.cells ++ cC.cells).toArray 57)).alloc (.cells #[.int .i64 1, .slice (some ⟨w.heap.size, 0, none⟩) 1 1, .int .i64 2, .slice (some ⟨w.heap.size + 1, 0, none⟩) 2 2] 32)) (some ⟨w.heap.size, 0, none⟩) rA.cs :=
    holds_blk rfl (((Blk.new w 57 cA.cells.toArray).alloc (.cells (cB.cells ++ cC.cells).toArray 57)).alloc (.cells #[.int .i64 1, .slice (some ⟨w.heap.size, 0, none⟩) 1 1, .int .i64 2, .slice (some ⟨w.heap.size + 1, 0, none⟩) 2 2] 32)) rfl
  have HRH := Lib.hid HR0
  have HC0 := Lib.hid c00
  have HC1 := Lib.hid c01
  have HCA := Lib.hid hcA
  have HF := Lib.hid F0
  clear HR0 c00 c01 hcA F0
  go_enter Try.func11, Try.ntmps11
  go_wp2_with fail
  change Calls _ _ _ (((w.alloc (.cells cA.cells.toArray 57)).alloc (.cells (cB.cells ++ cC.cells).toArray 57)).alloc (.cells #[.int .i64 1, .slice (some ⟨w.heap.size, 0, none⟩) 1 1, .int .i64 2, .slice (some ⟨w.heap.size + 1, 0, none⟩) 2 2] 32)) _
  generalize ((w.alloc (.cells cA.cells.toArray 57)).alloc (.cells (cB.cells ++ cC.cells).toArray 57)).alloc (.cells #[.int .i64 1, .slice (some ⟨w.heap.size, 0, none⟩) 1 1, .int .i64 2, .slice (some ⟨w.heap.size + 1, 0, none⟩) 2 2] 32) = W at *
  generalize w.heap.size + 1 + 1 = bl at *
  generalize w.heap.size + 1 = bc at *
  generalize hba : w.heap.size = ba at HRH HC0 HC1 HCA ⊢
  have HBA := Lib.hid hba
  clear hba
  refine (sat_ok (some ⟨bl, 0, none⟩) 2 l 2 W HRH.out (by decide) (by decide) (by decide) fits).mono ?_
  rintro e w1 ⟨b, m, rfl, hS, f1, hbb, hmm⟩
  rw [show l.take 2 = l from rfl] at hS
  have HS := Lib.hid hS
  have F1 := Lib.hid f1
  have HBB := Lib.hid hbb
  have HMM := Lib.hid hmm
  clear hS f1 hbb hmm
  go_wp2_with fail
  refine (sat_ok (some ⟨bl, 0, none⟩) 2 l 1 w1 (HRH.out.fr0 F1.out) (by decide) (by decide) (by decide) (fun i h h1 => fits i h (by omega))).mono ?_
  rintro e w2 ⟨b', m', rfl, hS, f2, -, -⟩
  rw [show l.take 1 = [rA] from rfl] at hS
  have HS' := Lib.hid hS
  have F2 := Lib.hid f2
  clear hS f2
  go_wp2_with fail
  refine (sat_bad (some ⟨bl, 0, none⟩) 2 2 3 w2 (by decide) (by decide)).mono ?_
  rintro e w' ⟨rfl, rfl⟩
  go_wp2_with fail
  refine (srows_any b m _ 0 w2 (HS.out.fr0 F2.out)).mono ?_
  rintro e w3 ⟨v1, R1, rfl, hv1, hp1, f3, hg1⟩
  have heq := hp1.uniq p0 HS.out.ok inTab_t
  subst heq
  obtain ⟨A1, c1, hv, ha1⟩ := hv1.sl
  subst hv
  have HA1 := Lib.hid ha1
  have HG1 := Lib.hid hg1
  have F3 := Lib.hid (F2.out.trans f3)
  have F3' := Lib.hid f3
  clear hv1 hp1 f3 ha1 hg1
  go_wp2_with fail
  refine (srange_any b m _ 0 1 10 10 w3 (HS.out.fr0 F3.out) (by decide) (by decide)).mono ?_
  rintro e w4 ⟨v2, R2, rfl, hv2, hp2, f4, hg2⟩
  have heq := hp2.uniq p1 HS.out.ok inRng_t
  subst heq
  obtain ⟨A2, c2, hv, ha2⟩ := hv2.sl
  subst hv
  replace HA1 := Lib.hid (HA1.out.fr0 f4)
  have HA2 := Lib.hid ha2
  have HG2 := Lib.hid hg2
  replace F3 := Lib.hid (F3.out.trans f4)
  replace F3' := Lib.hid (F3'.out.trans f4)
  clear hv2 hp2 f4 ha2 hg2
  go_wp2_with fail
  refine (srange_any b m _ 0 2 1 100 w4 (HS.out.fr0 F3.out) (by decide) (by decide)).mono ?_
  rintro e w5 ⟨v3, R3, rfl, hv3, hp3, f5, hg3⟩
  have heq := hp3.uniq p2 HS.out.ok inRng_t
  subst heq
  obtain ⟨A3, c3, hv, ha3⟩ := hv3.sl
  subst hv
  replace HA1 := Lib.hid (HA1.out.fr0 f5)
  replace HA2 := Lib.hid (HA2.out.fr0 f5)
  have HA3 := Lib.hid ha3
  have HG3 := Lib.hid hg3
  replace F3 := Lib.hid (F3.out.trans f5)
  replace F3' := Lib.hid (F3'.out.trans f5)
  clear hv3 hp3 f5 ha3 hg3
  go_wp2_with fail
  refine (sget_any b' m' _ 0 5 w5 (HS'.out.fr0 F3'.out) (okI_mk (by decide) (by decide)) (okI_mk (by decide) (by decide))).mono ?_
  rintro e w6 ⟨rfl, f6⟩
  rw [got]
  replace HA1 := Lib.hid (HA1.out.fr0 f6)
  replace HA2 := Lib.hid (HA2.out.fr0 f6)
  replace HA3 := Lib.hid (HA3.out.fr0 f6)
  replace F3 := Lib.hid (F3.out.trans f6)
  clear f6
  have f06 : Fr [] W w6 := F1.out.trans F3.out
  have k0 : ∀ o, (w6.alloc o).cell? ⟨bl, 0, none⟩ = some (.int .i64 1) := fun o => ((f06.alloc o).rules.1 bl _ (World.block_lt_of_cell? W _ HC0.out)).trans HC0.out
  have k1 : ∀ o, (w6.alloc o).cell? ⟨bl, 1, none⟩ = some (.slice (some ⟨ba, 0, none⟩) 1 1) := fun o => ((f06.alloc o).rules.1 bl _ (World.block_lt_of_cell? W _ HC1.out)).trans HC1.out
  go_upto_region 14 with fail
  have hx6 := Blk.new w6 50 #[.int .i64 0, .int .i64 5, .int .i64 10, .int .i64 20, .int .i64 30]
  have f67 : Fr [] w6 (w6.alloc (.cells #[.int .i64 0, .int .i64 5, .int .i64 10, .int .i64 20, .int .i64 30] 50)) := (Fr.refl _ _).alloc _
  go_cut [14] (fun s14 wc => s14 = .bool true ∧ Hid (Fr [] (w6.alloc (.cells #[.int .i64 0, .int .i64 5, .int .i64 10, .int .i64 20, .int .i64 30] 50)) wc))
  case first =>
    have hap := Lib.hid (fun W => sapply_nil 1 (.slice (some ⟨ba, 0, none⟩) 1 1) W)
    have hcl := Lib.hid (fun W => sclone_nil W)
    have hle := Lib.hid (fun W => slen_nil W)
    have hro := Lib.hid (fun W => srows_nil 0 W)
    clear hx6 f67
    go_wp2_with (first | (go_at_call 15; refine (hap.out _).mono ?_; rintro e w7 ⟨rfl, f7⟩; have F7 := Lib.hid f7; clear f7) | (go_at_call 29; refine (hle.out _).mono ?_; rintro e w' ⟨rfl, rfl⟩) | (go_at_call 32; refine (hcl.out _).mono ?_; rintro e w' ⟨rfl, rfl⟩) | (go_at_call 30; refine (hro.out _).mono ?_; rintro e w8 ⟨rfl, f8⟩; have F8 := Lib.hid (F7.out.trans f8); clear f8))
    go_meet
    case rel => exact ⟨rfl, F8⟩
  case rest =>
    obtain ⟨rfl, F8⟩ := hcut
    have f6c : Fr [] w6 wc := f67.trans F8.out
    have hxc := hx6.fr F8.out (by simp)
    obtain ⟨g1, o1, hA, hl1, hc1⟩ := (HA1.out.fr0 f6c) (by decide)
    subst hA
    obtain ⟨g2, o2, hA, hl2, hc2⟩ := (HA2.out.fr0 f6c) (by decide)
    subst hA
    obtain ⟨g3, o3, hA, hl3, hc3⟩ := (HA3.out.fr0 f6c) (by decide)
    subst hA
    have a1 : wc.cell? ⟨g1, o1 + 1, none⟩ = some (.int .i64 3) := hc1 0 (by decide) 1 (by decide)
    have a2 : wc.cell? ⟨g2, o2 + 5 + 1, none⟩ = some (.int .i64 5) := hc2 1 (by decide) 1 (by decide)
    have a3 : wc.cell? ⟨g3, o3 + 2 + 1, none⟩ = some (.int .i64 21) := hc3 0 (by decide) 3 (by decide)
    have a4 : wc.cell? ⟨w6.heap.size, 3, none⟩ = some (.int .i64 20) := hxc.cell 3
    have k0' : wc.cell? ⟨bl, 0, none⟩ = some (.int .i64 1) := ((f06.trans f6c).rules.1 bl _ (World.block_lt_of_cell? W _ HC0.out)).trans HC0.out
    have k1' : wc.cell? ⟨bl, 1, none⟩ = some (.slice (some ⟨ba, 0, none⟩) 1 1) := ((f06.trans f6c).rules.1 bl _ (World.block_lt_of_cell? W _ HC1.out)).trans HC1.out
    have hSc := HS.out.fr0 (F3.out.trans f6c)
    have hpo := Lib.hid (sposition_any b m _ wc hSc)
    have hln := Lib.hid (slen_any b m _ wc hSc)
    have hap := Lib.hid (sapply_any b m (Lg.run l) rA (some ⟨ba, 0, none⟩) 1 wc hSc (HCA.out.fr (f06.trans f6c) NoC.nil) (by decide))
    have hrg := Lib.hid (fun W => srange_bad (.pointer (some ⟨b, 0, none⟩)) 0 4 0 9 W (.inr (by decide)))
    have FEND := Lib.hid (HF.out.trans (f06.trans f6c))
    clear k0 k1 f67 hx6 f06 f6c hxc hc1 hc2 hc3 hl1 hl2 hl3 hSc
    go_wp2_with (first | (go_at_call 15; refine hap.out.mono ?_; rintro e w7 ⟨rfl, -, f7⟩; have F7 := Lib.hid f7; clear f7; rw [show Sm.code (Lg.run l) rA = 40 from by unfold Sm.code; rw [again]; rfl]) | (go_at_call 29; refine hln.out.mono ?_; rintro e w' ⟨rfl, rfl⟩; rw [len]) | (go_at_call 27; refine hpo.out.mono ?_; rintro e w' ⟨rfl, rfl⟩; rw [pos]) | (go_at_call 24; refine (hrg.out _).mono ?_; rintro e w8 ⟨rfl, f8⟩; have F9 := Lib.hid f8; clear f8))
    go_ret
    refine ⟨rfl, (FEND.out.trans' F7.out (fun i hi => .inr ?_)).trans F9.out⟩
    have h1 := HF.out.size
    have h2 := HBB.out
    have h3 := HMM.out
    simp only [List.mem_cons, List.not_mem_nil, or_false] at hi
    rcases hi with rfl | rfl <;> omega
end Go.Proofs.Ytakfaffgfdbfmaa
