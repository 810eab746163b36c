/-
  The order that chosen sorts by.
-/
import Derived.Test.YtciaallekkdnhaaGreatJm
import Derived.Test.YtciaallekkdnhaaGreatJf
import Derived.Test.YtciaallekkdnhaaGreatJk
import Derived.Deep.DeepCutAuto
import Derived.Deep.CutBlock
import Derived.StillTailTactics
import Derived.OrdersIn
import Derived.Deep.RegionHeld
import Derived.Test.YtciaallekkdnhaaGreatJa
import Derived.StillTail
import Derived.Deep.QuietTactic
import Derived.Sort.Grow
import Derived.Shelf.SlSortCmp.QuietGrown
import Derived.Test.YtciaallekkdnhaaGreatJl
namespace Go.Proofs.YtciaallekkdnhaaGreat
open Go.RowKit Go.Shelf
attribute [local go_sem] Oper.semAt_some

def chgCs (c : Chg) : Array Value := #[.int .i64 c.t, .int .i64 c.k, .bool c.had, .int .i64 c.o0, .int .i64 c.o1, .int .i64 c.o2, .bool c.has, .int .i64 c.n0, .int .i64 c.n1, .int .i64 c.n2]
theorem mrows_any (c : Chg) (w : World) : Calls Tryz.prog 64 #[c.val] w fun e w' => e = .returned (.func (.func 111) #[] #[.pointer (some ⟨w.heap.size, 0, none⟩)]) ∧ w' = w.alloc (.cells (chgCs c) 59) := by
  obtain ⟨t, k, had, o0, o1, o2, has, n0, n1, n2⟩ := c
  go_enter Tryz.func64, Tryz.ntmps64
  go_wp2
  go_ret
  exact ⟨rfl, rfl⟩
namespace Mm
/-- The rows of the first k of a change's two sides. -/
def part (c : Chg) (k : Nat) : List RowV := if k = 0 then [] else if k = 1 then (Pm.bef c).toList else rows c
theorem part_next0 {c : Chg} {r : RowV} (h : Pm.bef c = some r) : ∃ l, part c 0 ++ r :: l = rows c := ⟨(Pm.aft c).toList, by simp [part, rows, h]⟩
theorem part_next1 {c : Chg} {r : RowV} (h : Pm.aft c = some r) : ∃ l, part c 1 ++ r :: l = rows c := ⟨[], by simp [part, rows, h]⟩
theorem part_in0 {c : Chg} {r : RowV} (h : Pm.bef c = some r) : part c 0 ++ [r] = part c 1 := by simp [part, h]
theorem part_in1 {c : Chg} {r : RowV} (h : Pm.aft c = some r) : part c 1 ++ [r] = part c 2 := by simp [part, rows, h]
theorem part_out0 {c : Chg} (h : Pm.bef c = none) : part c 0 = part c 1 := by simp [part, h]
theorem part_out1 {c : Chg} (h : Pm.aft c = none) : part c 1 = part c 2 := by simp [part, rows, h]
end Mm
set_option maxRecDepth 100000 in
set_option maxHeartbeats 4000000 in
theorem rows_seq (n : Nat) (hn : 3 ≤ n) (Bc : Nat) (c : Chg) (S : List Nat) (w : World) (hc : Blk w Bc 59 (chgCs c)) (hB : Bc ∉ S) (hSw : ∀ x ∈ S, x < w.heap.size) :
    SeqF Fence.wide n Tryz.prog 111 #[.pointer (some ⟨Bc, 0, none⟩)] (fun r : RowV => #[r.val]) S (Mm.rows c) w := by
  intro l J W hW hJ hsz hY h0
  have hcW := hc.fr hW (by simp)
  have HY := Lib.hid hY
  have HJ := Lib.hid hJ
  have hlB := hcW.lt
  have HSW : Hid (∀ x ∈ S, x < W.heap.size) := Lib.hid (fun x hx => Nat.lt_of_lt_of_le (hSw x hx) hW.size)
  have hn1 : 1 ≤ n := by omega
  have F0 : Fr [] W (W.alloc (.cells #[.func (.func 89) #[] #[], .func (.func 50) #[] #[]] 119)) := (Fr.refl _ _).alloc _
  have hl0 := Blk.new W 119 #[.func (.func 89) #[] #[], .func (.func 50) #[] #[]]
  have hj0 := hJ _ _ _ h0 (F0.toBelow (Nat.le_refl _) (by simp))
  have HC0 := Lib.hid (hcW.fr F0 (by simp))
  have HL0 := Lib.hid hl0
  have HJ0 := Lib.hid hj0
  have HF0 := Lib.hid F0
  have HPB := Lib.hid (pbefore_any c)
  have HPA := Lib.hid (pafter_any c)
  have HSZ := Lib.hid hsz
  obtain ⟨C, HCC⟩ : ∃ C, Hid (c = C) := ⟨_, Lib.hid rfl⟩
  have hce := HCC.out
  obtain ⟨t, k, had, o0, o1, o2, has, n0, n1, n2⟩ := c
  simp only [chgCs] at HC0 
  rw [hce] at HY HPB HPA ⊢
  rw [← hce] at HPB HPA
  clear hY hJ hsz h0 hc hSw hl0 hj0 F0 hcW
  refine callsIn_of_wp Tryz.func111 rfl trivial ?_ rfl
  simp only [Tryz.ntmps111, List.size_toArray, List.length_cons, List.length_nil, Nat.reduceAdd, Nat.reduceSub, Array.replicate_succ, Array.replicate_zero, List.push_toArray, List.append_toArray, List.nil_append, List.cons_append]
  gi_wp2
  generalize W.alloc (.cells #[.func (.func 89) #[] #[], .func (.func 50) #[] #[]] 119) = Z at *
  have HGL : Hid (W.heap.size ≤ W.heap.size) := Lib.hid (Nat.le_refl _)
  have hlZ := HC0.out.lt
  generalize hgl : W.heap.size = gl at HL0 HGL ⊢
  have HGE : Hid (W.heap.size = gl) := Lib.hid hgl
  clear hgl
  replace HSW : Hid (∀ x ∈ S, x < gl) := Lib.hid (fun x hx => by have := HSW.out x hx; have := HGE.out; omega)
  gi_loopw [9] (fun p wr => ∃ q : Nat, p = .int .i64 q ∧ q ≤ 2 ∧ Hid (J (Mm.part C q) wr) ∧ Hid (FrO Z.heap.size S Z wr)) (fun p _ => 2 - (intOf p).toNat)
  case atStart => exact ⟨0, rfl, by omega, HJ0, Lib.hid (FrO.refl _ _ _)⟩
  case round =>
    clear HJ0
    obtain ⟨q, rfl, hq, HK, HF⟩ := hrel
    have hq3 : q = 0 ∨ q = 1 ∨ q = 2 := by omega
    rcases hq3 with rfl | rfl | rfl
    · -- round 0
      have cl : wr.cell? ⟨gl, 0, none⟩ = some (.func (.func 89) #[] #[]) := (HF.out.blk HL0.out HL0.out.lt (fun hm => by have := HSW.out _ hm; have := HGL.out; omega)).cell 0
      have hcb := HF.out.blk HC0.out (by have := HC0.out.lt; omega) hB
      have c0 : wr.cell? ⟨Bc, 0, none⟩ = some (.int .i64 t) := hcb.cell 0
      have c1 : wr.cell? ⟨Bc, 1, none⟩ = some (.int .i64 k) := hcb.cell 1
      have c2 : wr.cell? ⟨Bc, 2, none⟩ = some (.bool had) := hcb.cell 2
      have c3 : wr.cell? ⟨Bc, 3, none⟩ = some (.int .i64 o0) := hcb.cell 3
      have c4 : wr.cell? ⟨Bc, 4, none⟩ = some (.int .i64 o1) := hcb.cell 4
      have c5 : wr.cell? ⟨Bc, 5, none⟩ = some (.int .i64 o2) := hcb.cell 5
      have c6 : wr.cell? ⟨Bc, 6, none⟩ = some (.bool has) := hcb.cell 6
      have c7 : wr.cell? ⟨Bc, 7, none⟩ = some (.int .i64 n0) := hcb.cell 7
      have c8 : wr.cell? ⟨Bc, 8, none⟩ = some (.int .i64 n1) := hcb.cell 8
      have c9 : wr.cell? ⟨Bc, 9, none⟩ = some (.int .i64 n2) := hcb.cell 9
      have HF1 := Lib.hid HF.out
      clear hcb HF
      gi_wp2
      refine ⟨trivial, ?_⟩
      refine (callsIn_wide.2 (HPB.out wr)).mono ?_
      rintro e w1 ⟨⟨rt, rk, rx, ry, rz⟩, rfl, hr, f1⟩
      have HR := Lib.hid hr
      have f2 : Fr [] wr (w1.alloc (.cells #[.int .i64 rt, .int .i64 rk, .int .i64 rx, .int .i64 ry, .int .i64 rz] 116)) := f1.alloc _
      have hbr := Blk.new w1 116 #[.int .i64 rt, .int .i64 rk, .int .i64 rx, .int .i64 ry, .int .i64 rz]
      have hj1 := HJ.out _ _ _ HK.out (f2.toBelow (HSZ.out _ _ HK.out) (by simp))
      have HF2 := Lib.hid (HF1.out.trans (f2.frO HF1.out.size (by simp)))
      have HB1 := Lib.hid hbr
      have HJ1 := Lib.hid hj1
      clear hr f1 f2 hbr hj1 HF1 HK cl c0 c1 c2 c3 c4 c5 c6 c7 c8 c9
      simp only [RowV.val]
      cases had with
      | true =>
        have hpe : Pm.bef C = some ⟨rt, rk, rx, ry, rz⟩ := by rw [← HCC.out, HR.out]; simp
        have HPE := Lib.hid hpe
        clear hpe
        have hbr := HB1.out.cell 0
        have d0 : (w1.alloc (.cells #[.int .i64 rt, .int .i64 rk, .int .i64 rx, .int .i64 ry, .int .i64 rz] 116)).cell? ⟨w1.heap.size, 0, none⟩ = some (.int .i64 rt) := HB1.out.cell 0
        clear hbr
        obtain ⟨fn, tmps, assign, body, hy, hR⟩ := HY.out (Mm.part C 0) ⟨rt, rk, rx, ry, rz⟩ _ (Mm.part_next0 HPE.out) HJ1.out
        simp only [RowV.val] at hy
        gi_wp2
        refine hR.mono ?_
        rintro e W3 ⟨rfl, hJ3, hk3⟩
        rw [Mm.part_in0 HPE.out] at hJ3
        have HJ3 := Lib.hid hJ3
        have HF3 := Lib.hid (HF2.out.trans (hk3.frO HF2.out.size (fun x hx => .inl hx)))
        clear hJ3 hk3 hy hR d0
        gi_wp2
        go_roundw
        case rel => exact ⟨1, by go_num, by omega, HJ3, HF3⟩
        case measure => simp [intOf]
      | false =>
        have hpe : Pm.bef C = none := by rw [← HCC.out, HR.out]; simp
        have hj2 := HJ1.out
        rw [Mm.part_out0 hpe] at hj2
        have HJ2 := Lib.hid hj2
        clear hj2 hpe
        gi_wp2
        refine ⟨fun _ h => (by cases h), ?_⟩
        gi_wp2
        go_roundw
        case rel => exact ⟨1, by go_num, by omega, HJ2, HF2⟩
        case measure => simp [intOf]
    · -- round 1
      have cl : wr.cell? ⟨gl, 1, none⟩ = some (.func (.func 50) #[] #[]) := (HF.out.blk HL0.out HL0.out.lt (fun hm => by have := HSW.out _ hm; have := HGL.out; omega)).cell 1
      have hcb := HF.out.blk HC0.out (by have := HC0.out.lt; omega) hB
      have c0 : wr.cell? ⟨Bc, 0, none⟩ = some (.int .i64 t) := hcb.cell 0
      have c1 : wr.cell? ⟨Bc, 1, none⟩ = some (.int .i64 k) := hcb.cell 1
      have c2 : wr.cell? ⟨Bc, 2, none⟩ = some (.bool had) := hcb.cell 2
      have c3 : wr.cell? ⟨Bc, 3, none⟩ = some (.int .i64 o0) := hcb.cell 3
      have c4 : wr.cell? ⟨Bc, 4, none⟩ = some (.int .i64 o1) := hcb.cell 4
      have c5 : wr.cell? ⟨Bc, 5, none⟩ = some (.int .i64 o2) := hcb.cell 5
      have c6 : wr.cell? ⟨Bc, 6, none⟩ = some (.bool has) := hcb.cell 6
      have c7 : wr.cell? ⟨Bc, 7, none⟩ = some (.int .i64 n0) := hcb.cell 7
      have c8 : wr.cell? ⟨Bc, 8, none⟩ = some (.int .i64 n1) := hcb.cell 8
      have c9 : wr.cell? ⟨Bc, 9, none⟩ = some (.int .i64 n2) := hcb.cell 9
      have HF1 := Lib.hid HF.out
      clear hcb HF
      gi_wp2
      refine ⟨trivial, ?_⟩
      refine (callsIn_wide.2 (HPA.out wr)).mono ?_
      rintro e w1 ⟨⟨rt, rk, rx, ry, rz⟩, rfl, hr, f1⟩
      have HR := Lib.hid hr
      have f2 : Fr [] wr (w1.alloc (.cells #[.int .i64 rt, .int .i64 rk, .int .i64 rx, .int .i64 ry, .int .i64 rz] 116)) := f1.alloc _
      have hbr := Blk.new w1 116 #[.int .i64 rt, .int .i64 rk, .int .i64 rx, .int .i64 ry, .int .i64 rz]
      have hj1 := HJ.out _ _ _ HK.out (f2.toBelow (HSZ.out _ _ HK.out) (by simp))
      have HF2 := Lib.hid (HF1.out.trans (f2.frO HF1.out.size (by simp)))
      have HB1 := Lib.hid hbr
      have HJ1 := Lib.hid hj1
      clear hr f1 f2 hbr hj1 HF1 HK cl c0 c1 c2 c3 c4 c5 c6 c7 c8 c9
      simp only [RowV.val]
      cases has with
      | true =>
        have hpe : Pm.aft C = some ⟨rt, rk, rx, ry, rz⟩ := by rw [← HCC.out, HR.out]; simp
        have HPE := Lib.hid hpe
        clear hpe
        have hbr := HB1.out.cell 0
        have d0 : (w1.alloc (.cells #[.int .i64 rt, .int .i64 rk, .int .i64 rx, .int .i64 ry, .int .i64 rz] 116)).cell? ⟨w1.heap.size, 0, none⟩ = some (.int .i64 rt) := HB1.out.cell 0
        clear hbr
        obtain ⟨fn, tmps, assign, body, hy, hR⟩ := HY.out (Mm.part C 1) ⟨rt, rk, rx, ry, rz⟩ _ (Mm.part_next1 HPE.out) HJ1.out
        simp only [RowV.val] at hy
        gi_wp2
        refine hR.mono ?_
        rintro e W3 ⟨rfl, hJ3, hk3⟩
        rw [Mm.part_in1 HPE.out] at hJ3
        have HJ3 := Lib.hid hJ3
        have HF3 := Lib.hid (HF2.out.trans (hk3.frO HF2.out.size (fun x hx => .inl hx)))
        clear hJ3 hk3 hy hR d0
        gi_wp2
        go_roundw
        case rel => exact ⟨2, by go_num, by omega, HJ3, HF3⟩
        case measure => simp [intOf]
      | false =>
        have hpe : Pm.aft C = none := by rw [← HCC.out, HR.out]; simp
        have hj2 := HJ1.out
        rw [Mm.part_out1 hpe] at hj2
        have HJ2 := Lib.hid hj2
        clear hj2 hpe
        gi_wp2
        refine ⟨fun _ h => (by cases h), ?_⟩
        gi_wp2
        go_roundw
        case rel => exact ⟨2, by go_num, by omega, HJ2, HF2⟩
        case measure => simp [intOf]
    · gi_wp2
      go_end0
      exact ⟨⟨_, rfl⟩, HK.out⟩
end Go.Proofs.YtciaallekkdnhaaGreat
namespace Go.Proofs.YtciaallekkdnhaaGreat
open Go.RowKit

theorem mnew_any (w : World) : Calls Tryz.prog 11 #[] w fun e w' => e = .returned (.pointer (some ⟨w.heap.size + 1, 0, none⟩)) ∧ IxAt w' (w.heap.size + 1) w.heap.size [] [w.heap.size + 1, w.heap.size] ∧ Fr [] w w' := by
  have hmm := @run_makeMap Tryz.prog
  go_enter Tryz.func11, Tryz.ntmps11
  go_wp2
  go_ret
  have hb := Blk.new (w.alloc (.map #[] 0)) 82 #[.map (some w.heap.size), .pointer none]
  rw [World.size_alloc] at hb
  exact ⟨by simp, ⟨(VMap.made _ _ w).alloc _, Mm.Ok.nil, ⟨none, hb, .inl rfl⟩, by simp⟩, ((Fr.refl _ _).alloc _).alloc _⟩
theorem mlen_nil (w : World) : Calls Tryz.prog 19 #[.pointer none] w fun e w' => e = .returned (.int .i64 0) ∧ w = w' := by
  go_enter Tryz.func19, Tryz.ntmps19
  go_wp2
  go_ret
  exact ⟨rfl, rfl⟩
theorem mlen_any {b m : Nat} {M : Mm.Ix} {D : List Nat} (w : World) (h : IxAt w b m M D) : Calls Tryz.prog 19 #[.pointer (some ⟨b, 0, none⟩)] w fun e w' => e = .returned (.int .i64 M.length) ∧ w = w' := by
  obtain ⟨lp, hb, -⟩ := h.blk
  have h1 : w.cell? ⟨b, 0, none⟩ = some (.map (some m)) := hb.cell 0
  have hm := h.map
  go_enter Tryz.func19, Tryz.ntmps19
  go_wp2_with (at_len; refine wpList_vlen _ rfl _ rfl Tryz.underlying79 m _ rfl hm ?_)
  go_ret
  exact ⟨rfl, rfl⟩
theorem mremove_nil (id : Int) (w : World) : Calls Tryz.prog 15 #[.pointer none, .int .i64 id] w fun e w' => e = .returned (.bool false) ∧ w = w' := by
  go_enter Tryz.func15, Tryz.ntmps15
  go_wp2
  go_ret
  exact ⟨rfl, rfl⟩
theorem madd_nil (id : Int) (q : Qry) (w : World) : Calls Tryz.prog 17 #[.pointer none, .int .i64 id, q.val] w fun e w' => e = .returned (.int .i64 1) ∧ Fr [] w w' := by
  obtain ⟨k, t, c, lo, hi, b, o⟩ := q
  go_enter Tryz.func17, Tryz.ntmps17
  go_wp2
  go_ret
  exact ⟨rfl, (Fr.refl _ _).alloc _⟩
theorem gotQ (o : Option Qry) : ∃ k t c lo hi b o', (o.map Qry.val).getD (.agg #[.int .i64 0, .int .i64 0, .int .i64 0, .int .i64 0, .int .i64 0, .int .i64 0, .int .i64 0]) = .agg #[.int .i64 k, .int .i64 t, .int .i64 c, .int .i64 lo, .int .i64 hi, .int .i64 b, .int .i64 o'] := by
  cases o with
  | none => exact ⟨0, 0, 0, 0, 0, 0, 0, rfl⟩
  | some q => exact ⟨q.kind, q.table, q.column, q.low, q.high, q.by_, q.other, rfl⟩
set_option maxRecDepth 100000 in
set_option maxHeartbeats 2000000 in
theorem mremove_any {b m : Nat} {M : Mm.Ix} {D : List Nat} (id : Int) (hid : okI id) (w : World) (h : IxAt w b m M D) : Calls Tryz.prog 15 #[.pointer (some ⟨b, 0, none⟩), .int .i64 id] w fun e w' => e = .returned (.bool (mget M id).isSome) ∧ IxAt w' b m (mdel M id) D ∧ Fr [b, m] w w' := by
  obtain ⟨lp, hb, -⟩ := h.blk
  have hm := h.map
  obtain ⟨k, t, c, lo, hi, by_, o, hq⟩ := gotQ (mget M id)
  have hlk : ∀ W, VMap Tryz.prog 3 (Lit.int .i64) Qry.val W m M → (Instr.lookup 79 (.map (some m)) (.int .i64 id) true).run Tryz.prog W = .ok (.tuple #[.agg #[.int .i64 k, .int .i64 t, .int .i64 c, .int .i64 lo, .int .i64 hi, .int .i64 by_, .int .i64 o], .bool (mget M id).isSome]) W := by
    intro W hW
    have h3 := VMap.look tyIntQry hW id hid true
    rw [hq] at h3
    exact h3
  have h0 := hlk w hm
  have b0 : w.cell? ⟨b, 0, none⟩ = some (.map (some m)) := hb.cell 0
  obtain ⟨r, hr⟩ : ∃ r, r = (mget M id).isSome := ⟨_, rfl⟩
  rw [← hr] at h0 ⊢
  have HOK := Lib.hid (h.ok.del id)
  have HMEM := Lib.hid h.mem
  have hne := h.ne
  clear hlk hq hr h
  go_enter Tryz.func15, Tryz.ntmps15
  go_upto_region 4 with (fail)
  have F1 : Fr [] w (w.alloc (.cells #[.int .i64 k, .int .i64 t, .int .i64 c, .int .i64 lo, .int .i64 hi, .int .i64 by_, .int .i64 o] 35)) := (Fr.refl _ _).alloc _
  have hb1 := hb.fr F1 (by simp)
  have hm1 := hm.fr F1 (by simp)
  clear h0 b0 hb hm
  generalize w.alloc (.cells #[.int .i64 k, .int .i64 t, .int .i64 c, .int .i64 lo, .int .i64 hi, .int .i64 by_, .int .i64 o] 35) = w1 at *
  have b0 : w1.cell? ⟨b, 0, none⟩ = some (.map (some m)) := hb1.cell 0
  go_wp2_with (at_delete; refine wpList_vdel _ rfl _ _ rfl tyIntQry m _ rfl hm1 id rfl hid ?_; intro w3 hm3 ht3; have f3 : Fr [m] w1 w3 := turned_fr ht3 (by simp); have hb3 := hb1.fr f3 (by simpa using Ne.symm hne); have z1 := hb3.frozen 1; have c1 := hb3.cell 1)
  go_ret
  have hb4 := hb3.set_ 1 (.pointer none)
  have f4 : Fr [b] w3 (w3.setCell ⟨b, 1, none⟩ (.pointer none)) := (Fr.refl _ _).setCell (.inl (by simp)) _
  exact ⟨rfl, IxAt.bare (hm3.setCell hne _) HOK.out (by simpa using hb4) HMEM.out, ((F1.mono (by simp)).trans (f3.mono (by simp))).trans (f4.mono (by simp))⟩
set_option maxRecDepth 100000 in
set_option maxHeartbeats 4000000 in
theorem madd_any {b m : Nat} {M : Mm.Ix} {D : List Nat} (id : Int) (hid : okI id) (q : Qry) (w : World) (h : IxAt w b m M D) : Calls Tryz.prog 17 #[.pointer (some ⟨b, 0, none⟩), .int .i64 id, q.val] w fun e w' => e = .returned (.int .i64 (Mm.code M id q)) ∧ IxAt w' b m (Mm.add M id q) D ∧ Fr [b, m] w w' := by
  obtain ⟨lp, hb, -⟩ := h.blk
  have hm := h.map
  obtain ⟨k, t, c, lo, hi, by_, o, hq⟩ := gotQ (mget M id)
  have HLK : Hid (∀ W, VMap Tryz.prog 3 (Lit.int .i64) Qry.val W m M → (Instr.lookup 79 (.map (some m)) (.int .i64 id) true).run Tryz.prog W = .ok (.tuple #[.agg #[.int .i64 k, .int .i64 t, .int .i64 c, .int .i64 lo, .int .i64 hi, .int .i64 by_, .int .i64 o], .bool (mget M id).isSome]) W) := Lib.hid (by
    intro W hW
    have h3 := VMap.look tyIntQry hW id hid true
    rw [hq] at h3
    exact h3)
  have HV := Lib.hid (fun W => qvalid_any q W)
  have HOK := Lib.hid (fun (h0 : Mm.code M id q = 0) => (if_pos h0 : Mm.add M id q = mput M id q))
  have HNO := Lib.hid (fun (h0 : Mm.code M id q ≠ 0) => (if_neg h0 : Mm.add M id q = M))
  have HIX := Lib.hid h
  have HOKA := Lib.hid (h.ok.add hid q)
  have HLEN := Lib.hid h.ok.len
  have HNE := Lib.hid h.ne
  have F1 := (Fr.refl [] w).alloc (.cells #[.int .i64 q.kind, .int .i64 q.table, .int .i64 q.column, .int .i64 q.low, .int .i64 q.high, .int .i64 q.by_, .int .i64 q.other] 35)
  have HBQ := Lib.hid (QAt.new w q)
  have F2 := F1.alloc (.cells #[.int .i64 k, .int .i64 t, .int .i64 c, .int .i64 lo, .int .i64 hi, .int .i64 by_, .int .i64 o] 35)
  have hlk1 := HLK.out _ (hm.fr F1 (by simp))
  have b1 := (hb.fr F1 (by simp)).cell 0
  have hb2 := hb.fr F2 (by simp)
  have hm2 := hm.fr F2 (by simp)
  have HBQ2 := Lib.hid (QAt.fr HBQ.out ((Fr.refl [] _).alloc (.cells #[.int .i64 k, .int .i64 t, .int .i64 c, .int .i64 lo, .int .i64 hi, .int .i64 by_, .int .i64 o] 35)) (by simp))
  have HF2 := Lib.hid F2
  obtain ⟨r, hr⟩ : ∃ r, r = (mget M id).isSome := ⟨_, rfl⟩
  have HR := Lib.hid hr
  rw [← hr] at hlk1
  have e0 : (⟨b, 0, none⟩ : Addr) = ⟨b, 0, none⟩ := rfl
  clear hq h hr F1 F2 HBQ e0
  obtain ⟨qk, qt, qc, ql, qh, qb, qo⟩ := q
  go_enter Tryz.func17, Tryz.ntmps17
  go_upto_region 4 with (fail)
  clear hlk1 b1
  generalize hw2 : (w.alloc (.cells #[.int .i64 qk, .int .i64 qt, .int .i64 qc, .int .i64 ql, .int .i64 qh, .int .i64 qb, .int .i64 qo] 35)).alloc (.cells #[.int .i64 k, .int .i64 t, .int .i64 c, .int .i64 lo, .int .i64 hi, .int .i64 by_, .int .i64 o] 35) = w2 at *
  clear hw2
  have b0 : w2.cell? ⟨b, 0, none⟩ = some (.map (some m)) := hb2.cell 0
  have q0 := HBQ2.out.c0
  have q1 := HBQ2.out.c1
  have q2 := HBQ2.out.c2
  have q3 := HBQ2.out.c3
  have q4 := HBQ2.out.c4
  have q5 := HBQ2.out.c5
  have q6 := HBQ2.out.c6
  dsimp only at q0 q1 q2 q3 q4 q5 q6
  obtain ⟨q, HQ⟩ : ∃ q : Qry, Hid (⟨qk, qt, qc, ql, qh, qb, qo⟩ = q) := ⟨_, Lib.hid rfl⟩
  have HQV : Hid (q.val = .agg #[.int .i64 qk, .int .i64 qt, .int .i64 qc, .int .i64 ql, .int .i64 qh, .int .i64 qb, .int .i64 qo]) := Lib.hid (by rw [← HQ.out])
  rw [HQ.out] at HV HOK HNO HOKA HBQ2 ⊢
  cases r with
  | true =>
    have HC : Hid (Mm.code M id q = 80) := Lib.hid (if_pos (.inl HR.out.symm))
    go_wp2_with fail
    go_ret
    rw [HQ.out, HC.out]
    exact ⟨rfl, by have h := HNO.out (by rw [HC.out]; decide); unfold Mm.add; rw [h]; exact HIX.out.fr0 HF2.out, HF2.out.mono (by simp)⟩
  | false =>
    obtain ⟨v, HVV⟩ : ∃ v, Hid (Em.valid q = v) := ⟨_, Lib.hid rfl⟩
    rw [HVV.out, HQV.out] at HV
    have hb2' := Lib.hid hb2
    have hm2' := Lib.hid hm2
    clear hb2 hm2
    cases v with
    | false =>
      have HC : Hid (Mm.code M id q = 80) := Lib.hid (if_pos (.inr (.inl HVV.out)))
      go_wp2_with fail
      refine (HV.out _).mono ?_
      rintro e w3 ⟨rfl, f3⟩
      have HF3 := Lib.hid (HF2.out.trans f3)
      clear f3
      go_wp2_with fail
      go_ret
      rw [HQ.out, HC.out]
      exact ⟨rfl, by have h := HNO.out (by rw [HC.out]; decide); unfold Mm.add; rw [h]; exact HIX.out.fr0 HF3.out, HF3.out.mono (by simp)⟩
    | true =>
      go_wp2_with fail
      refine (HV.out _).mono ?_
      rintro e w3 ⟨rfl, f3⟩
      have HF3 := Lib.hid (HF2.out.trans f3)
      have hb3 := hb2'.out.fr f3 (by simp)
      have hm3 := hm2'.out.fr f3 (by simp)
      have hq3 := QAt.fr HBQ2.out f3 (by simp)
      rw [← HQ.out] at hq3
      have hl3 : ∀ ty, (Builtin.len_ #[79] ty #[.map (some m)]).run Tryz.prog w3 = .ok (.int .i64 M.length) w3 := fun ty => hm3.len Tryz.underlying79 ty
      have b3 : w3.cell? ⟨b, 0, none⟩ = some (.map (some m)) := hb3.cell 0
      have HB3 := Lib.hid hb3
      have HM3 := Lib.hid hm3
      have HQ3 := Lib.hid hq3
      clear f3 hb3 hm3 hq3 b0 q0 q1 q2 q3 q4 q5 q6 hb2' hm2' HV
      by_cases hlen : 500 ≤ (M.length : Int)
      · have HC : Hid (Mm.code M id q = 80) := Lib.hid (if_pos (.inr (.inr (by omega))))
        go_wp2_with fail
        go_ret
        rw [HQ.out, HC.out]
        exact ⟨rfl, by have h := HNO.out (by rw [HC.out]; decide); unfold Mm.add; rw [h]; exact HIX.out.fr0 HF3.out, HF3.out.mono (by simp)⟩
      · have hlen' : decide (500 ≤ (M.length : Int)) = false := decide_eq_false hlen
        have hgn : mget M id = none := by
          have h := HR.out
          cases hg : mget M id with
          | none => rfl
          | some x =>
            rw [hg] at h
            cases h
        have HC : Hid (Mm.code M id q = 0) := Lib.hid (Mm.code_zero.2 ⟨hgn, HVV.out, by omega⟩)
        have HGN := Lib.hid hgn
        clear hgn
        have HL3 := Lib.hid (by omega : M.length < 500)
        clear hlen
        go_upto_region 6 with (fail)
        clear hl3 b3
        have hlm : M.length < maxLen := by have := HL3.out; simp only [maxLen]; omega
        have HLM := Lib.hid hlm
        clear hlm
        have b3 : w3.cell? ⟨b, 0, none⟩ = some (.map (some m)) := HB3.out.cell 0
        have q0 := HQ3.out.c0
        have q1 := HQ3.out.c1
        have q2 := HQ3.out.c2
        have q3 := HQ3.out.c3
        have q4 := HQ3.out.c4
        have q5 := HQ3.out.c5
        have q6 := HQ3.out.c6
        dsimp only at q0 q1 q2 q3 q4 q5 q6
        have hne := HNE.out
        obtain ⟨st, w4, hrun4, ht4, hl4⟩ := VMap.entry tyIntQry HM3.out.drew id hid HLM.out
        rw [HGN.out] at hrun4
        simp only [Option.map_none, Option.getD_none] at hrun4
        have f4 : Fr [m] w3.drew w4 := turned_fr ht4 (by simp)
        have hb4 := HB3.out.drew.fr f4 (by simpa using Ne.symm hne)
        have hqm : w.heap.size ≠ m := Ne.symm (HM3.out.ne HQ3.out)
        have hq4 := QAt.fr HQ3.out ((Fr.refl [] w3).drew) (by simp)
        replace hq4 := QAt.fr hq4 f4 (by simpa using hqm)
        have r0 := hq4.c0
        have r1 := hq4.c1
        have r2 := hq4.c2
        have r3 := hq4.c3
        have r4 := hq4.c4
        have r5 := hq4.c5
        have r6 := hq4.c6
        dsimp only at r0 r1 r2 r3 r4 r5 r6
        have y1 := hb4.cell 1
        have z1 := hb4.frozen 1
        obtain ⟨w5, hrun5, hm5, ht5⟩ := hl4 w4 q rfl
        have f5 : Fr [m] w4 w5 := turned_fr ht5 (by simp)
        have hb5 := hb4.fr f5 (by simpa using Ne.symm hne)
        have y5 := hb5.cell 1
        have z5 := hb5.frozen 1
        obtain ⟨w6, hrun6, hm6, ht6⟩ := hl4 (w4.setCell ⟨b, 1, none⟩ (.pointer none)) q (Below.heap_setCell w4 _ _ _ hne)
        have f6 : Fr [m] (w4.setCell ⟨b, 1, none⟩ (.pointer none)) w6 := turned_fr ht6 (by simp)
        have hb6 := (hb4.set_ 1 (.pointer none)).fr f6 (by simpa using Ne.symm hne)
        rw [HQV.out] at hrun5 hrun6
        have FA : Hid (Fr [b, m] w (w5.setCell ⟨b, 1, none⟩ (.pointer none))) := Lib.hid ((((HF3.out.drew.mono (by simp)).trans (f4.mono (by simp))).trans (f5.mono (by simp))).setCell (.inl (by simp)) _)
        have FB : Hid (Fr [b, m] w w6) := Lib.hid (((((HF3.out.drew.mono (by simp)).trans (f4.mono (by simp))).setCell (.inl (by simp)) _)).trans (f6.mono (by simp)))
        have IA : Hid (IxAt (w5.setCell ⟨b, 1, none⟩ (.pointer none)) b m (mput M id q) D) := Lib.hid (by
          have h1 := HOKA.out
          have h2 := HOK.out HC.out
          unfold Mm.add at h1
          rw [h2] at h1
          exact IxAt.bare (hm5.setCell hne _) h1 (by simpa using hb5.set_ 1 (.pointer none)) HIX.out.mem)
        have IB : Hid (IxAt w6 b m (mput M id q) D) := Lib.hid (by
          have h1 := HOKA.out
          have h2 := HOK.out HC.out
          unfold Mm.add at h1
          rw [h2] at h1
          exact IxAt.bare hm6 h1 (by simpa using hb6) HIX.out.mem)
        clear ht4 hl4 f4 hb4 hqm hq4 hm5 ht5 f5 hb5 hm6 ht6 f6 hb6
        go_region
        all_goals
          go_wp2_with fail
          go_ret
          rw [HQ.out, HC.out]
          unfold Mm.add
          rw [HOK.out HC.out]
          first
            | exact ⟨rfl, IA.out, FA.out⟩
            | exact ⟨rfl, IB.out, FB.out⟩
end Go.Proofs.YtciaallekkdnhaaGreat
namespace Go.Proofs.YtciaallekkdnhaaGreat
open Go.RowKit

theorem results_tmp4 {P : Program} {fn : Func} {t u v x : Tmp} (h : fn.results = #[.tmp t, .tmp u, .tmp v, .tmp x]) (tmps : Array Value) (w : World) :
    (results fn tmps).run P w = .ok (.tuple #[tmps.getD t undef, tmps.getD u undef, tmps.getD v undef, tmps.getD x undef]) w := by
  simp [results, h]
theorem qscan_any (q : Qry) (hv : Em.valid q = true) (w : World) : Calls Tryz.prog 61 #[q.val] w fun e w' => e = .returned (.tuple #[.int .i64 q.table, .int .i64 q.column, .int .i64 q.low, .int .i64 q.high]) ∧ Fr [] w w' := by
  have HV : Hid (∀ W, Calls Tryz.prog 27 #[q.val] W fun e w' => e = .returned (.bool true) ∧ Fr [] W w') := Lib.hid (fun W => by
    have h := qvalid_any q W
    rw [hv] at h
    exact h)
  have HB := Lib.hid (QAt.new w q)
  have HF := Lib.hid ((Fr.refl [] w).alloc (.cells #[.int .i64 q.kind, .int .i64 q.table, .int .i64 q.column, .int .i64 q.low, .int .i64 q.high, .int .i64 q.by_, .int .i64 q.other] 35))
  clear hv
  obtain ⟨k, t, c, lo, hi, by_, o⟩ := q
  dsimp only [Qry.val] at HV ⊢
  dsimp only at HB HF
  go_enter Tryz.func61, Tryz.ntmps61
  go_wp2_with (go_at_call 27; refine (HV.out _).mono ?_; rintro e w1 ⟨rfl, f1⟩; have HB1 := Lib.hid (QAt.fr HB.out f1 (by simp)); have HF1 := Lib.hid (HF.out.trans f1); clear f1)
  have q1 := HB1.out.c1
  have q2 := HB1.out.c2
  have q3 := HB1.out.c3
  have q4 := HB1.out.c4
  dsimp only at q1 q2 q3 q4
  go_region
  all_goals
    go_wp2
    (try simp only [Exit.inBlock, Exit.then])
    refine bodyPost_ret (results_tmp4 rfl _ _) rfl ?_
    exact ⟨rfl, HF1.out.drew⟩

theorem mget_mem {K V : Type} [DecidableEq K] {L : List (K × V)} {x : K} {u : V} (h : mget L x = some u) : (x, u) ∈ L := by
  unfold mget at h
  rw [Option.map_eq_some_iff] at h
  obtain ⟨⟨a1, a2⟩, ha, hb⟩ := h
  have h0 := List.find?_some ha
  simp only [decide_eq_true_eq] at h0
  subst hb h0
  exact List.mem_of_find?_eq_some ha
/-- The rows of a map that is being filled: each its own, apart from the others, behind B. -/
structure QRows {K X : Type} (e size : Nat) (enc : X → List Value) (B : Nat) (w : World) (RV : List (K × RvL X)) : Prop where
  own : ∀ p ∈ RV, OwnL e size enc w p.2.1 p.2.2
  low : ∀ p ∈ RV, ∀ g, p.2.1.ownBlock = some g → B ≤ g
  apart : ∀ p ∈ RV, ∀ q ∈ RV, p.1 ≠ q.1 → ∀ g, p.2.1.ownBlock = some g → q.2.1.ownBlock ≠ some g
section
variable {K X : Type} [DecidableEq K] {e size B : Nat} {enc : X → List Value} {w w' : World} {RV : List (K × RvL X)}
omit [DecidableEq K] in
theorem QRows.nil : QRows (K := K) e size enc B w [] := ⟨by simp, by simp, by simp⟩
omit [DecidableEq K] in
theorem QRows.fr {S : List Nat} (h : QRows e size enc B w RV) (hf : Fr S w w') (hS : ∀ x ∈ S, x < B) : QRows e size enc B w' RV :=
  ⟨fun p hp => (h.own p hp).fr hf (fun g hg hm => by have := h.low p hp g hg; have := hS g hm; omega), h.low, h.apart⟩
/-- What a key's row is, the empty one where there is none. -/
theorem QRows.at_ (h : QRows e size enc B w RV) (x : K) : OwnL e size enc w (((mget RV x).map (fun u : RvL X => u.1)).getD (.slice Option.none 0 0)) (((mget RV x).map (fun u : RvL X => u.2)).getD []) ∧
    (∀ g, (((mget RV x).map (fun u : RvL X => u.1)).getD (.slice Option.none 0 0)).ownBlock = some g → B ≤ g ∧ ∀ p ∈ RV, p.1 ≠ x → p.2.1.ownBlock ≠ some g) := by
  cases hg : mget RV x with
  | none => exact ⟨OwnL.nil, fun g hg => by simp [Value.ownBlock] at hg⟩
  | some u =>
    have hm := mget_mem hg
    exact ⟨h.own _ hm, fun g hg => ⟨h.low _ hm g hg, fun p hp hne => h.apart _ hm p hp (Ne.symm hne) g hg⟩⟩
/-- A key's row has grown. -/
theorem QRows.put (h : QRows e size enc B w RV) {x : K} {v' : Value} {L' : List X} (hB : B ≤ w.heap.size) (ho : OwnL e size enc w' v' L') (hg : w.grownBy w' (((mget RV x).map (fun u : RvL X => u.1)).getD (.slice Option.none 0 0)).ownBlock)
    (hat : v'.ownBlock = (((mget RV x).map (fun u : RvL X => u.1)).getD (.slice Option.none 0 0)).ownBlock ∨ v'.ownBlock = some w.heap.size) : QRows e size enc B w' (mput RV x (v', L')) := by
  have hx := h.at_ x
  generalize (((mget RV x).map (fun u : RvL X => u.1)).getD (.slice Option.none 0 0)) = v0 at *
  have hlow : ∀ g, v'.ownBlock = some g → B ≤ g := fun g hg' => by
    rcases hat with e1 | e1
    · exact (hx.2 g (e1 ▸ hg')).1
    · rw [e1] at hg'
      injection hg' with hg'
      omega
  have hap : ∀ p ∈ RV, p.1 ≠ x → ∀ g, v'.ownBlock = some g → p.2.1.ownBlock ≠ some g := fun p hp hne g hg' => by
    rcases hat with e1 | e1
    · exact (hx.2 g (e1 ▸ hg')).2 p hp hne
    · rw [e1] at hg'
      injection hg' with hg'
      intro e2
      have := (h.own p hp).lt e2
      omega
  refine ⟨fun p hp => ?_, fun p hp => ?_, fun p hp q hq hne g hpg hqg => ?_⟩
  · rcases mem_mput.1 hp with rfl | ⟨hp', hne⟩
    · exact ho
    · refine (h.own p hp').of_block (fun g hg' => hg.block g ((h.own p hp').lt hg') (fun e2 => ?_))
      exact (hx.2 g e2.symm).2 p hp' hne hg'
  · rcases mem_mput.1 hp with rfl | ⟨hp', hne⟩
    · exact hlow
    · exact h.low p hp'
  · rcases mem_mput.1 hp with rfl | ⟨hp', hne1⟩
    · rcases mem_mput.1 hq with rfl | ⟨hq', hne2⟩
      · exact hne rfl
      · exact hap q hq' hne2 g hpg hqg
    · rcases mem_mput.1 hq with rfl | ⟨hq', hne2⟩
      · exact hap p hp' hne1 g hqg hpg
      · exact h.apart p hp' q hq' hne g hpg hqg
omit [DecidableEq K] in
/-- QRows of another type that has grown: a row of this type is none of them. -/
theorem QRows.beside (h : QRows e size enc B w RV) {Y : Type} {e2 size2 : Nat} {enc2 : Y → List Value} {v : Value} {L : List Y} (hv : OwnL e2 size2 enc2 w v L) (hne : e ≠ e2) (hg : w.grownBy w' v.ownBlock) : QRows e size enc B w' RV := by
  refine ⟨fun p hp => (h.own p hp).of_block (fun g hg' => hg.block g ((h.own p hp).lt hg') (fun e3 => ?_)), h.low, h.apart⟩
  rcases hv.2 with ⟨rfl, _⟩ | ⟨g2, cap2, cur2, rfl, _, hh2, _⟩
  · simp [Value.ownBlock] at e3
  · simp [Value.ownBlock] at e3
    subst e3
    exact (h.own p hp).ne hh2 hne hg' rfl
omit [DecidableEq K] in
theorem QRows.perm {RV' : List (K × RvL X)} (h : QRows e size enc B w RV) (p : RV.Perm RV') : QRows e size enc B w RV' :=
  ⟨fun q hq => h.own q (p.mem_iff.2 hq), fun q hq => h.low q (p.mem_iff.2 hq), fun q hq r hr => h.apart q (p.mem_iff.2 hq) r (p.mem_iff.2 hr)⟩
end
theorem shedP_mput (SV : List (IdK × RvL Mm.Iv)) (x : IdK) (u : RvL Mm.Iv) : shedP (mput SV x u) = mput (shedP SV) x.1 u.2 := by
  unfold shedP mput mdel
  rw [List.map_cons, List.filter_map]
  congr 2
  refine List.filter_congr fun e _ => ?_
  by_cases h : e.1 = x
  · simp [h]
  · have h' : e.1.1 ≠ x.1 := fun h2 => h (Subtype.ext h2)
    simp [h, h']
theorem shedJ_mput (JV : List (Int × RvL Int)) (x : Int) (u : RvL Int) : shedJ (mput JV x u) = mput (shedJ JV) x u.2 := by
  unfold shedJ mput mdel
  rw [List.map_cons, List.filter_map]
  rfl
end Go.Proofs.YtciaallekkdnhaaGreat
namespace Go.Proofs.YtciaallekkdnhaaGreat
open Go

/-- What follows a region: the walk goes on; nothing else. -/
def plainQ (Q : Exit → Act → World → Prop) : Exit → Act → World → Prop
  | .normal, a, w => Q .normal a w
  | _, _, _ => False
theorem plainQ_out {Q : Exit → Act → World → Prop} : ¬ LetsOut (plainQ Q) := fun ⟨_, _, h⟩ => h
section
variable {P : Program} {n l : Nat} {ops : Array Oper} {md : Region.Mode} {Q : Exit → Act → World → Prop}
theorem rows_wide {m : Nat} {row : String} {args : Array Value} {w : World} {R : Value → World → Prop} (h : Rows P row args w R) : RowsIn Fence.wide m P row args w R :=
  fun c cs _ => let ⟨v, w', r, s⟩ := h c cs; ⟨v, w', r, stepsIn_wide.2 s⟩
theorem wpOp_round {i : Nat} {K K' : Act → World → Prop} {a : Act} {w : World} (hd : ∀ o : Oper, ops[i]? = some o → ∀ c : Call, o.op ≠ Op.defer c) (hk : ∀ a w, K a w → K' a w) (h : wpOp P ops (plainQ Q) i K a w) : wpOpIn (Fence.wide.inRound l) n P ops Q i K' a w := by
  unfold wpOpIn
  unfold wpOp at h
  cases ho : ops[i]? with
  | none => simp only [ho] at h ⊢; exact hk _ _ h
  | some o =>
    simp only [ho] at h ⊢
    by_cases hw : Region.wanted o (yielded ops a.tmps) = true
    · simp only [hw, if_true] at h ⊢
      rcases h with h | ⟨-, h⟩
      · refine ⟨fun _ _ => trivial, ?_⟩
        unfold Oper.wp at h
        show Oper.uponIn _ _ _ _ _ _ _ ((Oper.semAt (some l) a.eval o).run P w)
        rw [Oper.semAt_some l _ _ (hd o ho)]
        generalize (execOp a.eval o).run P w = r at *
        cases r with
        | ok x w' =>
          cases x <;> simp only [Oper.upon] at h ⊢
          case value v => exact hk _ _ h
          case skip => exact hk _ _ h
          case defer d => exact hk _ _ h
          case enter f args =>
            refine ⟨fun hx => (by cases hx), CallsIn.inRound l (callsIn_wide.2 (Calls.mono h fun e w'' he => ?_))⟩
            cases e with
            | returned v => exact hk _ _ he
            | panicked c => exact he.elim
            | outgrown => exact absurd he plainQ_out
          case row row args => exact ⟨fun hx => (by cases hx), (rows_wide (Rows.mono h fun v w'' he => hk _ _ he) : RowsIn Fence.wide _ P row args w' _)⟩
        | halt x w' =>
          cases x <;> simp only [Oper.upon] at h ⊢
          case panic u => exact h.elim
      · exact absurd h plainQ_out
    · simp only [hw] at h ⊢
      exact ⟨fun _ _ => trivial, hk _ _ h⟩
theorem wpAny_round (hd : ∀ (i : Nat) (o : Oper), ops[i]? = some o → ∀ c : Call, o.op ≠ Op.defer c) : ∀ (fuel : Nat) (done : Array Bool) (a : Act) (w : World), wpAny P md ops (plainQ Q) fuel done a w → wpAnyIn (Fence.wide.inRound l) n P md ops Q fuel done a w
  | 0, _, _, _, h => h
  | f + 1, _, _, _, h => ⟨h.1, fun i hi => wpOp_round (hd i) (fun a w h => wpAny_round hd f _ a w h) (h.2 i hi)⟩
def noDefer (ops : List Oper) : Bool := ops.all fun o => match o.op with | Op.defer _ => false | _ => true
theorem noDefer_spec {L : List Oper} (h : noDefer L = true) (i : Nat) (o : Oper) (ho : L.toArray[i]? = some o) (c : Call) : o.op ≠ Op.defer c := by
  intro e
  have hm : o ∈ L := by
    rw [List.getElem?_toArray] at ho
    exact List.mem_of_getElem? ho
  have := List.all_eq_true.1 h o hm
  rw [e] at this
  cases this
/-- THE BEGINNING. -/
theorem wpIn_region_heldP {id : Nat} {a : Act} {w : World} {L : List Oper} (S : World → Prop) (hm : P.follows .mixedOrders = true) (hd : noDefer L = true) (hS : S w.drew)
    (h : S w.drew → wpAnyH P .any L.toArray (plainQ Q) S L.length (Array.replicate L.length false) a w.drew) : (Code.region id L.toArray true).wpIn (Fence.wide.inRound l) n P Q a w := by
  refine wpIn_region_any hm (wpAny_round (noDefer_spec hd) _ _ _ _ (wpAny_of_held (S := S) _ _ _ _ ?_))
  have := h hS
  simpa using this
end
end Go.Proofs.YtciaallekkdnhaaGreat
namespace Go.Proofs.YtciaallekkdnhaaGreat
open Go

section
variable {P : Program} {n : Nat} {ops : Array Oper} {md : Region.Mode} {Q : Exit → Act → World → Prop}
theorem wpOp_outer {i : Nat} {K K' : Act → World → Prop} {a : Act} {w : World} (hk : ∀ a w, K a w → K' a w) (h : wpOp P ops (plainQ Q) i K a w) : wpOpIn (Fence.wide) n P ops Q i K' a w := by
  unfold wpOpIn
  unfold wpOp at h
  cases ho : ops[i]? with
  | none => simp only [ho] at h ⊢; exact hk _ _ h
  | some o =>
    simp only [ho] at h ⊢
    by_cases hw : Region.wanted o (yielded ops a.tmps) = true
    · simp only [hw, if_true] at h ⊢
      rcases h with h | ⟨-, h⟩
      · refine ⟨fun _ _ => trivial, ?_⟩
        unfold Oper.wp at h
        show Oper.uponIn _ _ _ _ _ _ _ ((execOp a.eval o).run P w)
        generalize (execOp a.eval o).run P w = r at *
        cases r with
        | ok x w' =>
          cases x <;> simp only [Oper.upon] at h ⊢
          case value v => exact hk _ _ h
          case skip => exact hk _ _ h
          case defer d => exact hk _ _ h
          case enter f args =>
            refine ⟨fun hx => (by cases hx), callsIn_wide.2 (Calls.mono h fun e w'' he => ?_)⟩
            cases e with
            | returned v => exact hk _ _ he
            | panicked c => exact he.elim
            | outgrown => exact absurd he plainQ_out
          case row row args => exact ⟨fun hx => (by cases hx), (rows_wide (Rows.mono h fun v w'' he => hk _ _ he) : RowsIn Fence.wide _ P row args w' _)⟩
        | halt x w' =>
          cases x <;> simp only [Oper.upon] at h ⊢
          case panic u => exact h.elim
      · exact absurd h plainQ_out
    · simp only [hw] at h ⊢
      exact ⟨fun _ _ => trivial, hk _ _ h⟩
theorem wpAny_outer : ∀ (fuel : Nat) (done : Array Bool) (a : Act) (w : World), wpAny P md ops (plainQ Q) fuel done a w → wpAnyIn (Fence.wide) n P md ops Q fuel done a w
  | 0, _, _, _, h => h
  | f + 1, _, _, _, h => ⟨h.1, fun i hi => wpOp_outer (fun a w h => wpAny_outer f _ a w h) (h.2 i hi)⟩
/-- THE BEGINNING. -/
theorem wpIn_region_heldO {id : Nat} {a : Act} {w : World} {L : List Oper} (S : World → Prop) (hm : P.follows .mixedOrders = true) (hS : S w.drew)
    (h : S w.drew → wpAnyH P .any L.toArray (plainQ Q) S L.length (Array.replicate L.length false) a w.drew) : (Code.region id L.toArray true).wpIn (Fence.wide) n P Q a w := by
  refine wpIn_region_any hm (wpAny_outer _ _ _ _ (wpAny_of_held (S := S) _ _ _ _ ?_))
  have := h hS
  simpa using this
end
end Go.Proofs.YtciaallekkdnhaaGreat
namespace Go.Proofs.YtciaallekkdnhaaGreat
open Go.RowKit

section
variable {P : Program} {ops : Array Oper} {md : Region.Mode} {C : World → Prop}
/-- Some operations of the head are still to come: whichever may come up is one of the head. -/
def HeadQ (P : Program) (md : Region.Mode) (ops : Array Oper) (C : World → Prop) (n : Nat) (L : Array Bool → Act → Prop) : Nat → Array Bool → Act → Prop
  | 0, done, a => L done a
  | f + 1, done, a => Region.ready md ops done ≠ [] ∧ ∀ i ∈ Region.ready md ops done, i < n ∧ qOp P ops C i (HeadQ P md ops C n L f (done.setIfInBounds i true)) a

theorem HeadQ.any {n g : Nat} {L : Array Bool → Act → Prop} {Q' : Exit → Act → World → Prop} (hL : ∀ done a w, C w → L done a → wpAny P md ops Q' g done a w) :
    ∀ (f : Nat) (done : Array Bool) (a : Act) (w : World), C w → HeadQ P md ops C n L f done a → wpAny P md ops Q' (f + g) done a w := by
  intro f
  induction f with
  | zero => intro done a w hw h; rw [Nat.zero_add]; exact hL _ _ _ hw h
  | succ f ih =>
    intro done a w hw h
    rw [Nat.add_right_comm]
    exact ⟨fun h0 => absurd h0 h.1, fun i hi => wpOp_of_qOp hw (fun a' w' hw' h' => ih _ a' w' hw' h') (h.2 i hi).2⟩

theorem HeadQ.first {n i : Nat} {oi : Oper} {v : Value} {L : Array Bool → Act → Prop} (hi : ops[i]? = some oi) (hsel : ∀ (j : Nat) (o : Oper) cs b, ops[j]? = some o → o.op ≠ .select cs b)
    (hs : Region.sinkB md ops n = true) (hc : Region.chainB md ops n = true) (hn : n < ops.size) (hin : i < n) (hend : ∀ done a, L done a → ∀ j ∈ Region.ready md ops done, n ≤ j) :
    ∀ (f : Nat) (done : Array Bool) (a : Act), HeadInv md ops n done →
      (∀ j oj, ops[j]? = some oj → j ≠ i → done.getD j true = false → (∀ e ∈ oj.after, Region.binds md e = true → e.on ≠ i) → oi.apart ops oj = true) →
      i ∈ Region.ready md ops done → YieldsIn P ops C oi v a → HeadQ P md ops C n L f (done.setIfInBounds i true) (a.put oi.dst v) → HeadQ P md ops C n L (f + 1) done a := by
  intro f
  induction f with
  | zero =>
    intro done a inv _ hr hy H
    have hun := (mem_ready.1 hr).1
    refine ⟨List.ne_nil_of_mem hr, fun j hj => ?_⟩
    have hjn : j < n := Nat.lt_of_not_le fun h => tail_waits hs hc hn inv _ i rfl hin hun j h hj
    refine ⟨hjn, ?_⟩
    by_cases e : j = i
    · subst e
      exact hy.qOp hi H
    · exact absurd (hend _ _ H j (ready_mono hj e)) (by omega)
  | succ f ih =>
    intro done a inv hfree hr hy H
    have hun := (mem_ready.1 hr).1
    refine ⟨List.ne_nil_of_mem hr, fun j hj => ?_⟩
    have hjn : j < n := Nat.lt_of_not_le fun h => tail_waits hs hc hn inv _ i rfl hin hun j h hj
    refine ⟨hjn, ?_⟩
    by_cases e : j = i
    · subst e
      exact hy.qOp hi H
    · obtain ⟨hjun, oj, hoj, hall⟩ := mem_ready.1 hj
      have hnot : ∀ e ∈ oj.after, Region.binds md e = true → e.on ≠ i := by
        intro x hx hb hxi
        have h1 := hall x hx hb
        rw [hxi, getD_both hun] at h1
        cases h1
      have hsw := qOp_put hoj (hfree j oj hoj e hjun hnot) (fun cs b => hsel i oi cs b hi) (fun cs b => hsel j oj cs b hoj) hy (H.2 j (ready_mono hj e)).2
      refine qOp_mono (fun a' h3 => ?_) hsw
      refine ih (done.setIfInBounds j true) a' (inv.set hj hjn) ?_ (ready_mono hr (Ne.symm e)) h3.1 ?_
      · intro k ok hk hki hkun hkn
        refine hfree k ok hk hki ?_ hkn
        by_cases hjk : j = k
        · subst hjk
          exact hjun
        · rwa [getD_set_ne true hjk] at hkun
      · rw [Array.setIfInBounds_comm _ _ e]
        exact h3.2

theorem HeadQ.lex {n g : Nat} {L : Act → Prop} (hsel : Region.noSelect ops = true) (hs : Region.sinkB md ops n = true) (hc : Region.chainB md ops n = true) (hn : n < ops.size) :
    ∀ (l : List Oper) (k : Nat) (done : Array Bool) (a : Act), (∀ j, j < l.length → l[j]? = ops[k + j]?) → k + l.length = n → HeadInv md ops n done → Region.lexHead md ops g l.length k done = true →
      wpQuiet P ops C L l a → HeadQ P md ops C n (fun d a' => Region.seqB md ops g n d = true ∧ L a') l.length done a := by
  intro l
  induction l with
  | nil =>
    intro k done a _ hk _ hB h
    have : k = n := by simpa using hk
    subst this
    exact ⟨by simpa [Region.lexHead] using hB, h⟩
  | cons o l ih =>
    intro k done a hl hk inv hB h
    have h0 : ops[k]? = some o := by simpa using (hl 0 (by simp)).symm
    simp only [List.length_cons, Region.lexHead, Bool.and_eq_true] at hB
    obtain ⟨⟨hr, hf⟩, hB'⟩ := hB
    have hkn : k < n := by simp only [List.length_cons] at hk; omega
    have hr' : k ∈ Region.ready md ops done := by simpa using hr
    have hq : qOp P ops C k (wpQuiet P ops C L l) a := by unfold qOp; simp only [h0]; exact h
    obtain ⟨v, hy, hK⟩ := yieldsIn_of_qOp h0 hq
    refine HeadQ.first h0 (Region.noSelect_spec hsel) hs hc hn hkn (fun d a' hL => seqB_ready hL.1) l.length done a inv (Region.free_spec h0 hf) hr' hy (ih (k + 1) _ _ (fun j hj => ?_) ?_ (inv.set hr' hkn) hB' hK)
    · have := hl (j + 1) (by simp; omega)
      simpa [Nat.add_assoc, Nat.add_comm 1 j] using this
    · simp only [List.length_cons] at hk
      omega

theorem wp_region_quiet_tail {id : Nat} {Q : Exit → Act → World → Prop} {a : Act} {w : World} {l : List Oper} (n : Nat) (hm : P.follows .mixedOrders = true) (hB : Region.lexTailB .any l.toArray n = true) (hC : C { w with drawn := w.drawn + 1 })
    (h : wpQuiet P l.toArray C (fun a' => ∀ w', C w' → wpList P l.toArray Q (l.drop n) a' w') (l.take n) a) : (Code.region id l.toArray true).wp P Q a w := by
  simp only [Region.lexTailB, Bool.and_eq_true, decide_eq_true_eq] at hB
  obtain ⟨⟨⟨⟨hsel, hn⟩, hs⟩, hc⟩, hlex⟩ := hB
  have hn' : n < l.length := by simpa using hn
  have htl : (l.take n).length = n := by rw [List.length_take]; omega
  have hdl : (l.drop n).length = l.toArray.size - n := by simp
  have inv0 : HeadInv .any l.toArray n (Array.replicate l.toArray.size false) :=
    ⟨by simp, fun j oj _ hl => (by rw [getD_replicate_false] at hl; cases hl), fun t _ ht => getD_in (by simpa using ht) (getD_replicate_false _ _)⟩
  have H := HeadQ.lex (P := P) (C := C) (md := .any) (g := l.toArray.size - n) (L := fun a' => ∀ w', C w' → wpList P l.toArray Q (l.drop n) a' w') hsel hs hc hn (l.take n) 0 _ a
    (fun j hj => by rw [htl] at hj; simp [hj]) (by simpa using htl) inv0 (by rw [htl]; exact hlex) h
  refine wp_region_any hm ?_
  have H2 := HeadQ.any (Q' := Q) (g := l.toArray.size - n) (fun d a' w' hw' hL => by
    have h1 := wpAny_of_seq (md := .any) (Q' := Q) (l.drop n) n d a' w' (fun j => by simp [List.getElem?_drop]) (by rw [hdl]; exact hL.1) (hL.2 w' hw')
    rwa [hdl] at h1) _ _ _ _ hC H
  rw [htl, show n + (l.toArray.size - n) = l.toArray.size by omega] at H2
  exact H2
end
end Go.Proofs.YtciaallekkdnhaaGreat
namespace Go.Proofs.YtciaallekkdnhaaGreat
open Go.RowKit Go.Sort

/-- How two rows stand to each other: by the column, then by the key. -/
def cmpRow (c : Int) (a b : RowV) : Int := if cmpI (a.value c) (b.value c) = 0 then cmpI a.k b.k else cmpI (a.value c) (b.value c)

theorem grown3 {W W2 : World} (nq : Nat) (osq : Array Obj) (o : Obj) (h : ∃ q os, W2 = grow (W.drewN q) os) : ∃ q os, (grow (W2.drewN nq) osq).alloc o = grow (W.drewN q) os := by
  obtain ⟨q, os, rfl⟩ := h
  refine ⟨q + nq, os ++ osq ++ #[o], ?_⟩
  rw [alloc_eq_grow]
  show grow (grow (grow ((W.drewN q).drewN nq) os) osq) _ = _
  rw [grow_grow, grow_grow, World.drewN_drewN, Array.append_assoc]
theorem value5 (t k x y z c : Int) (w : World) : Calls Tryz.prog 66 #[.agg #[.int .i64 t, .int .i64 k, .int .i64 x, .int .i64 y, .int .i64 z], .int .i64 c] w fun e w' => e = .returned (.int .i64 (RowV.value ⟨t, k, x, y, z⟩ c)) ∧ w' = w.alloc (.cells #[.int .i64 t, .int .i64 k, .int .i64 x, .int .i64 y, .int .i64 z] 116) := value_any ⟨t, k, x, y, z⟩ c w

set_option maxRecDepth 100000 in
set_option maxHeartbeats 2000000 in
theorem cmp_any (c : Int) (r1 r2 : RowV) (gc : Nat) (W : World) (hc : W.cell? ⟨gc, 0, none⟩ = some (.int .i64 c)) :
    Calls Tryz.prog 130 #[r1.val, r2.val, .pointer (some ⟨gc, 0, none⟩)] W fun e w' => e = .returned (.int .i64 (cmpRow c r1 r2)) ∧ ∃ q os, w' = grow (W.drewN q) os := by
  have hgl := World.block_lt_of_cell? W _ hc
  have HV := Lib.hid value5
  have HCM := Lib.hid compare_any
  have hb1 := (Blk.new W 116 r1.cells.toArray).alloc (.cells r2.cells.toArray 116)
  have hb2 := Blk.new (W.alloc (.cells r1.cells.toArray 116)) 116 r2.cells.toArray
  have hc2 : ((W.alloc (.cells r1.cells.toArray 116)).alloc (.cells r2.cells.toArray 116)).cell? ⟨gc, 0, none⟩ = some (.int .i64 c) := by
    rw [World.cell?_alloc_lt _ _ _ (by simpa using Nat.lt_succ_of_lt hgl), World.cell?_alloc_lt _ _ _ (by simpa using hgl)]
    exact hc
  have hW : ∃ q os, (W.alloc (.cells r1.cells.toArray 116)).alloc (.cells r2.cells.toArray 116) = grow (W.drewN q) os := ⟨0, _, by rw [alloc_eq_grow, alloc_eq_grow, grow_grow]; rfl⟩
  have HW := Lib.hid hW
  clear hW hc
  unfold cmpRow
  go_enter Tryz.func130, Tryz.ntmps130
  go_wp2_with fail
  rw [World.size_alloc] at hb2
  generalize (W.alloc (.cells r1.cells.toArray 116)).alloc (.cells r2.cells.toArray 116) = W2 at *
  obtain ⟨t1, k1, x1, y1, z1⟩ := r1
  obtain ⟨t2, k2, x2, y2, z2⟩ := r2
  have hl1 := hb1.lt
  have hl2 := hb2.lt
  have hl0 := World.block_lt_of_cell? W2 _ hc2
  have q0 : ∀ n os, (grow (W2.drewN n) os).cell? ⟨gc, 0, none⟩ = some (.int .i64 c) := cell_grown hl0 hc2
  have a0 : ∀ n os, (grow (W2.drewN n) os).cell? ⟨W.heap.size, 0, none⟩ = some (.int .i64 t1) := cell_grown hl1 (hb1.cell 0)
  have a1 : ∀ n os, (grow (W2.drewN n) os).cell? ⟨W.heap.size, 1, none⟩ = some (.int .i64 k1) := cell_grown hl1 (hb1.cell 1)
  have a2 : ∀ n os, (grow (W2.drewN n) os).cell? ⟨W.heap.size, 2, none⟩ = some (.int .i64 x1) := cell_grown hl1 (hb1.cell 2)
  have a3 : ∀ n os, (grow (W2.drewN n) os).cell? ⟨W.heap.size, 3, none⟩ = some (.int .i64 y1) := cell_grown hl1 (hb1.cell 3)
  have a4 : ∀ n os, (grow (W2.drewN n) os).cell? ⟨W.heap.size, 4, none⟩ = some (.int .i64 z1) := cell_grown hl1 (hb1.cell 4)
  have b0 : ∀ n os, (grow (W2.drewN n) os).cell? ⟨W.heap.size + 1, 0, none⟩ = some (.int .i64 t2) := cell_grown hl2 (hb2.cell 0)
  have b1 : ∀ n os, (grow (W2.drewN n) os).cell? ⟨W.heap.size + 1, 1, none⟩ = some (.int .i64 k2) := cell_grown hl2 (hb2.cell 1)
  have b2 : ∀ n os, (grow (W2.drewN n) os).cell? ⟨W.heap.size + 1, 2, none⟩ = some (.int .i64 x2) := cell_grown hl2 (hb2.cell 2)
  have b3 : ∀ n os, (grow (W2.drewN n) os).cell? ⟨W.heap.size + 1, 3, none⟩ = some (.int .i64 y2) := cell_grown hl2 (hb2.cell 3)
  have b4 : ∀ n os, (grow (W2.drewN n) os).cell? ⟨W.heap.size + 1, 4, none⟩ = some (.int .i64 z2) := cell_grown hl2 (hb2.cell 4)
  clear hb1 hb2 hc2 hgl hl0 hl1 hl2
  refine wp_region_quiet_tail (C := fun w' => ∃ p : GrownBy, w' = grow (W2.drewN p.n) p.os) 12 (by kernel_rfl) (by kernel_rfl) ⟨⟨1, #[]⟩, by rw [grow_empty]; rfl⟩ ?_
  simp only [List.take_succ_cons, List.take_zero, List.drop_succ_cons, List.drop_zero]
  repeat (quiet_step (first
    | exact Calls.grown_of ((HV.out _ _ _ _ _ _ _).mono fun e w'' h => ⟨h.1, 0, _, h.2.trans (alloc_eq_grow _ _)⟩)
    | exact Calls.grown_of ((HCM.out _ _ _).mono fun e w'' h => ⟨h.1, 0, #[], h.2.trans (grow_empty _).symm⟩)))
  refine wpQuiet_nil ?_
  intro w' hw'
  obtain ⟨⟨nq, osq⟩, rfl⟩ := hw'
  dsimp only
  go_wp2_with fail
  have hsz : (grow (W2.drewN nq) osq).heap.size = W2.heap.size + osq.size := by simp [grow]
  have hnb := Blk.new (grow (W2.drewN nq) osq) 3 #[.int .i64 (cmpI (RowV.value ⟨t1, k1, x1, y1, z1⟩ c) (RowV.value ⟨t2, k2, x2, y2, z2⟩ c)), .int .i64 (cmpI k1 k2)]
  rw [hsz] at hnb
  refine (or_any (cmpI (RowV.value ⟨t1, k1, x1, y1, z1⟩ c) (RowV.value ⟨t2, k2, x2, y2, z2⟩ c)) (cmpI k1 k2) (W2.heap.size + osq.size) 2 _ (hnb.cell 0) (hnb.cell 1)).mono ?_
  rintro e w'' ⟨rfl, rfl⟩
  go_wp2_with fail
  all_goals
    go_ret
    exact ⟨rfl, grown3 _ _ _ HW.out⟩
end Go.Proofs.YtciaallekkdnhaaGreat
