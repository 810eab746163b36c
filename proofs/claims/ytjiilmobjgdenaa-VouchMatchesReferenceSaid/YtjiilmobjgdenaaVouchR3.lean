/-
  The reference clock's Applied.
-/
import Derived.Test.YtjiilmobjgdenaaVouchR2
namespace Go.Proofs.Ytjiilmobjgdenaa
open Go.RowKit

namespace Rm
def kept (p : Int) (L : List (Int × Int)) (i : Nat) : List (Int × Int) := (L.take i).filter fun e => decide (p < e.1)
theorem kept_yes {p : Int} {L : List (Int × Int)} {i : Nat} (h : i < L.length) (hp : p < L[i].1) : kept p L (i + 1) = kept p L i ++ [L[i]] := by
  unfold kept
  rw [List.take_succ_eq_append_getElem h, List.filter_append, List.filter_cons_of_pos (by simpa using hp)]
  rfl
theorem kept_no {p : Int} {L : List (Int × Int)} {i : Nat} (h : i < L.length) (hp : L[i].1 ≤ p) : kept p L (i + 1) = kept p L i := by
  unfold kept
  rw [List.take_succ_eq_append_getElem h, List.filter_append, List.filter_cons_of_neg (by simp; omega)]
  simp
theorem kept_len (p : Int) (L : List (Int × Int)) (i : Nat) : (kept p L i).length ≤ i := by
  unfold kept
  exact Nat.le_trans (List.length_filter_le _ _) (by rw [List.length_take]; omega)
theorem upTo_yes {p a : Int} {L : List (Int × Int)} {i : Nat} (h : i < L.length) (hp : L[i].1 ≤ p) : Vm.upTo p a (L.take (i + 1)) = Vm.isMax (Vm.upTo p a (L.take i)) L[i].2 := by
  rw [List.take_succ_eq_append_getElem h, Vm.upTo_snoc, if_pos hp]
theorem upTo_no {p a : Int} {L : List (Int × Int)} {i : Nat} (h : i < L.length) (hp : p < L[i].1) : Vm.upTo p a (L.take (i + 1)) = Vm.upTo p a (L.take i) := by
  rw [List.take_succ_eq_append_getElem h, Vm.upTo_snoc, if_neg (by omega)]
/-- The reference clock after 'Applied'. -/
def applied (r : Rm.Clk) (p : Int) : Rm.Clk := if p ≤ r.pos then r else ⟨p, Vm.upTo p r.time r.L, r.lp, r.lt, r.L.filter fun e => decide (p < e.1)⟩
end Rm

/-- At the loop's head. -/
structure RApp (w wr : World) (b : Nat) (v kv : Value) (r : Rm.Clk) (p : Int) (i : Nat) : Prop where
  ref : RefAt wr b v ⟨p, Vm.upTo p r.time (r.L.take i), r.lp, r.lt, r.L⟩
  row : Brow wr kv (Rm.kept p r.L i)
  fr : Fr [b] w wr
  fresh : ∀ g, kv.ownBlock = some g → w.heap.size ≤ g

theorem rapp_time {w wr W : World} {b : Nat} {v kv : Value} {r : Rm.Clk} {p : Int} {i : Nat} (R : RApp w wr b v kv r p i) (h : i < r.L.length) (hp : r.L[i].1 ≤ p)
    (hW : W = (wr.drew.setCell ⟨b, 1, none⟩ (.int .i64 (Vm.isMax (Vm.upTo p r.time (r.L.take i)) r.L[i].2))) ∨ W = (wr.setCell ⟨b, 1, none⟩ (.int .i64 (Vm.isMax (Vm.upTo p r.time (r.L.take i)) r.L[i].2))).drew) : RApp w W b v kv r p (i + 1) := by
  have hF : Fr [b] wr W := by
    rcases hW with rfl | rfl
    · exact ((Fr.refl _ _).drew).setCell (.inl (by simp)) _
    · exact ((Fr.refl _ _).setCell (.inl (by simp)) _).drew
  have hB : Blk W b 40 #[.int .i64 p, .int .i64 (Vm.upTo p r.time (r.L.take (i + 1))), .int .i64 r.lp, .int .i64 r.lt, v] := by
    rw [Rm.upTo_yes h hp]
    rcases hW with rfl | rfl
    · exact (R.ref.blk.drew).set_ 1 _
    · exact (R.ref.blk.set_ 1 _).drew
  refine ⟨⟨hB, R.ref.row.fr hF (fun g hg => by simpa using R.ref.row.ne R.ref.blk (by decide) hg)⟩, ?_, R.fr.trans hF, R.fresh⟩
  rw [Rm.kept_no h hp]
  exact R.row.fr hF (fun g hg => by simpa using R.row.ne R.ref.blk (by decide) hg)

theorem rapp_keep {w wr W : World} {b : Nat} {v kv kv' : Value} {r : Rm.Clk} {p : Int} {i : Nat} (hvb : ∀ g, v.ownBlock = some g → g < w.heap.size) (R : RApp w wr b v kv r p i) (hb : b < w.heap.size) (h : i < r.L.length) (hp : p < r.L[i].1) (o : Obj)
    (hrow : Brow W kv' (Rm.kept p r.L i ++ [r.L[i]])) (hg : (wr.alloc o).grownBy W kv.ownBlock) (hat : kv'.ownBlock = kv.ownBlock ∨ kv'.ownBlock = some (wr.alloc o).heap.size) : RApp w W b v kv' r p (i + 1) := by
  have hs := R.fr.size
  have hF : Fr kv.ownBlock.toList wr W := ((Fr.refl _ _).alloc o).grown hg (fun g hg => .inl (by simp [hg]))
  refine ⟨?_, by rw [Rm.kept_yes h hp]; exact hrow, R.fr.trans' hF (fun g hg => ?_), fun g hg => ?_⟩
  · rw [Rm.upTo_no h hp]
    refine R.ref.fr hF (fun g hg hg2 => ?_)
    have hg3 : kv.ownBlock = some g := by simpa using hg2
    have h1 := R.fresh g hg3
    simp only [fpR, List.mem_cons, Option.mem_toList] at hg
    rcases hg with rfl | hg
    · omega
    · have := hvb g hg; omega
  · have hg3 : kv.ownBlock = some g := by simpa using hg
    exact .inr (R.fresh g hg3)
  · rcases hat with h1 | h1
    · exact R.fresh g (h1 ▸ hg)
    · rw [h1] at hg; injection hg with hg; simp at hg; omega

set_option maxRecDepth 100000 in
set_option maxHeartbeats 2000000 in
theorem rapplied_any (b : Nat) (v : Value) (r : Rm.Clk) (p : Int) (w : World) (href : RefAt w b v r) (hlen : r.L.length ≤ 64) :
    Calls Try.prog 12 #[.pointer (some ⟨b, 0, none⟩), .int .i64 p] w fun e w' => e = .returned (.tuple #[]) ∧ ∃ v', RefAt w' b v' (Rm.applied r p) ∧ Fr (fpR b v) w w' ∧ (v'.ownBlock = v.ownBlock ∨ ∀ g, v'.ownBlock = some g → w.heap.size ≤ g) := by
  have c0 : w.cell? ⟨b, 0, none⟩ = some (.int .i64 r.pos) := href.blk.cell 0
  have f0 := href.blk.frozen 0
  by_cases hpp : p ≤ r.pos
  · have E := Lib.hid (show Rm.applied r p = r from if_pos hpp)
    go_enter Try.func12, Try.ntmps12
    go_wp2_with fail
    refine bodyPost_ret (results_none rfl _ _ _) rfl ?_
    exact ⟨rfl, v, by rw [E.out]; exact href, Fr.refl _ _, .inl rfl⟩
  · have E := Lib.hid (show Rm.applied r p = ⟨p, Vm.upTo p r.time r.L, r.lp, r.lt, r.L.filter fun e => decide (p < e.1)⟩ from if_neg hpp)
    obtain ⟨i0, TB⟩ := etB
    have hvb : Hid (∀ g, v.ownBlock = some g → g < w.heap.size) := Lib.hid fun g hg => href.row.lt hg
    have hb := href.blk.lt
    have c4w : w.cell? ⟨b, 4, none⟩ = some v := href.blk.cell 4
    have hlenV : ∃ A cap, v = .slice A r.L.length cap := href.row.val
    obtain ⟨A, cap, hva⟩ := hlenV
    subst hva
    go_enter Try.func12, Try.ntmps12
    go_wp2_with fail
    go_loopw [4, 5] (fun s4 s5 wr => ∃ (i : Nat) (A4 : Option Addr) (n4 cap4 : Nat), i ≤ r.L.length ∧ s4 = .slice A4 n4 cap4 ∧ s5 = .int .i64 i ∧ Hid (RApp w wr b (.slice A r.L.length cap) (.slice A4 n4 cap4) r p i)) (fun _ s5 _ => r.L.length - (intOf s5).toNat)
    case atStart =>
      refine ⟨0, none, 0, 0, Nat.zero_le _, rfl, rfl, Lib.hid ⟨⟨href.blk.set_ 0 _, ?_⟩, OwnL.nil, (Fr.refl _ _).setCell (.inl (by simp)) _, fun g hg => by simp [Value.ownBlock] at hg⟩⟩
      exact href.row.fr ((Fr.refl [b] _).setCell (.inl (by simp)) _) (fun g hg => by simpa using href.row.ne href.blk (by decide) hg)
    case round =>
      obtain ⟨i, A4, n4, cap4, hil, rfl, rfl, hR⟩ := hrel
      obtain ⟨T, hT⟩ : ∃ T, T = Vm.upTo p r.time (r.L.take i) := ⟨_, rfl⟩
      have c0 : wr.cell? ⟨b, 0, none⟩ = some (.int .i64 p) := hR.out.ref.blk.cell 0
      have c1 : wr.cell? ⟨b, 1, none⟩ = some (.int .i64 T) := hT ▸ hR.out.ref.blk.cell 1
      have c4 : wr.cell? ⟨b, 4, none⟩ = some (.slice A r.L.length cap) := hR.out.ref.blk.cell 4
      have g1 := hR.out.ref.blk.frozen 1
      have g4 := hR.out.ref.blk.frozen 4
      have HT := Lib.hid hT
      clear hT
      by_cases hlt : i < r.L.length
      · obtain ⟨gR, cap', hA, hlc, hcm, hgl, hcell, hfz⟩ := hR.out.ref.row.form encB_len (by show 0 < r.L.length; omega)
        have hA' : A = some ⟨gR, 0, none⟩ := by injection hA
        subst hA'
        have d0 : wr.cell? ⟨gR, i * 2, none⟩ = some (.int .i64 (r.L[i]).1) := hcell i hlt 0 (by decide)
        have d1 : wr.cell? ⟨gR, i * 2 + 1, none⟩ = some (.int .i64 (r.L[i]).2) := hcell i hlt 1 (by decide)
        obtain ⟨x, hx⟩ : ∃ x, r.L[i] = x := ⟨_, rfl⟩
        rw [hx] at d0 d1
        have HX := Lib.hid hx
        clear hx hcell hfz hA
        obtain ⟨x0, x1⟩ := x
        simp only at d0 d1
        have b1 : (0 : Int) ≤ (i : Int) := by omega
        have b2 : (i : Int) < (r.L.length : Int) := by omega
        by_cases hxp : x0 ≤ p
        · obtain ⟨V, hVif⟩ : ∃ V, (if T < x1 then x1 else T) = V := ⟨_, rfl⟩
          have HV : Hid (V = Vm.isMax T x1) := hVif.symm
          go_wp2_with fail
          go_still_tail 16, (by kernel_rfl)
          change wpList _ _ _ _ _ wr.drew
          clear hVif
          go_wp2_with fail
          have R' := Lib.hid (rapp_time (W := wr.drew.setCell ⟨b, 1, none⟩ (.int .i64 V)) hR.out hlt (by rw [HX.out]; exact hxp) (.inl (by rw [HX.out, HV.out, HT.out])))
          go_roundw
          case rel => exact ⟨i + 1, A4, n4, cap4, by omega, rfl, by go_num, R'⟩
          case measure => simp [intOf]; omega
        · go_wp2_with (at_builtin; refine wpList_appendL rfl _ _ rfl TB encB_len encB_one rfl (hR.out.row.fr (S := []) ((Fr.refl _ _).alloc _) (by simp)) (wr.heap.size + 1) _ _ _ [(x0, x1)] rfl rfl (reads_new (enc := encB) wr 37 (x0, x1) rfl) (by have := Rm.kept_len p r.L i; have : (65 : Nat) ≤ maxLen := (by decide); simp only [List.length_singleton]; omega) (by have := Rm.kept_len p r.L i; simp only [List.length_singleton]; omega) ?_; intro v5 w5 hrow5 hg5 hat5; obtain ⟨A5, n5, cap5, hv5⟩ : ∃ A n c, v5 = .slice A n c := (match hrow5.val with | ⟨_, _, hv⟩ => ⟨_, _, _, hv⟩); subst hv5; have HR5 := Lib.hid hrow5; have HG5 := Lib.hid hg5; have HA5 := Lib.hid hat5; clear hrow5 hg5 hat5)
          have R' := Lib.hid (rapp_keep hvb.out hR.out hb hlt (by rw [HX.out]; show p < x0; omega) _ (by rw [HX.out]; exact HR5.out) HG5.out HA5.out)
          go_roundw
          case rel => exact ⟨i + 1, A5, n5, cap5, by omega, rfl, by go_num, R'⟩
          case measure => simp [intOf]; omega
      · have hie : i = r.L.length := by omega
        subst hie
        go_wp2_with fail
        go_end0
        have e1 : Rm.kept p r.L r.L.length = r.L.filter fun e => decide (p < e.1) := by unfold Rm.kept; rw [List.take_length]
        have hr := hR.out.row
        have hrf := hR.out.ref
        rw [e1] at hr
        rw [List.take_length] at hrf
        refine ⟨rfl, _, by rw [E.out]; exact ⟨hrf.blk.set_ 4 _, hr.fr (S := [b]) ((Fr.refl _ _).setCell (.inl (by simp)) _) (fun g hg => by simpa using hr.ne hrf.blk (by decide) hg)⟩, (hR.out.fr.mono (by simp [fpR])).setCell (.inl (by simp [fpR])) _, .inr fun g hg => hR.out.fresh g hg⟩
end Go.Proofs.Ytjiilmobjgdenaa
