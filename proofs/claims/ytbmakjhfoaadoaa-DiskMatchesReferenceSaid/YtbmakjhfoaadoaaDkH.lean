/-
  Contracts of package disk: Sync.
-/
import Derived.Test.YtbmakjhfoaadoaaDkG
namespace Go.Proofs.Ytbmakjhfoaadoaa
open Go.RowKit

def Dm.syncCode (d : Dm.Dk) : Int := if d.off = true then 221 else 0
set_option maxRecDepth 100000 in
set_option maxHeartbeats 2000000 in
theorem sync_any (b gs gv : Nat) (vp : Value) (d : Dm.Dk) (w : World) (h : DiskAt w b gs gv vp d) : Calls Try.prog 23 #[.pointer (some ⟨b, 0, none⟩)] w fun e w' =>
    e = .returned (.int .i64 (Dm.syncCode d)) ∧ ∃ vp', DiskAt w' b gs gv vp' (Dm.sync d) ∧ Fr (b :: gs :: vp.ownBlock.toList) w w' ∧ ∀ g, vp'.ownBlock = some g → vp.ownBlock = some g ∨ w.heap.size ≤ g := by
  have HCK := Lib.hid (check_any b gs gv vp d w h)
  have HS : Hid (Dm.sync d = if d.off = true then d else { d with sure := d.vis, pend := [] }) := Lib.hid rfl
  have HC : Hid (Dm.syncCode d = if d.off = true then 221 else 0) := Lib.hid rfl
  have HOK := Lib.hid h.ok.sync
  have H := Lib.hid h
  obtain ⟨A, cap, hv⟩ := h.pend.val
  subst hv
  have hbD : Blk w b 65 #[.bool d.off, .int .i64 d.left, .slice (some ⟨gs, 0, none⟩) d.sure.length d.sure.length, .slice (some ⟨gv, 0, none⟩) d.sure.length d.sure.length, .slice A d.pend.length cap] := h.blk
  have c2 : w.cell? ⟨b, 2, none⟩ = some (.slice (some ⟨gs, 0, none⟩) d.sure.length d.sure.length) := hbD.cell 2
  have c3 : w.cell? ⟨b, 3, none⟩ = some (.slice (some ⟨gv, 0, none⟩) d.sure.length d.sure.length) := hbD.cell 3
  have HST := Lib.hid (settle_any b gv gs d.vis d.sure d.sure.length (.bool d.off) (.int .i64 d.left) (.slice (some ⟨gs, 0, none⟩) d.sure.length d.sure.length) (.slice (some ⟨gv, 0, none⟩) d.sure.length d.sure.length) A d.pend.length cap d.pend w.drew hbD.drew h.vis.drew h.sure.drew h.ok.vis_len rfl h.ok.n2 (h.pend.fr (Fr.refl [] w).drew (by simp)))
  clear h hbD
  cases hd : d.off
  · have E1 : Hid (Dm.sync d = { d with sure := d.vis, pend := [] }) := Lib.hid (by rw [HS.out, hd]; rfl)
    have E2 : Hid (Dm.syncCode d = 0) := Lib.hid (by rw [HC.out, hd]; rfl)
    have HDF := Lib.hid hd
    rw [hd] at HCK
    clear hd
    go_enter Try.func23, Try.ntmps23
    go_upto_region 3 with (go_at_call 28; refine HCK.out.mono ?_; rintro e w' ⟨rfl, rfl⟩)
    go_still_tail 9, (by kernel_rfl)
    change wpList _ _ _ _ _ w.drew
    go_wp2_with fail
    refine HST.out.mono ?_
    rintro e w6 ⟨rfl, k1, k2, k3, k4⟩
    obtain ⟨a1, a2, a3⟩ := H.out.apart
    have hvl := H.out.ok.vis_len
    have HE : Hid (DiskAt w6 b gs gv (.slice A 0 cap) (Dm.sync d)) := Lib.hid (by
      rw [E1.out]
      refine ⟨?_, k1, ?_, k3, H.out.ne, by rw [← E1.out]; exact HOK.out⟩
      · unfold diskCells
        dsimp only
        rw [hvl]
        exact k2
      · exact (H.out.vis.drew).fr k4 (by
          simp only [List.mem_cons, Option.mem_toList, not_or]
          exact ⟨a2, H.out.ne.symm, fun hm => (a3 gv hm).2.2 rfl⟩))
    have HF : Hid (Fr (b :: gs :: (Value.slice A d.pend.length cap).ownBlock.toList) w w6) := Lib.hid (((Fr.refl _ w).drew).trans k4)
    clear k1 k2 k3 k4 a1 a2 a3 hvl
    go_wp2_with fail
    go_ret
    exact ⟨by rw [E2.out]; rfl, _, HE.out, HF.out, fun g hg => .inl (by cases A with | none => exact hg | some a => exact hg)⟩
  · have E1 : Hid (Dm.sync d = d) := Lib.hid (by rw [HS.out, if_pos hd])
    have E2 : Hid (Dm.syncCode d = 221) := Lib.hid (by rw [HC.out, if_pos hd])
    rw [hd] at HCK
    go_enter Try.func23, Try.ntmps23
    go_wp2_with (go_at_call 28; refine HCK.out.mono ?_; rintro e w' ⟨rfl, rfl⟩)
    go_ret
    exact ⟨by rw [E2.out]; rfl, _, by rw [E1.out]; exact H.out, Fr.refl _ _, fun g hg => .inl hg⟩
end Go.Proofs.Ytbmakjhfoaadoaa
