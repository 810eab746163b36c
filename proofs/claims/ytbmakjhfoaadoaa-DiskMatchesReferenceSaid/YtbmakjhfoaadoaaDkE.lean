/-
  Contracts of package disk: Cut.
-/
import Derived.Test.YtbmakjhfoaadoaaDkD
namespace Go.Proofs.Ytbmakjhfoaadoaa
open Go.RowKit

theorem blk_ne {w : World} {a b ta tb : Nat} {ca cb : Array Value} (h1 : Blk w a ta ca) (h2 : Blk w b tb cb) (hne : ta ≠ tb) : a ≠ b := by
  rintro rfl
  have h3 : w.heap[a]? = some (.cells ca ta (0, 0)) := h1
  have h4 : w.heap[a]? = some (.cells cb tb (0, 0)) := h2
  rw [h3] at h4
  injection h4 with h4
  injection h4 with _ h5
  exact hne h5
theorem DiskAt.apart {w : World} {b gs gv : Nat} {vp : Value} {d : Dm.Dk} (h : DiskAt w b gs gv vp d) : gs ≠ b ∧ gv ≠ b ∧ ∀ g, vp.ownBlock = some g → g ≠ b ∧ g ≠ gs ∧ g ≠ gv :=
  ⟨blk_ne h.sure h.blk (by decide), blk_ne h.vis h.blk (by decide), fun g hg => ⟨h.pend.ne h.blk (by decide) hg, h.pend.ne h.sure (by decide) hg, h.pend.ne h.vis (by decide) hg⟩⟩
/-- The power alone has changed. -/
theorem DiskAt.power {w w' : World} {b gs gv : Nat} {vp : Value} {d d' : Dm.Dk} (h : DiskAt w b gs gv vp d) (hf : Fr [b] w w') (hs : d'.sure = d.sure) (hp : d'.pend = d.pend) (hok : Dm.Ok d') (hb : Blk w' b 65 (diskCells d' gs gv vp)) : DiskAt w' b gs gv vp d' := by
  obtain ⟨a1, a2, a3⟩ := h.apart
  have hv : d'.vis = d.vis := by unfold Dm.Dk.vis; rw [hs, hp]
  exact ⟨hb, by rw [hs]; exact h.sure.fr hf (by simpa using a1), by rw [hv]; exact h.vis.fr hf (by simpa using a2), by rw [hp]; exact h.pend.fr hf (fun g hg => by simpa using (a3 g hg).1), h.ne, hok⟩
def Dm.cutCode (d : Dm.Dk) (n : Int) : Int := if d.off = true then 221 else if n < 0 then 2 else 0
theorem cut_any (b gs gv : Nat) (vp : Value) (d : Dm.Dk) (n : Int) (w : World) (h : DiskAt w b gs gv vp d) : Calls Try.prog 24 #[.pointer (some ⟨b, 0, none⟩), .int .i64 n] w fun e w' =>
    e = .returned (.int .i64 (Dm.cutCode d n)) ∧ DiskAt w' b gs gv vp (Dm.cut d n) ∧ Fr [b] w w' := by
  have HCK := Lib.hid (check_any b gs gv vp d w h)
  have z0 := h.blk.frozen 0
  have z1 := h.blk.frozen 1
  have b0 : w.cell? ⟨b, 0, none⟩ = some (.bool d.off) := h.blk.cell 0
  have b1 : w.cell? ⟨b, 1, none⟩ = some (.int .i64 d.left) := h.blk.cell 1
  have hlt := h.blk.lt
  have HC : Hid (Dm.cut d n = if d.off = true ∨ n < 0 then d else { d with off := decide (n = 0), left := n }) := Lib.hid rfl
  have HD : Hid (Dm.cutCode d n = if d.off = true then 221 else if n < 0 then 2 else 0) := Lib.hid rfl
  have HOK := Lib.hid (h.ok.cut n)
  have H := Lib.hid h
  clear h
  cases hd : d.off
  · rw [hd] at HCK HD
    by_cases hn : n < 0
    · have H1 : Hid (Dm.cut d n = d ∧ Dm.cutCode d n = 2) := Lib.hid ⟨by rw [HC.out, if_pos (.inr hn)], by rw [HD.out]; simp [hn]⟩
      rw [hd] at b0
      go_enter Try.func24, Try.ntmps24
      go_wp2_with (go_at_call 28; refine HCK.out.mono ?_; rintro e w' ⟨rfl, rfl⟩)
      go_ret
      exact ⟨by rw [H1.out.2]; rfl, by rw [H1.out.1]; exact H.out, Fr.refl _ _⟩
    · have hn0 : 0 ≤ n := by omega
      have e1 : Dm.cut d n = { d with off := decide (n = 0), left := n } := by rw [HC.out, if_neg (fun h => by rcases h with h | h; (rw [hd] at h; cases h); exact hn h)]
      have H1 : Hid (Dm.cutCode d n = 0) := Lib.hid (by rw [HD.out]; simp [hn])
      have HB : Hid (Blk ((w.setCell ⟨b, 0, none⟩ (.bool (decide (n = 0)))).setCell ⟨b, 1, none⟩ (.int .i64 n)) b 65 (diskCells (Dm.cut d n) gs gv vp)) := Lib.hid (by
        have h2 := (H.out.blk.set_ 0 (.bool (decide (n = 0)))).set_ 1 (.int .i64 n)
        rw [e1]
        simpa [diskCells] using h2)
      have HF := Lib.hid (((Fr.refl [b] w).setCell (p := ⟨b, 0, none⟩) (.inl (by simp)) (.bool (decide (n = 0)))).setCell (p := ⟨b, 1, none⟩) (.inl (by simp)) (.int .i64 n))
      have HE := Lib.hid e1
      rw [hd] at b0
      clear hn e1 hd
      go_enter Try.func24, Try.ntmps24
      go_wp2_with (go_at_call 28; refine HCK.out.mono ?_; rintro e w' ⟨rfl, rfl⟩)
      go_ret
      exact ⟨by rw [H1.out]; rfl, H.out.power HF.out (by rw [HE.out]) (by rw [HE.out]) HOK.out HB.out, HF.out⟩
  · rw [hd] at HCK HD b0
    have H1 : Hid (Dm.cut d n = d ∧ Dm.cutCode d n = 221) := Lib.hid ⟨by rw [HC.out, if_pos (.inl hd)], by rw [HD.out]; rfl⟩
    go_enter Try.func24, Try.ntmps24
    go_wp2_with (go_at_call 28; refine HCK.out.mono ?_; rintro e w' ⟨rfl, rfl⟩)
    go_ret
    exact ⟨by rw [H1.out.2]; rfl, by rw [H1.out.1]; exact H.out, Fr.refl _ _⟩
end Go.Proofs.Ytbmakjhfoaadoaa
