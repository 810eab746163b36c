/-
  Contracts of package disk: Read.
-/
import Derived.Test.YtbmakjhfoaadoaaDkB
import Derived.Laws.IdiomStrings
namespace Go.Proofs.Ytbmakjhfoaadoaa
open Go.RowKit

/-- What Read hands out: bytes, and a code. -/
def Dm.read (d : Dm.Dk) (off n : Int) : List UInt8 × Int := if d.off = true then ([], 221) else if Dm.inside d off n = true then ((d.vis.drop off.toNat).take n.toNat, 0) else ([], 220)
theorem read_nil (off n : Int) (w : World) : Calls Try.prog 14 #[.pointer none, .int .i64 off, .int .i64 n] w fun e w' => e = .returned (.tuple #[.string ⟨#[]⟩, .int .i64 1]) ∧ w = w' := by
  go_enter Try.func14, Try.ntmps14
  go_wp2_with (go_at_call 28; refine (check_nil _).mono ?_; rintro e w' ⟨rfl, rfl⟩)
  go_ret2
  exact ⟨rfl, rfl⟩
set_option maxRecDepth 100000 in
theorem read_any (b gs gv : Nat) (vp : Value) (d : Dm.Dk) (off n : Int) (w : World) (h : DiskAt w b gs gv vp d) (ho : okI off) : Calls Try.prog 14 #[.pointer (some ⟨b, 0, none⟩), .int .i64 off, .int .i64 n] w fun e w' =>
    e = .returned (.tuple #[.string ⟨(Dm.read d off n).1.toArray⟩, .int .i64 (Dm.read d off n).2]) ∧ w = w' := by
  have HCK := Lib.hid (check_any b gs gv vp d w h)
  have HIN := Lib.hid (inside_any b gs gv vp d off n w h ho)
  have b3 : w.cell? ⟨b, 3, none⟩ = some (.slice (some ⟨gv, 0, none⟩) d.sure.length d.sure.length) := h.blk.cell 3
  have HRD : Hid (Dm.read d off n = if d.off = true then ([], 221) else if Dm.inside d off n = true then ((d.vis.drop off.toNat).take n.toNat, 0) else ([], 220)) := Lib.hid rfl
  cases hd : d.off
  · rw [hd] at HCK HRD
    cases hi : Dm.inside d off n
    · rw [hi] at HIN HRD
      have HR : Hid (Dm.read d off n = ([], 220)) := Lib.hid (by rw [HRD.out]; rfl)
      go_enter Try.func14, Try.ntmps14
      go_wp2_with (first | (go_at_call 28; refine HCK.out.mono ?_; rintro e w' ⟨rfl, rfl⟩) | (go_at_call 29; refine HIN.out.mono ?_; rintro e w' ⟨rfl, rfl⟩))
      go_ret2
      exact ⟨by rw [HR.out]; rfl, rfl⟩
    · rw [hi] at HIN HRD
      have HR : Hid (Dm.read d off n = ((d.vis.drop off.toNat).take n.toNat, 0)) := Lib.hid (by rw [HRD.out]; rfl)
      obtain ⟨i1, i2, i3, i4⟩ := Dm.inside_iff.1 hi
      obtain ⟨o, rfl⟩ : ∃ o : Nat, off = (o : Int) := ⟨off.toNat, by omega⟩
      obtain ⟨k, rfl⟩ : ∃ k : Nat, n = (k : Int) := ⟨n.toNat, by omega⟩
      have hvl := h.ok.vis_len
      have hn2 := h.ok.n2
      have hvs := h.vis
      obtain ⟨N, hN⟩ : ∃ N, d.sure.length = N := ⟨_, rfl⟩
      rw [hN] at b3 i3 i4 hvl hn2
      have hone : N ≤ 9223372036854775807 := by omega
      rcases Nat.lt_or_ge o N with hoN | hoN
      · have hcv : ∀ c, (convert 40 9 (.slice (some ⟨gv, o, none⟩) k c)).run Try.prog w = .ok (.string ⟨((d.vis.drop o).take k).toArray⟩) w := fun c => by
          have hl : ((d.vis.drop o).take k).length = k := by rw [List.length_take, List.length_drop]; omega
          have h1 := run_convert_bytes_back (P := Try.prog) w 40 9 5 ⟨gv, o, none⟩ c ((d.vis.drop o).take k) Try.underlying40 Try.underlying5 Try.underlying9 (fun j hj => by
            have hj2 : o + j < d.vis.length := by rw [List.length_take, List.length_drop] at hj; omega
            rw [show (⟨gv, o, none⟩ : Addr).add j = ⟨gv, o + j, none⟩ from by unfold Addr.add; split <;> simp_all, hvs.cell]
            simp [Lib.byteCells, List.getElem?_eq_getElem hj2])
          rw [hl] at h1
          exact h1
        have hne : ¬ N = o := by omega
        have hok : o ≤ N := by omega
        have hki : (k : Int) ≤ (N : Int) - (o : Int) := i4
        have hkn : k ≤ N - o := by omega
        have HCV := Lib.hid hcv
        clear h hvs hvl hi
        go_enter Try.func14, Try.ntmps14
        have hcv := HCV.out
        go_wp2_with (first | (go_at_call 28; refine HCK.out.mono ?_; rintro e w' ⟨rfl, rfl⟩) | (go_at_call 29; refine HIN.out.mono ?_; rintro e w' ⟨rfl, rfl⟩))
        go_ret2
        exact ⟨by rw [HR.out]; rfl, rfl⟩
      · obtain rfl : o = N := by omega
        obtain rfl : k = 0 := by omega
        have hcv : ∀ a c, (convert 40 9 (.slice (some a) 0 c)).run Try.prog w = .ok (.string ⟨#[]⟩) w := fun a c =>
          run_convert_bytes_back (P := Try.prog) w 40 9 5 a c [] Try.underlying40 Try.underlying5 Try.underlying9 (fun j hj => absurd hj (by simp))
        clear h hvs hvl hi
        go_enter Try.func14, Try.ntmps14
        go_wp2_with (first | (go_at_call 28; refine HCK.out.mono ?_; rintro e w' ⟨rfl, rfl⟩) | (go_at_call 29; refine HIN.out.mono ?_; rintro e w' ⟨rfl, rfl⟩))
        go_ret2
        exact ⟨by rw [HR.out]; simp, rfl⟩
  · rw [hd] at HCK HRD
    have HR : Hid (Dm.read d off n = ([], 221)) := Lib.hid (by rw [HRD.out]; rfl)
    go_enter Try.func14, Try.ntmps14
    go_wp2_with (go_at_call 28; refine HCK.out.mono ?_; rintro e w' ⟨rfl, rfl⟩)
    go_ret2
    exact ⟨by rw [HR.out]; rfl, rfl⟩
end Go.Proofs.Ytbmakjhfoaadoaa
