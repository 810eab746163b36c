/-
  Clone of a state.
-/
import Derived.Test.YtakfaffgfdbfmaaStB
import Derived.Test.YtakfaffgfdbfmaaLay2
namespace Go.Proofs.Ytakfaffgfdbfmaa
open Go.RowKit

theorem cloneMap_any (m : Nat) (M : List (IdK × RowV)) (w : World) (h : VMap Try.prog 76 klId RowV.val w m M) :
    Calls Try.prog 44 #[.map (some m)] w fun e w' => e = .returned (.map (some w.heap.size)) ∧ VMap Try.prog 76 klId RowV.val w' w.heap.size M ∧ Fr [] w w' ∧ w'.heap.size = w.heap.size + 1 := by
  obtain ⟨es, clock, hb, hF, hp⟩ := h
  have hcon := AnyW.maps_Clone (P := Try.prog) (ρ := Shlf.cloneMap_ren) Shlf.cloneMap m es clock w hb
  change Calls Try.prog 44 _ _ _ at hcon
  refine hcon.mono ?_
  rintro e w' ⟨rfl, rfl⟩
  exact ⟨rfl, ⟨es, clock, (MapKept.heap_alloc w _).1, hF, hp⟩, (Fr.refl _ _).alloc _, by simp⟩

set_option maxHeartbeats 1000000 in
theorem sclone_any (b m : Nat) (s : Sm.Sta) (w : World) (h : StaAt w b m s) :
    Calls Try.prog 32 #[.pointer (some ⟨b, 0, none⟩)] w fun e w' => ∃ b' m', e = .returned (.pointer (some ⟨b', 0, none⟩)) ∧ StaAt w' b' m' s ∧ Fr [] w w' ∧ w.heap.size ≤ b' ∧ w.heap.size ≤ m' := by
  have H := Lib.hid h
  have c0 : w.cell? ⟨b, 0, none⟩ = some (.map (some m)) := h.blk.cell 0
  have c1 : w.cell? ⟨b, 1, none⟩ = some (.int .i64 s.pos) := h.blk.cell 1
  have hb := Blk.new w 71 #[.map (some m), .int .i64 s.pos]
  have F0 : Fr [] w (w.alloc (.cells #[.map (some m), .int .i64 s.pos] 71)) := (Fr.refl _ _).alloc _
  have hm0 := h.map.fr F0 (by simp)
  have hs0 : (w.alloc (.cells #[.map (some m), .int .i64 s.pos] 71)).heap.size = w.heap.size + 1 := by simp
  clear h
  go_enter Try.func32, Try.ntmps32
  go_wp2_with fail
  refine (cloneMap_any m s.M _ hm0).mono ?_
  rintro e w1 ⟨rfl, hm1, f1, hs1⟩
  rw [hs0] at hm1 hs1 ⊢
  have hb1 := hb.fr f1 (by simp)
  have F1 := F0.trans f1
  have c0 := hb1.cell 0
  have c1 := hb1.cell 1
  have z0 := hb1.frozen 0
  clear f1 F0 hm0 hb hs0
  go_wp2_with fail
  go_ret
  have hbn := Blk.new (w1.setCell ⟨w.heap.size, 0, none⟩ (.map (some (w.heap.size + 1)))) 73 #[.map (some (w.heap.size + 1)), .int .i64 s.pos]
  have hsz : (w1.setCell ⟨w.heap.size, 0, none⟩ (.map (some (w.heap.size + 1)))).heap.size = w1.heap.size := by simp [World.setCell]
  rw [hsz] at hbn
  refine ⟨w1.heap.size, w.heap.size + 1, ?_, ⟨hbn, (hm1.setCell (by simp) _).alloc _, H.out.ok⟩, (F1.setCell (.inr (Nat.le_refl _)) _).alloc _, by omega, by omega⟩
  simp [hs1]
theorem sclone_nil (w : World) : Calls Try.prog 32 #[.pointer none] w fun e w' => e = .returned (.pointer none) ∧ w = w' := by
  go_enter Try.func32, Try.ntmps32
  go_wp2
  go_ret
  exact ⟨rfl, rfl⟩
end Go.Proofs.Ytakfaffgfdbfmaa
