/-
  Contracts of package disk: New.
-/
import Derived.Test.YtbmakjhfoaadoaaDkA
import Derived.Deep.OwnRows
import Derived.Deep.RegionLaw
import Derived.Deep.DeepCutAuto
namespace Go.Proofs.Ytbmakjhfoaadoaa
open Go.RowKit

theorem infoByte : (Try.prog.info? 5).map (fun i => (i.zero, i.size, i.bytes)) = some (some (.int .u8 0), 1, 1) := by kernel_rfl
theorem made_zero (n : Nat) : madeCells #[Value.int .u8 0] n = (Lib.byteCells (List.replicate n 0)).toArray := by
  apply Array.ext'
  apply List.ext_getElem
  · simp [madeCells, Lib.byteCells]
  · intro i h1 h2
    simp [madeCells, Lib.byteCells, Nat.mod_one]
theorem new_bad (n : Int) (w : World) (h : n < 1 ∨ 4194304 < n) : Calls Try.prog 13 #[.int .i64 n] w fun e w' => e = .returned (.tuple #[.pointer none, .int .i64 2]) ∧ w = w' := by
  by_cases h1 : n < 1
  · go_enter Try.func13, Try.ntmps13
    go_wp2
    go_ret2
    exact ⟨rfl, rfl⟩
  · have h2 : 4194304 < n := by omega
    go_enter Try.func13, Try.ntmps13
    go_wp2
    go_ret2
    exact ⟨rfl, rfl⟩
theorem disk_new {W : World} {b gs gv n : Nat} (h1 : 1 ≤ n) (h2 : n ≤ 4194304) (hb : Blk W b 65 #[.bool false, .int .i64 0, .slice (some ⟨gs, 0, none⟩) n n, .slice (some ⟨gv, 0, none⟩) n n, .slice none 0 0])
    (hs : Blk W gs 5 (Lib.byteCells (List.replicate n 0)).toArray) (hv : Blk W gv 5 (Lib.byteCells (List.replicate n 0)).toArray) (hne : gs ≠ gv) : DiskAt W b gs gv (.slice none 0 0) (Dm.new n) :=
  ⟨by
    unfold diskCells
    rw [show (Dm.new n).sure.length = n from List.length_replicate]
    exact hb, hs, hv, OwnL.nil, hne, Dm.Ok.new h1 h2⟩
theorem new_any (n : Nat) (w : World) (h1 : 1 ≤ n) (h2 : n ≤ 4194304) : Calls Try.prog 13 #[.int .i64 n] w fun e w' => ∃ b gs gv, e = .returned (.tuple #[.pointer (some ⟨b, 0, none⟩), .int .i64 0]) ∧ DiskAt w' b gs gv (.slice none 0 0) (Dm.new n) ∧ Fr [] w w' ∧ (w.heap.size ≤ b ∧ w.heap.size ≤ gs ∧ w.heap.size ≤ gv) := by
  have hmk := fun W => run_make_row' (P := Try.prog) 40 5 (.int .u8 0) 1 Try.underlying40 infoByte rfl .i64 .i64 n (by omega) (by omega) W
  rw [made_zero] at hmk
  have HOK := Lib.hid (Dm.Ok.new h1 h2)
  go_enter Try.func13, Try.ntmps13
  go_upto_region 3 with fail
  go_region
  · go_wp2_with fail
    go_ret2
    have b0 := ((Blk.new w 5 (Lib.byteCells (List.replicate n 0)).toArray).alloc (.cells (Lib.byteCells (List.replicate n 0)).toArray 5)).alloc (.cells #[.bool false, .int .i64 0, .slice (some ⟨w.heap.size, 0, none⟩) n n, .slice (some ⟨w.heap.size + 1, 0, none⟩) n n, .slice none 0 0] 65)
    have b1 := (Blk.new (w.alloc (.cells (Lib.byteCells (List.replicate n 0)).toArray 5)) 5 (Lib.byteCells (List.replicate n 0)).toArray).alloc (.cells #[.bool false, .int .i64 0, .slice (some ⟨w.heap.size, 0, none⟩) n n, .slice (some ⟨w.heap.size + 1, 0, none⟩) n n, .slice none 0 0] 65)
    have b2 := Blk.new ((w.alloc (.cells (Lib.byteCells (List.replicate n 0)).toArray 5)).alloc (.cells (Lib.byteCells (List.replicate n 0)).toArray 5)) 65 #[.bool false, .int .i64 0, .slice (some ⟨w.heap.size, 0, none⟩) n n, .slice (some ⟨w.heap.size + 1, 0, none⟩) n n, .slice none 0 0]
    simp only [World.size_alloc] at b1 b2
    exact ⟨_, _, _, rfl, disk_new h1 h2 b2.drew b0.drew b1.drew (by omega), ((((Fr.refl [] w).alloc _).alloc _).alloc _).drew, by omega, by omega, by omega⟩
  · go_wp2_with fail
    go_ret2
    have b0 := ((Blk.new w 5 (Lib.byteCells (List.replicate n 0)).toArray).alloc (.cells (Lib.byteCells (List.replicate n 0)).toArray 5)).alloc (.cells #[.bool false, .int .i64 0, .slice (some ⟨w.heap.size + 1, 0, none⟩) n n, .slice (some ⟨w.heap.size, 0, none⟩) n n, .slice none 0 0] 65)
    have b1 := (Blk.new (w.alloc (.cells (Lib.byteCells (List.replicate n 0)).toArray 5)) 5 (Lib.byteCells (List.replicate n 0)).toArray).alloc (.cells #[.bool false, .int .i64 0, .slice (some ⟨w.heap.size + 1, 0, none⟩) n n, .slice (some ⟨w.heap.size, 0, none⟩) n n, .slice none 0 0] 65)
    have b2 := Blk.new ((w.alloc (.cells (Lib.byteCells (List.replicate n 0)).toArray 5)).alloc (.cells (Lib.byteCells (List.replicate n 0)).toArray 5)) 65 #[.bool false, .int .i64 0, .slice (some ⟨w.heap.size + 1, 0, none⟩) n n, .slice (some ⟨w.heap.size, 0, none⟩) n n, .slice none 0 0]
    simp only [World.size_alloc] at b1 b2
    exact ⟨_, _, _, rfl, disk_new h1 h2 b2.drew b1.drew b0.drew (by omega), ((((Fr.refl [] w).alloc _).alloc _).alloc _).drew, by omega, by omega, by omega⟩
end Go.Proofs.Ytbmakjhfoaadoaa
