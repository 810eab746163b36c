/-
  Law 07's sane.
-/
import Derived.Test.YtciaallekkdnhaaGreatJw
namespace Go.Proofs.YtciaallekkdnhaaGreat
open Go.RowKit

/-- sane's seven blocks. -/
structure Sane7.At (w wn : World) : Prop where
  q : Blk wn (w.heap.size) 35 #[.int .i64 5, .int .i64 0, .int .i64 1, .int .i64 10, .int .i64 19, .int .i64 2, .int .i64 0]
  r : Blk wn (w.heap.size + 1) 71 #[.slice none 0 0, .int .i64 7, .bool true]
  add : Blk wn (w.heap.size + 1 + 1) 59 #[.int .i64 0, .int .i64 5, .bool false, .int .i64 0, .int .i64 0, .int .i64 0, .bool true, .int .i64 12, .int .i64 3, .int .i64 0]
  far : Blk wn (w.heap.size + 1 + 1 + 1) 59 #[.int .i64 0, .int .i64 5, .bool false, .int .i64 0, .int .i64 0, .int .i64 0, .bool true, .int .i64 25, .int .i64 3, .int .i64 0]
  gone : Blk wn (w.heap.size + 1 + 1 + 1 + 1) 59 #[.int .i64 0, .int .i64 6, .bool true, .int .i64 12, .int .i64 7, .int .i64 0, .bool false, .int .i64 0, .int .i64 0, .int .i64 0]
  less : Blk wn (w.heap.size + 1 + 1 + 1 + 1 + 1) 59 #[.int .i64 0, .int .i64 6, .bool true, .int .i64 12, .int .i64 7, .int .i64 0, .bool true, .int .i64 12, .int .i64 5, .int .i64 0]
  moved : Blk wn (w.heap.size + 1 + 1 + 1 + 1 + 1 + 1) 59 #[.int .i64 0, .int .i64 6, .bool true, .int .i64 12, .int .i64 9, .int .i64 1, .bool true, .int .i64 13, .int .i64 9, .int .i64 1]
  fr : Fr [] w wn
theorem Sane7.At.fr0 {w wn wm : World} (h : Sane7.At w wn) (hf : Fr [] wn wm) : Sane7.At w wm :=
  ⟨h.q.fr hf (by simp), h.r.fr hf (by simp), h.add.fr hf (by simp), h.far.fr hf (by simp), h.gone.fr hf (by simp), h.less.fr hf (by simp), h.moved.fr hf (by simp), h.fr.trans hf⟩
theorem Sane7.At.new (w : World) : Sane7.At w (((((((w.alloc (.cells #[.int .i64 5, .int .i64 0, .int .i64 1, .int .i64 10, .int .i64 19, .int .i64 2, .int .i64 0] 35)).alloc (.cells #[.slice none 0 0, .int .i64 7, .bool true] 71)).alloc (.cells #[.int .i64 0, .int .i64 5, .bool false, .int .i64 0, .int .i64 0, .int .i64 0, .bool true, .int .i64 12, .int .i64 3, .int .i64 0] 59)).alloc (.cells #[.int .i64 0, .int .i64 5, .bool false, .int .i64 0, .int .i64 0, .int .i64 0, .bool true, .int .i64 25, .int .i64 3, .int .i64 0] 59)).alloc (.cells #[.int .i64 0, .int .i64 6, .bool true, .int .i64 12, .int .i64 7, .int .i64 0, .bool false, .int .i64 0, .int .i64 0, .int .i64 0] 59)).alloc (.cells #[.int .i64 0, .int .i64 6, .bool true, .int .i64 12, .int .i64 7, .int .i64 0, .bool true, .int .i64 12, .int .i64 5, .int .i64 0] 59)).alloc (.cells #[.int .i64 0, .int .i64 6, .bool true, .int .i64 12, .int .i64 9, .int .i64 1, .bool true, .int .i64 13, .int .i64 9, .int .i64 1] 59)) := by
  have h0 := Blk.new w 35 #[.int .i64 5, .int .i64 0, .int .i64 1, .int .i64 10, .int .i64 19, .int .i64 2, .int .i64 0]
  have h1 := Blk.new (w.alloc (.cells #[.int .i64 5, .int .i64 0, .int .i64 1, .int .i64 10, .int .i64 19, .int .i64 2, .int .i64 0] 35)) 71 #[.slice none 0 0, .int .i64 7, .bool true]
  simp only [World.size_alloc] at h1
  have h2 := Blk.new ((w.alloc (.cells #[.int .i64 5, .int .i64 0, .int .i64 1, .int .i64 10, .int .i64 19, .int .i64 2, .int .i64 0] 35)).alloc (.cells #[.slice none 0 0, .int .i64 7, .bool true] 71)) 59 #[.int .i64 0, .int .i64 5, .bool false, .int .i64 0, .int .i64 0, .int .i64 0, .bool true, .int .i64 12, .int .i64 3, .int .i64 0]
  simp only [World.size_alloc] at h2
  have h3 := Blk.new (((w.alloc (.cells #[.int .i64 5, .int .i64 0, .int .i64 1, .int .i64 10, .int .i64 19, .int .i64 2, .int .i64 0] 35)).alloc (.cells #[.slice none 0 0, .int .i64 7, .bool true] 71)).alloc (.cells #[.int .i64 0, .int .i64 5, .bool false, .int .i64 0, .int .i64 0, .int .i64 0, .bool true, .int .i64 12, .int .i64 3, .int .i64 0] 59)) 59 #[.int .i64 0, .int .i64 5, .bool false, .int .i64 0, .int .i64 0, .int .i64 0, .bool true, .int .i64 25, .int .i64 3, .int .i64 0]
  simp only [World.size_alloc] at h3
  have h4 := Blk.new ((((w.alloc (.cells #[.int .i64 5, .int .i64 0, .int .i64 1, .int .i64 10, .int .i64 19, .int .i64 2, .int .i64 0] 35)).alloc (.cells #[.slice none 0 0, .int .i64 7, .bool true] 71)).alloc (.cells #[.int .i64 0, .int .i64 5, .bool false, .int .i64 0, .int .i64 0, .int .i64 0, .bool true, .int .i64 12, .int .i64 3, .int .i64 0] 59)).alloc (.cells #[.int .i64 0, .int .i64 5, .bool false, .int .i64 0, .int .i64 0, .int .i64 0, .bool true, .int .i64 25, .int .i64 3, .int .i64 0] 59)) 59 #[.int .i64 0, .int .i64 6, .bool true, .int .i64 12, .int .i64 7, .int .i64 0, .bool false, .int .i64 0, .int .i64 0, .int .i64 0]
  simp only [World.size_alloc] at h4
  have h5 := Blk.new (((((w.alloc (.cells #[.int .i64 5, .int .i64 0, .int .i64 1, .int .i64 10, .int .i64 19, .int .i64 2, .int .i64 0] 35)).alloc (.cells #[.slice none 0 0, .int .i64 7, .bool true] 71)).alloc (.cells #[.int .i64 0, .int .i64 5, .bool false, .int .i64 0, .int .i64 0, .int .i64 0, .bool true, .int .i64 12, .int .i64 3, .int .i64 0] 59)).alloc (.cells #[.int .i64 0, .int .i64 5, .bool false, .int .i64 0, .int .i64 0, .int .i64 0, .bool true, .int .i64 25, .int .i64 3, .int .i64 0] 59)).alloc (.cells #[.int .i64 0, .int .i64 6, .bool true, .int .i64 12, .int .i64 7, .int .i64 0, .bool false, .int .i64 0, .int .i64 0, .int .i64 0] 59)) 59 #[.int .i64 0, .int .i64 6, .bool true, .int .i64 12, .int .i64 7, .int .i64 0, .bool true, .int .i64 12, .int .i64 5, .int .i64 0]
  simp only [World.size_alloc] at h5
  have h6 := Blk.new ((((((w.alloc (.cells #[.int .i64 5, .int .i64 0, .int .i64 1, .int .i64 10, .int .i64 19, .int .i64 2, .int .i64 0] 35)).alloc (.cells #[.slice none 0 0, .int .i64 7, .bool true] 71)).alloc (.cells #[.int .i64 0, .int .i64 5, .bool false, .int .i64 0, .int .i64 0, .int .i64 0, .bool true, .int .i64 12, .int .i64 3, .int .i64 0] 59)).alloc (.cells #[.int .i64 0, .int .i64 5, .bool false, .int .i64 0, .int .i64 0, .int .i64 0, .bool true, .int .i64 25, .int .i64 3, .int .i64 0] 59)).alloc (.cells #[.int .i64 0, .int .i64 6, .bool true, .int .i64 12, .int .i64 7, .int .i64 0, .bool false, .int .i64 0, .int .i64 0, .int .i64 0] 59)).alloc (.cells #[.int .i64 0, .int .i64 6, .bool true, .int .i64 12, .int .i64 7, .int .i64 0, .bool true, .int .i64 12, .int .i64 5, .int .i64 0] 59)) 59 #[.int .i64 0, .int .i64 6, .bool true, .int .i64 12, .int .i64 9, .int .i64 1, .bool true, .int .i64 13, .int .i64 9, .int .i64 1]
  simp only [World.size_alloc] at h6
  exact ⟨((((((h0.alloc _).alloc _).alloc _).alloc _).alloc _).alloc _), (((((h1.alloc _).alloc _).alloc _).alloc _).alloc _), ((((h2.alloc _).alloc _).alloc _).alloc _), (((h3.alloc _).alloc _).alloc _), ((h4.alloc _).alloc _), (h5.alloc _), h6, ((((((((Fr.refl [] w).alloc _).alloc _).alloc _).alloc _).alloc _).alloc _).alloc _)⟩

/-- A result's block with a value. -/
def R7V (w : World) (g : Nat) (m : Int) : Prop := ∃ v f, R7At w g v m f
theorem R7V.fr0 {w w' : World} {g : Nat} {m : Int} (h : R7V w g m) (hf : Fr [] w w') : R7V w' g m := by
  obtain ⟨v, f, h⟩ := h
  exact ⟨v, f, h.fr hf (by simp)⟩
theorem R7V.cell {w : World} {g : Nat} {m : Int} (h : R7V w g m) : w.cell? ⟨g, 1, none⟩ = some (.int .i64 m) := by
  obtain ⟨v, f, h⟩ := h
  exact h.c1

end Go.Proofs.YtciaallekkdnhaaGreat
