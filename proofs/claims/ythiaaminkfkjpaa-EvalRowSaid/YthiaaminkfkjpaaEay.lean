/-
  The order that chosen sorts by.
-/
import Derived.Test.YthiaaminkfkjpaaEaw
import Derived.Test.YthiaaminkfkjpaaEac
namespace Go.Proofs.Ythiaaminkfkjpaa
open Go.RowKit Go.Sort

/-- How two rows stand to each other: by the column, then by the key. -/
def cmpRow (c : Int) (a b : RowV) : Int := if cmpI (a.value c) (b.value c) = 0 then cmpI a.k b.k else cmpI (a.value c) (b.value c)

theorem grown3 {W W2 : World} (nq : Nat) (osq : Array Obj) (o : Obj) (h : ∃ q os, W2 = grow (W.drewN q) os) : ∃ q os, (grow (W2.drewN nq) osq).alloc o = grow (W.drewN q) os := by
  obtain ⟨q, os, rfl⟩ := h
  refine ⟨q + nq, os ++ osq ++ #[o], ?_⟩
  rw [alloc_eq_grow]
  show grow (grow (grow ((W.drewN q).drewN nq) os) osq) _ = _
  rw [grow_grow, grow_grow, World.drewN_drewN, Array.append_assoc]
theorem value5 (t k x y z c : Int) (w : World) : Calls Try.prog 9 #[.agg #[.int .i64 t, .int .i64 k, .int .i64 x, .int .i64 y, .int .i64 z], .int .i64 c] w fun e w' => e = .returned (.int .i64 (RowV.value ⟨t, k, x, y, z⟩ c)) ∧ w' = w.alloc (.cells #[.int .i64 t, .int .i64 k, .int .i64 x, .int .i64 y, .int .i64 z] 33) := value_any ⟨t, k, x, y, z⟩ c w

set_option maxRecDepth 100000 in
set_option maxHeartbeats 2000000 in
theorem cmp_any (c : Int) (r1 r2 : RowV) (gc : Nat) (W : World) (hc : W.cell? ⟨gc, 0, none⟩ = some (.int .i64 c)) :
    Calls Try.prog 50 #[r1.val, r2.val, .pointer (some ⟨gc, 0, none⟩)] W fun e w' => e = .returned (.int .i64 (cmpRow c r1 r2)) ∧ ∃ q os, w' = grow (W.drewN q) os := by
  have hgl := World.block_lt_of_cell? W _ hc
  have HV := Lib.hid value5
  have HCM := Lib.hid compare_any
  have hb1 := (Blk.new W 33 r1.cells.toArray).alloc (.cells r2.cells.toArray 33)
  have hb2 := Blk.new (W.alloc (.cells r1.cells.toArray 33)) 33 r2.cells.toArray
  have hc2 : ((W.alloc (.cells r1.cells.toArray 33)).alloc (.cells r2.cells.toArray 33)).cell? ⟨gc, 0, none⟩ = some (.int .i64 c) := by
    rw [World.cell?_alloc_lt _ _ _ (by simpa using Nat.lt_succ_of_lt hgl), World.cell?_alloc_lt _ _ _ (by simpa using hgl)]
    exact hc
  have hW : ∃ q os, (W.alloc (.cells r1.cells.toArray 33)).alloc (.cells r2.cells.toArray 33) = grow (W.drewN q) os := ⟨0, _, by rw [alloc_eq_grow, alloc_eq_grow, grow_grow]; rfl⟩
  have HW := Lib.hid hW
  clear hW hc
  unfold cmpRow
  go_enter Try.func50, Try.ntmps50
  go_wp2_with fail
  rw [World.size_alloc] at hb2
  generalize (W.alloc (.cells r1.cells.toArray 33)).alloc (.cells r2.cells.toArray 33) = W2 at *
  obtain ⟨t1, k1, x1, y1, z1⟩ := r1
  obtain ⟨t2, k2, x2, y2, z2⟩ := r2
  have hl1 := hb1.lt
  have hl2 := hb2.lt
  have hl0 := World.block_lt_of_cell? W2 _ hc2
  have q0 : ∀ n os, (grow (W2.drewN n) os).cell? ⟨gc, 0, none⟩ = some (.int .i64 c) := cell_grown hl0 hc2
  have a0 : ∀ n os, (grow (W2.drewN n) os).cell? ⟨W.heap.size, 0, none⟩ = some (.int .i64 t1) := cell_grown hl1 (hb1.cell 0)
  have a1 : ∀ n os, (grow (W2.drewN n) os).cell? ⟨W.heap.size, 1, none⟩ = some (.int .i64 k1) := cell_grown hl1 (hb1.cell 1)
  have a2 : ∀ n os, (grow (W2.drewN n) os).cell? ⟨W.heap.size, 2, none⟩ = some (.int .i64 x1) := cell_grown hl1 (hb1.cell 2)
  have a3 : ∀ n os, (grow (W2.drewN n) os).cell? ⟨W.heap.size, 3, none⟩ = some (.int .i64 y1) := cell_grown hl1 (hb1.cell 3)
  have a4 : ∀ n os, (grow (W2.drewN n) os).cell? ⟨W.heap.size, 4, none⟩ = some (.int .i64 z1) := cell_grown hl1 (hb1.cell 4)
  have b0 : ∀ n os, (grow (W2.drewN n) os).cell? ⟨W.heap.size + 1, 0, none⟩ = some (.int .i64 t2) := cell_grown hl2 (hb2.cell 0)
  have b1 : ∀ n os, (grow (W2.drewN n) os).cell? ⟨W.heap.size + 1, 1, none⟩ = some (.int .i64 k2) := cell_grown hl2 (hb2.cell 1)
  have b2 : ∀ n os, (grow (W2.drewN n) os).cell? ⟨W.heap.size + 1, 2, none⟩ = some (.int .i64 x2) := cell_grown hl2 (hb2.cell 2)
  have b3 : ∀ n os, (grow (W2.drewN n) os).cell? ⟨W.heap.size + 1, 3, none⟩ = some (.int .i64 y2) := cell_grown hl2 (hb2.cell 3)
  have b4 : ∀ n os, (grow (W2.drewN n) os).cell? ⟨W.heap.size + 1, 4, none⟩ = some (.int .i64 z2) := cell_grown hl2 (hb2.cell 4)
  clear hb1 hb2 hc2 hgl hl0 hl1 hl2
  refine wp_region_quiet_tail (C := fun w' => ∃ p : GrownBy, w' = grow (W2.drewN p.n) p.os) 12 (by kernel_rfl) (by kernel_rfl) ⟨⟨1, #[]⟩, by rw [grow_empty]; rfl⟩ ?_
  simp only [List.take_succ_cons, List.take_zero, List.drop_succ_cons, List.drop_zero]
  repeat (quiet_step (first
    | exact Calls.grown_of ((HV.out _ _ _ _ _ _ _).mono fun e w'' h => ⟨h.1, 0, _, h.2.trans (alloc_eq_grow _ _)⟩)
    | exact Calls.grown_of ((HCM.out _ _ _).mono fun e w'' h => ⟨h.1, 0, #[], h.2.trans (grow_empty _).symm⟩)))
  refine wpQuiet_nil ?_
  intro w' hw'
  obtain ⟨⟨nq, osq⟩, rfl⟩ := hw'
  dsimp only
  go_wp2_with fail
  have hsz : (grow (W2.drewN nq) osq).heap.size = W2.heap.size + osq.size := by simp [grow]
  have hnb := Blk.new (grow (W2.drewN nq) osq) 3 #[.int .i64 (cmpI (RowV.value ⟨t1, k1, x1, y1, z1⟩ c) (RowV.value ⟨t2, k2, x2, y2, z2⟩ c)), .int .i64 (cmpI k1 k2)]
  rw [hsz] at hnb
  refine (or_any (cmpI (RowV.value ⟨t1, k1, x1, y1, z1⟩ c) (RowV.value ⟨t2, k2, x2, y2, z2⟩ c)) (cmpI k1 k2) (W2.heap.size + osq.size) 2 _ (hnb.cell 0) (hnb.cell 1)).mono ?_
  rintro e w'' ⟨rfl, rfl⟩
  go_wp2_with fail
  all_goals
    go_ret
    exact ⟨rfl, grown3 _ _ _ HW.out⟩
end Go.Proofs.Ythiaaminkfkjpaa
