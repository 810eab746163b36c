/-
  The order that chosen sorts by.
-/
import Derived.Test.YtjiikpmkedkbkaaGar
import Derived.Test.YtjiikpmkedkbkaaGas
namespace Go.Proofs.Ytjiikpmkedkbkaa
open Go.RowKit Go.Sort

/-- How two rows stand to each other: by the column, then by the key. -/
def cmpRow (c : Int) (a b : RowV) : Int := if cmpI (a.value c) (b.value c) = 0 then cmpI a.k b.k else cmpI (a.value c) (b.value c)

theorem grown3 {W W2 : World} (nq : Nat) (osq : Array Obj) (o : Obj) (h : ∃ q os, W2 = grow (W.drewN q) os) : ∃ q os, (grow (W2.drewN nq) osq).alloc o = grow (W.drewN q) os := by
  obtain ⟨q, os, rfl⟩ := h
  refine ⟨q + nq, os ++ osq ++ #[o], ?_⟩
  rw [alloc_eq_grow]
  show grow (grow (grow ((W.drewN q).drewN nq) os) osq) _ = _
  rw [grow_grow, grow_grow, World.drewN_drewN, Array.append_assoc]
theorem value5 (t k x y z c : Int) (w : World) : Calls Try.prog 62 #[.agg #[.int .i64 t, .int .i64 k, .int .i64 x, .int .i64 y, .int .i64 z], .int .i64 c] w fun e w' => e = .returned (.int .i64 (RowV.value ⟨t, k, x, y, z⟩ c)) ∧ w' = w.alloc (.cells #[.int .i64 t, .int .i64 k, .int .i64 x, .int .i64 y, .int .i64 z] 57) := value_any ⟨t, k, x, y, z⟩ c w

end Go.Proofs.Ytjiikpmkedkbkaa
