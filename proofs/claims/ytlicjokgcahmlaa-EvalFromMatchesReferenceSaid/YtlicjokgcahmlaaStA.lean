/-
  A map of rows by table and key; a state in memory.
-/
import Derived.Test.YtlicjokgcahmlaaStM
import Derived.Test.YtlicjokgcahmlaaRecC
import Derived.Maps.Keyed
import Derived.DeepKeys4
namespace Go.Proofs.Ytlicjokgcahmlaa
open Go.RowKit

def klId (x : IdK) : Lit := .string (keyBytes [.int .i64 x.1.1, .int .i64 x.1.2])
set_option maxRecDepth 100000 in
theorem keyOf_id (x : IdK) : keyOf Try.prog 101 x.val = some (klId x) := by
  obtain ⟨⟨t, k⟩, h1, h2⟩ := x
  obtain ⟨d, hd⟩ : ∃ d, Try.prog.types.size + 1 = d + 2 := ⟨Try.prog.types.size - 1, by
    have : 1 ≤ Try.prog.types.size := of_decide_eq_true (by kernel_rfl)
    omega⟩
  have hk : Try.prog.keyType 101 = true := by kernel_rfl
  have hcell : Try.prog.cellsOf 101 = 2 := by kernel_rfl
  have hcelli : Try.prog.cellsOf 3 = 1 := by kernel_rfl
  unfold okI at h1 h2
  dsimp only at h1 h2
  simp only [keyOf, Try.underlying101, hk, Value.formed, hcell, hd, Value.cells]
  simp [Program.keyLits, Try.underlying101, Try.underlying3, hcell, hcelli, h1, h2, klId]
theorem keyedId : Maps.Keyed Try.prog 101 := Maps.Keyed.of_law (deep_law_laid (m := 3) laidOut (by decide) (of_decide_eq_true (by kernel_rfl)) (by kernel_rfl) (by kernel_rfl))
theorem tyIdRow : MT Try.prog 95 101 31 IdK.val klId RowV.val (fun _ => True) (.agg #[.int .i64 0, .int .i64 0, .int .i64 0, .int .i64 0, .int .i64 0]) where
  keyed := keyedId
  ht := Try.underlying95
  key := fun x _ => keyOf_id x
  inj := fun x y h => by
    have h1 := keyedId.inj (keyOf_id x) ((keyOf_id y).trans (by rw [h]))
    obtain ⟨⟨t, k⟩, _⟩ := x
    obtain ⟨⟨t', k'⟩, _⟩ := y
    simp only [IdK.val] at h1
    injection h1 with h1
    simp at h1
    obtain ⟨rfl, rfl⟩ := h1
    rfl
  zero := fun w => by kernel_rfl
end Go.Proofs.Ytlicjokgcahmlaa
