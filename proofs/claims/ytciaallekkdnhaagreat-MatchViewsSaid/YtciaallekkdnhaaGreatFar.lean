/-
  Changes that lie in whatever memory that is not in given blocks.
-/
import Derived.Test.YtciaallekkdnhaaGreatJe
namespace Go.Proofs.YtciaallekkdnhaaGreat
open Go.RowKit

def FarC (w : World) (A : Option Addr) (cs : List Chg) (S : List Nat) : Prop := ChgsAt w A cs ∧ (0 < cs.length → ∀ ad, A = some ad → ad.block ∉ S)
theorem FarC.fr {w w' : World} {A : Option Addr} {cs : List Chg} {S S' : List Nat} (h : FarC w A cs S) (hf : Fr S' w w') (hs : ∀ x ∈ S', x ∈ S) : FarC w' A cs S := by
  refine ⟨fun hl => ?_, h.2⟩
  exact h.1.fr hf (fun ad e hm => h.2 hl ad e (hs _ hm)) hl
theorem FarC.less {w : World} {A : Option Addr} {cs : List Chg} {S S' : List Nat} (h : FarC w A cs S) (hs : ∀ x ∈ S', x ∈ S) : FarC w A cs S' := ⟨h.1, fun hl ad e hm => h.2 hl ad e (hs _ hm)⟩
end Go.Proofs.YtciaallekkdnhaaGreat
