/-
  The contracts of Go's library that the proofs lean on, laid at this program's numbers.
-/
import Derived.Shelf.SlicesE.Compact
import Derived.Test.YtbmakjhfoaadoaaChecked
namespace Go.Proofs.Ytbmakjhfoaadoaa
open Go.Shelf
def Shlf.compactI_ren : Go.Shelf.Ren := ⟨fun | 43 => 38 | n => n, fun | 22 => 37 | 23 => 3 | 3 => 3 | 4 => 4 | 0 => 0 | n => n, fun | n => n⟩
theorem Shlf.compactI : Go.Proofs.SlLaysE.n43 Try.prog Shlf.compactI_ren := {
  mixed := by kernel_rfl
  f43 := ⟨Try.f38.name, by decide, Try.func38.trans (congrArg some (by kernel_rfl))⟩
  t0 := Try.underlying0
  a0 := Try.isAgg0
  z0 := Try.sizeOf0
  v0 := Try.zeroValue0
  t3 := Try.underlying3
  a3 := Try.isAgg3
  z3 := Try.sizeOf3
  v3 := Try.zeroValue3
  t4 := Try.underlying4
  a4 := Try.isAgg4
  z4 := Try.sizeOf4
  v4 := Try.zeroValue4
  t22 := Try.underlying37
  a22 := Try.isAgg37
  z22 := Try.sizeOf37
  v22 := Try.zeroValue37
  a23 := Try.isAgg3
  z23 := Try.sizeOf3 }
end Go.Proofs.Ytbmakjhfoaadoaa
