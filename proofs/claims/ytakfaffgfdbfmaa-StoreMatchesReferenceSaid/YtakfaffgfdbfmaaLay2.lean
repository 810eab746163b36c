/-
  The contracts of Go's library that the proofs lean on, laid at this program's numbers.
-/
import Derived.Shelf.SlMaps.Clone
import Derived.Test.YtakfaffgfdbfmaaChecked
namespace Go.Proofs.Ytakfaffgfdbfmaa
open Go.Shelf
def Shlf.cloneMap_ren : Go.Shelf.Ren := ⟨fun | 5 => 44 | 7 => 52 | n => n, fun | 23 => 69 | 25 => 76 | 3 => 50 | 4 => 4 | 20 => 20 | n => n, fun | n => n⟩
theorem Shlf.cloneMap : Go.Proofs.SlLaysW.n5 Try.prog Shlf.cloneMap_ren := {
  mixed := by kernel_rfl
  f5 := ⟨Try.f44.name, by decide, Try.func44.trans (congrArg some (by kernel_rfl))⟩
  f7 := Try.func52.trans (congrArg some (by kernel_rfl))
  t4 := Try.underlying4
  a4 := Try.isAgg4
  z4 := Try.sizeOf4
  v4 := Try.zeroValue4
  t20 := Try.underlying20
  a20 := Try.isAgg20
  z20 := Try.sizeOf20
  v20 := Try.zeroValue20
  t23 := Try.underlying69
  a23 := Try.isAgg69
  z23 := Try.sizeOf69
  v23 := Try.zeroValue69 }
end Go.Proofs.Ytakfaffgfdbfmaa
