/-
  The contracts of Go's library that the proofs lean on, laid at this program's numbers.
-/
import Derived.Shelf.SlMaps.Clone
import Derived.Test.YtciaallekkdnhaaGreatChecked
namespace Go.Proofs.YtciaallekkdnhaaGreat
open Go.Shelf
def Shlf.cloneMap_ren : Go.Shelf.Ren := ⟨fun | 5 => 48 | 7 => 92 | n => n, fun | 23 => 107 | 25 => 114 | 3 => 116 | 4 => 4 | 20 => 20 | n => n, fun | n => n⟩
theorem Shlf.cloneMap : Go.Proofs.SlLaysW.n5 Tryz.prog Shlf.cloneMap_ren := {
  mixed := by kernel_rfl
  f5 := ⟨Tryz.f48.name, by decide, Tryz.func48.trans (congrArg some (by kernel_rfl))⟩
  f7 := Tryz.func92.trans (congrArg some (by kernel_rfl))
  t4 := Tryz.underlying4
  a4 := Tryz.isAgg4
  z4 := Tryz.sizeOf4
  v4 := Tryz.zeroValue4
  t20 := Tryz.underlying20
  a20 := Tryz.isAgg20
  z20 := Tryz.sizeOf20
  v20 := Tryz.zeroValue20
  t23 := Tryz.underlying107
  a23 := Tryz.isAgg107
  z23 := Tryz.sizeOf107
  v23 := Tryz.zeroValue107 }
end Go.Proofs.YtciaallekkdnhaaGreat
