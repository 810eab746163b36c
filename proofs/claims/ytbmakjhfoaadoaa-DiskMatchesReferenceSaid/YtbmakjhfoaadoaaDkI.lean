/-
  Contracts of package disk: Crash of a nil disk.
-/
import Derived.Test.YtbmakjhfoaadoaaDkH
namespace Go.Proofs.Ytbmakjhfoaadoaa
open Go.RowKit

theorem crash_none (v : Value) (t : Int) (w : World) : Calls Try.prog 25 #[.pointer none, v, .int .i64 t] w fun e w' => e = .returned (.int .i64 1) ∧ Fr [] w w' := by
  go_enter Try.func25, Try.ntmps25
  go_wp2
  go_ret
  exact ⟨rfl, (Fr.refl _ _).alloc _⟩
end Go.Proofs.Ytbmakjhfoaadoaa
