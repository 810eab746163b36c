/-
  No cell of these rows narrows 'for every input' (looked for: loops, veiled, ifaces, maps, wideKeys, modest, calm, conditions, laid).
  DERIVED. THE GIVEN ROWS OF THIS SEAT. 4 by the template 'for every input the law returns true; each argument reads behind the call as it read before'; 0 by the template 'total and deterministic' (their statements: YtjiilmobjgdenaaTotals.lean).
  GIVEN WITH THE SEED: the statements are not yours to turn. If you find one false, say at which input.
  Laid BY PROGRAM, IN A SANDBOX (cutbox-rows.mjs): the forced cells as the released guide's own fill.sh prints them over the translation b057710fa36f4b03… (all of the seat's roots in one cut). By AI agents, Wed Nov 11 2026. No macro, syntax, notation, axiom, sorry.
-/
import Derived.Test.YtjiilmobjgdenaaChecked
import GoSem.Claim
import GoSem.ClaimJoined
import GoSem.ClaimMapViews
import Derived.JoinedTies
import Derived.KernelRfl
namespace Go.Proofs.Ytjiilmobjgdenaa
/- THE CELL 'sum', in the pinned program and in every row, IS THE sha256 OF THE DUMP (.gsa) THAT YtjiilmobjgdenaaProg.lean LOADS. Nothing in Lean hashes anything: it is a label: what it is worth is what the hold of that sum in a sandbox is worth. -/
noncomputable def Try.pinned : Pinned := { name := "ytjiilmobjgdenaa", sum := "b057710fa36f4b037be7c77daf22124e5081164162274e885f07d045b03f582d", checked := Try.checked }
namespace Rows
def none {H : Type} : Left H := { results := [], args := [] }

/-- 'cachetierlaw20.VouchMatchesReference': WHATEVER THE INPUT: true; the input reads as it did. -/
def vouchMatchesReferenceSpec : ChangeSpec := { name := "vouchMatchesReference", fn := fun _ => fun
  | [d1, d2] => { results := [.lit (.bool true)], args := [d1, d2] }
  | _ => none }
def vouchMatchesReferenceRow : OpenClaim := { program := "ytjiilmobjgdenaa", sum := "b057710fa36f4b037be7c77daf22124e5081164162274e885f07d045b03f582d", func := "cachetier/cachetierlaw20.VouchMatchesReference", spec := "vouchMatchesReference", unfollowed := true, recurses := true, apart := false }
def VouchMatchesReferenceSaid : Prop := vouchMatchesReferenceRow.holds Try.pinned (OpenSpec.ofChange vouchMatchesReferenceSpec)

/-- ITS FALSE NEIGHBOUR: 'it returns false'. Refute it at one input. -/
def vouchMatchesReferenceWrong : ChangeSpec := { name := "vouchMatchesReference", fn := fun _ => fun
  | [d1, d2] => { results := [.lit (.bool false)], args := [d1, d2] }
  | _ => none }
def VouchMatchesReferenceWrongFalsely : Prop := vouchMatchesReferenceRow.holds Try.pinned (OpenSpec.ofChange vouchMatchesReferenceWrong)

/-- 'cachetierlaw20.VouchSound': WHATEVER THE INPUT: true; the input reads as it did. -/
def vouchSoundSpec : ChangeSpec := { name := "vouchSound", fn := fun _ => fun
  | [d1, d2] => { results := [.lit (.bool true)], args := [d1, d2] }
  | _ => none }
def vouchSoundRow : OpenClaim := { program := "ytjiilmobjgdenaa", sum := "b057710fa36f4b037be7c77daf22124e5081164162274e885f07d045b03f582d", func := "cachetier/cachetierlaw20.VouchSound", spec := "vouchSound", unfollowed := true, recurses := true, apart := false }
def VouchSoundSaid : Prop := vouchSoundRow.holds Try.pinned (OpenSpec.ofChange vouchSoundSpec)

/-- ITS FALSE NEIGHBOUR: 'it returns false'. Refute it at one input. -/
def vouchSoundWrong : ChangeSpec := { name := "vouchSound", fn := fun _ => fun
  | [d1, d2] => { results := [.lit (.bool false)], args := [d1, d2] }
  | _ => none }
def VouchSoundWrongFalsely : Prop := vouchSoundRow.holds Try.pinned (OpenSpec.ofChange vouchSoundWrong)

/-- 'cachetierlaw20.VouchComplete': WHATEVER THE INPUT: true; the input reads as it did. -/
def vouchCompleteSpec : ChangeSpec := { name := "vouchComplete", fn := fun _ => fun
  | [d] => { results := [.lit (.bool true)], args := [d] }
  | _ => none }
def vouchCompleteRow : OpenClaim := { program := "ytjiilmobjgdenaa", sum := "b057710fa36f4b037be7c77daf22124e5081164162274e885f07d045b03f582d", func := "cachetier/cachetierlaw20.VouchComplete", spec := "vouchComplete", unfollowed := true, recurses := true, apart := false }
def VouchCompleteSaid : Prop := vouchCompleteRow.holds Try.pinned (OpenSpec.ofChange vouchCompleteSpec)

/-- ITS FALSE NEIGHBOUR: 'it returns false'. Refute it at one input. -/
def vouchCompleteWrong : ChangeSpec := { name := "vouchComplete", fn := fun _ => fun
  | [d] => { results := [.lit (.bool false)], args := [d] }
  | _ => none }
def VouchCompleteWrongFalsely : Prop := vouchCompleteRow.holds Try.pinned (OpenSpec.ofChange vouchCompleteWrong)

/-- 'cachetierlaw20.VouchLatest': WHATEVER THE INPUT: true; the input reads as it did. -/
def vouchLatestSpec : ChangeSpec := { name := "vouchLatest", fn := fun _ => fun
  | [d] => { results := [.lit (.bool true)], args := [d] }
  | _ => none }
def vouchLatestRow : OpenClaim := { program := "ytjiilmobjgdenaa", sum := "b057710fa36f4b037be7c77daf22124e5081164162274e885f07d045b03f582d", func := "cachetier/cachetierlaw20.VouchLatest", spec := "vouchLatest", unfollowed := true, recurses := true, apart := false }
def VouchLatestSaid : Prop := vouchLatestRow.holds Try.pinned (OpenSpec.ofChange vouchLatestSpec)

/-- ITS FALSE NEIGHBOUR: 'it returns false'. Refute it at one input. -/
def vouchLatestWrong : ChangeSpec := { name := "vouchLatest", fn := fun _ => fun
  | [d] => { results := [.lit (.bool false)], args := [d] }
  | _ => none }
def VouchLatestWrongFalsely : Prop := vouchLatestRow.holds Try.pinned (OpenSpec.ofChange vouchLatestWrong)

/- THE SECOND FORM. 'bulk': how many values and letters a reading holds, each counted each time it is reached (what is shared counts as often as it is met; a slice's spare places count too). A statement '..UptoSaid' is the law's where the arguments, and the package variables that the reading takes, are together of bulk at most 1048576: NARROWER than '..Said'. Prove '..Said' where nothing that the law and all that it calls make is longer than what came in: it says more and counts as full. Else prove '..UptoSaid'. A law counts once. -/
mutual
def uptoBulk {H : Type} : DataW H → Nat
  | .lit (.string bytes) => bytes.length + 1
  | .lit _ => 1
  | .nil => 1
  | .ptr d => uptoBulk d + 1
  | .slice elems spare => uptoBulkAll elems + uptoBulkAll spare + 1
  | .agg parts => uptoBulkAll parts + 1
  | .iface _ d => uptoBulk d + 1
  | .map entries => uptoBulkEntries entries + 1
  | .held _ => 1
def uptoBulkAll {H : Type} : List (DataW H) → Nat
  | [] => 0
  | d :: r => uptoBulk d + uptoBulkAll r
def uptoBulkEntries {H : Type} : List (Lit × DataW H) → Nat
  | [] => 0
  | x :: r => uptoBulkEntry x + uptoBulkEntries r
def uptoBulkEntry {H : Type} : Lit × DataW H → Nat
  | (.string bytes, d) => bytes.length + uptoBulk d + 1
  | (_, d) => uptoBulk d + 1
 end
def uptoSmall : (H : Type) → List (DataW H) → Bool := fun _ ds => decide (uptoBulkAll ds ≤ 1048576)
def OpenSpec.upto (s : _root_.Go.ChangeSpec) : _root_.Go.OpenSpec := { _root_.Go.OpenSpec.ofChange s with cond := some uptoSmall }

/-- 'cachetierlaw20.VouchMatchesReference', WHERE WHAT IT READS IS OF BULK AT MOST 1048576: true; the input reads as it did. -/
def vouchMatchesReferenceUptoRow : OpenClaim := { program := "ytjiilmobjgdenaa", sum := "b057710fa36f4b037be7c77daf22124e5081164162274e885f07d045b03f582d", func := "cachetier/cachetierlaw20.VouchMatchesReference", spec := "vouchMatchesReference", unfollowed := true, recurses := true, apart := false, narrowed := true }
def VouchMatchesReferenceUptoSaid : Prop := vouchMatchesReferenceUptoRow.holds Try.pinned (OpenSpec.upto vouchMatchesReferenceSpec)

/-- 'cachetierlaw20.VouchSound', WHERE WHAT IT READS IS OF BULK AT MOST 1048576: true; the input reads as it did. -/
def vouchSoundUptoRow : OpenClaim := { program := "ytjiilmobjgdenaa", sum := "b057710fa36f4b037be7c77daf22124e5081164162274e885f07d045b03f582d", func := "cachetier/cachetierlaw20.VouchSound", spec := "vouchSound", unfollowed := true, recurses := true, apart := false, narrowed := true }
def VouchSoundUptoSaid : Prop := vouchSoundUptoRow.holds Try.pinned (OpenSpec.upto vouchSoundSpec)

/-- 'cachetierlaw20.VouchComplete', WHERE WHAT IT READS IS OF BULK AT MOST 1048576: true; the input reads as it did. -/
def vouchCompleteUptoRow : OpenClaim := { program := "ytjiilmobjgdenaa", sum := "b057710fa36f4b037be7c77daf22124e5081164162274e885f07d045b03f582d", func := "cachetier/cachetierlaw20.VouchComplete", spec := "vouchComplete", unfollowed := true, recurses := true, apart := false, narrowed := true }
def VouchCompleteUptoSaid : Prop := vouchCompleteUptoRow.holds Try.pinned (OpenSpec.upto vouchCompleteSpec)

/-- 'cachetierlaw20.VouchLatest', WHERE WHAT IT READS IS OF BULK AT MOST 1048576: true; the input reads as it did. -/
def vouchLatestUptoRow : OpenClaim := { program := "ytjiilmobjgdenaa", sum := "b057710fa36f4b037be7c77daf22124e5081164162274e885f07d045b03f582d", func := "cachetier/cachetierlaw20.VouchLatest", spec := "vouchLatest", unfollowed := true, recurses := true, apart := false, narrowed := true }
def VouchLatestUptoSaid : Prop := vouchLatestUptoRow.holds Try.pinned (OpenSpec.upto vouchLatestSpec)

end Rows
end Go.Proofs.Ytjiilmobjgdenaa
