/-
  No cell of these rows narrows 'for every input' (looked for: loops, veiled, ifaces, maps, wideKeys, modest, calm, conditions, laid).
  DERIVED. THE GIVEN ROWS OF THIS SEAT. 8 by the template 'for every input the law returns true; each argument reads behind the call as it read before'; 0 by the template 'total and deterministic' (their statements: YtakfaffgfdbfmaaTotals.lean).
  GIVEN WITH THE SEED: the statements are not yours to turn. If you find one false, say at which input.
  Laid BY PROGRAM, IN A SANDBOX (cutbox-rows.mjs): the forced cells as the released guide's own fill.sh prints them over the translation f497ef03547ee64b… (all of the seat's roots in one cut). By AI agents, Wed Nov 11 2026. No macro, syntax, notation, axiom, sorry.
-/
import Derived.Test.YtakfaffgfdbfmaaChecked
import GoSem.Claim
import GoSem.ClaimJoined
import GoSem.ClaimMapViews
import Derived.JoinedTies
import Derived.KernelRfl
namespace Go.Proofs.Ytakfaffgfdbfmaa
/- THE CELL 'sum', in the pinned program and in every row, IS THE sha256 OF THE DUMP (.gsa) THAT YtakfaffgfdbfmaaProg.lean LOADS. Nothing in Lean hashes anything: it is a label: what it is worth is what the hold of that sum in a sandbox is worth. -/
noncomputable def Try.pinned : Pinned := { name := "ytakfaffgfdbfmaa", sum := "f497ef03547ee64b770759a751c654110aac4e4b862cba5969cbfc92c6b7e3d1", checked := Try.checked }
namespace Rows
def none {H : Type} : Left H := { results := [], args := [] }

/-- 'cachetierlaw04.StoreMatchesReference': WHATEVER THE INPUT: true; the input reads as it did. -/
def storeMatchesReferenceSpec : ChangeSpec := { name := "storeMatchesReference", fn := fun _ => fun
  | [d1, d2] => { results := [.lit (.bool true)], args := [d1, d2] }
  | _ => none }
def storeMatchesReferenceRow : OpenClaim := { program := "ytakfaffgfdbfmaa", sum := "f497ef03547ee64b770759a751c654110aac4e4b862cba5969cbfc92c6b7e3d1", func := "cachetier/cachetierlaw04.StoreMatchesReference", spec := "storeMatchesReference", inPlace := ["maps.clone"], unfollowed := true, recurses := true, plainKeys := false, apart := false }
def StoreMatchesReferenceSaid : Prop := storeMatchesReferenceRow.holds Try.pinned (OpenSpec.ofChange storeMatchesReferenceSpec)

/-- ITS FALSE NEIGHBOUR: 'it returns false'. Refute it at one input. -/
def storeMatchesReferenceWrong : ChangeSpec := { name := "storeMatchesReference", fn := fun _ => fun
  | [d1, d2] => { results := [.lit (.bool false)], args := [d1, d2] }
  | _ => none }
def StoreMatchesReferenceWrongFalsely : Prop := storeMatchesReferenceRow.holds Try.pinned (OpenSpec.ofChange storeMatchesReferenceWrong)

/-- 'cachetierlaw04.StoreRangeMatchesReference': WHATEVER THE INPUT: true; the input reads as it did. -/
def storeRangeMatchesReferenceSpec : ChangeSpec := { name := "storeRangeMatchesReference", fn := fun _ => fun
  | [d1, d2, d3, d4, d5, d6] => { results := [.lit (.bool true)], args := [d1, d2, d3, d4, d5, d6] }
  | _ => none }
def storeRangeMatchesReferenceRow : OpenClaim := { program := "ytakfaffgfdbfmaa", sum := "f497ef03547ee64b770759a751c654110aac4e4b862cba5969cbfc92c6b7e3d1", func := "cachetier/cachetierlaw04.StoreRangeMatchesReference", spec := "storeRangeMatchesReference", inPlace := ["maps.clone"], unfollowed := true, recurses := true, plainKeys := false, apart := false }
def StoreRangeMatchesReferenceSaid : Prop := storeRangeMatchesReferenceRow.holds Try.pinned (OpenSpec.ofChange storeRangeMatchesReferenceSpec)

/-- ITS FALSE NEIGHBOUR: 'it returns false'. Refute it at one input. -/
def storeRangeMatchesReferenceWrong : ChangeSpec := { name := "storeRangeMatchesReference", fn := fun _ => fun
  | [d1, d2, d3, d4, d5, d6] => { results := [.lit (.bool false)], args := [d1, d2, d3, d4, d5, d6] }
  | _ => none }
def StoreRangeMatchesReferenceWrongFalsely : Prop := storeRangeMatchesReferenceRow.holds Try.pinned (OpenSpec.ofChange storeRangeMatchesReferenceWrong)

/-- 'cachetierlaw04.StoreUndo': WHATEVER THE INPUT: true; the input reads as it did. -/
def storeUndoSpec : ChangeSpec := { name := "storeUndo", fn := fun _ => fun
  | [d1, d2] => { results := [.lit (.bool true)], args := [d1, d2] }
  | _ => none }
def storeUndoRow : OpenClaim := { program := "ytakfaffgfdbfmaa", sum := "f497ef03547ee64b770759a751c654110aac4e4b862cba5969cbfc92c6b7e3d1", func := "cachetier/cachetierlaw04.StoreUndo", spec := "storeUndo", inPlace := ["maps.clone"], unfollowed := true, recurses := true, plainKeys := false, apart := false }
def StoreUndoSaid : Prop := storeUndoRow.holds Try.pinned (OpenSpec.ofChange storeUndoSpec)

/-- ITS FALSE NEIGHBOUR: 'it returns false'. Refute it at one input. -/
def storeUndoWrong : ChangeSpec := { name := "storeUndo", fn := fun _ => fun
  | [d1, d2] => { results := [.lit (.bool false)], args := [d1, d2] }
  | _ => none }
def StoreUndoWrongFalsely : Prop := storeUndoRow.holds Try.pinned (OpenSpec.ofChange storeUndoWrong)

/-- 'cachetierlaw04.StoreRefuses': WHATEVER THE INPUT: true; the input reads as it did. -/
def storeRefusesSpec : ChangeSpec := { name := "storeRefuses", fn := fun _ => fun
  | [d1, d2, d3] => { results := [.lit (.bool true)], args := [d1, d2, d3] }
  | _ => none }
def storeRefusesRow : OpenClaim := { program := "ytakfaffgfdbfmaa", sum := "f497ef03547ee64b770759a751c654110aac4e4b862cba5969cbfc92c6b7e3d1", func := "cachetier/cachetierlaw04.StoreRefuses", spec := "storeRefuses", inPlace := ["maps.clone"], unfollowed := true, recurses := true, plainKeys := false, apart := false }
def StoreRefusesSaid : Prop := storeRefusesRow.holds Try.pinned (OpenSpec.ofChange storeRefusesSpec)

/-- ITS FALSE NEIGHBOUR: 'it returns false'. Refute it at one input. -/
def storeRefusesWrong : ChangeSpec := { name := "storeRefuses", fn := fun _ => fun
  | [d1, d2, d3] => { results := [.lit (.bool false)], args := [d1, d2, d3] }
  | _ => none }
def StoreRefusesWrongFalsely : Prop := storeRefusesRow.holds Try.pinned (OpenSpec.ofChange storeRefusesWrong)

/-- 'cachetierlaw04.StoreLast': WHATEVER THE INPUT: true; the input reads as it did. -/
def storeLastSpec : ChangeSpec := { name := "storeLast", fn := fun _ => fun
  | [d1, d2] => { results := [.lit (.bool true)], args := [d1, d2] }
  | _ => none }
def storeLastRow : OpenClaim := { program := "ytakfaffgfdbfmaa", sum := "f497ef03547ee64b770759a751c654110aac4e4b862cba5969cbfc92c6b7e3d1", func := "cachetier/cachetierlaw04.StoreLast", spec := "storeLast", inPlace := ["maps.clone"], unfollowed := true, recurses := true, plainKeys := false, apart := false }
def StoreLastSaid : Prop := storeLastRow.holds Try.pinned (OpenSpec.ofChange storeLastSpec)

/-- ITS FALSE NEIGHBOUR: 'it returns false'. Refute it at one input. -/
def storeLastWrong : ChangeSpec := { name := "storeLast", fn := fun _ => fun
  | [d1, d2] => { results := [.lit (.bool false)], args := [d1, d2] }
  | _ => none }
def StoreLastWrongFalsely : Prop := storeLastRow.holds Try.pinned (OpenSpec.ofChange storeLastWrong)

/-- 'cachetierlaw04.StoreRanges': WHATEVER THE INPUT: true; the input reads as it did. -/
def storeRangesSpec : ChangeSpec := { name := "storeRanges", fn := fun _ => fun
  | [d1, d2, d3, d4] => { results := [.lit (.bool true)], args := [d1, d2, d3, d4] }
  | _ => none }
def storeRangesRow : OpenClaim := { program := "ytakfaffgfdbfmaa", sum := "f497ef03547ee64b770759a751c654110aac4e4b862cba5969cbfc92c6b7e3d1", func := "cachetier/cachetierlaw04.StoreRanges", spec := "storeRanges", inPlace := ["maps.clone"], unfollowed := true, recurses := true, plainKeys := false, apart := false }
def StoreRangesSaid : Prop := storeRangesRow.holds Try.pinned (OpenSpec.ofChange storeRangesSpec)

/-- ITS FALSE NEIGHBOUR: 'it returns false'. Refute it at one input. -/
def storeRangesWrong : ChangeSpec := { name := "storeRanges", fn := fun _ => fun
  | [d1, d2, d3, d4] => { results := [.lit (.bool false)], args := [d1, d2, d3, d4] }
  | _ => none }
def StoreRangesWrongFalsely : Prop := storeRangesRow.holds Try.pinned (OpenSpec.ofChange storeRangesWrong)

/-- 'cachetierlaw04.StoreClone': WHATEVER THE INPUT: true; the input reads as it did. -/
def storeCloneSpec : ChangeSpec := { name := "storeClone", fn := fun _ => fun
  | [d1, d2] => { results := [.lit (.bool true)], args := [d1, d2] }
  | _ => none }
def storeCloneRow : OpenClaim := { program := "ytakfaffgfdbfmaa", sum := "f497ef03547ee64b770759a751c654110aac4e4b862cba5969cbfc92c6b7e3d1", func := "cachetier/cachetierlaw04.StoreClone", spec := "storeClone", inPlace := ["maps.clone"], unfollowed := true, recurses := true, plainKeys := false, apart := false }
def StoreCloneSaid : Prop := storeCloneRow.holds Try.pinned (OpenSpec.ofChange storeCloneSpec)

/-- ITS FALSE NEIGHBOUR: 'it returns false'. Refute it at one input. -/
def storeCloneWrong : ChangeSpec := { name := "storeClone", fn := fun _ => fun
  | [d1, d2] => { results := [.lit (.bool false)], args := [d1, d2] }
  | _ => none }
def StoreCloneWrongFalsely : Prop := storeCloneRow.holds Try.pinned (OpenSpec.ofChange storeCloneWrong)

/-- 'cachetierlaw04.StoreCommutes': WHATEVER THE INPUT: true; the input reads as it did. -/
def storeCommutesSpec : ChangeSpec := { name := "storeCommutes", fn := fun _ => fun
  | [d1, d2, d3] => { results := [.lit (.bool true)], args := [d1, d2, d3] }
  | _ => none }
def storeCommutesRow : OpenClaim := { program := "ytakfaffgfdbfmaa", sum := "f497ef03547ee64b770759a751c654110aac4e4b862cba5969cbfc92c6b7e3d1", func := "cachetier/cachetierlaw04.StoreCommutes", spec := "storeCommutes", inPlace := ["maps.clone"], unfollowed := true, recurses := true, plainKeys := false, apart := false }
def StoreCommutesSaid : Prop := storeCommutesRow.holds Try.pinned (OpenSpec.ofChange storeCommutesSpec)

/-- ITS FALSE NEIGHBOUR: 'it returns false'. Refute it at one input. -/
def storeCommutesWrong : ChangeSpec := { name := "storeCommutes", fn := fun _ => fun
  | [d1, d2, d3] => { results := [.lit (.bool false)], args := [d1, d2, d3] }
  | _ => none }
def StoreCommutesWrongFalsely : Prop := storeCommutesRow.holds Try.pinned (OpenSpec.ofChange storeCommutesWrong)

/- THE SECOND FORM. 'bulk': how many values and letters a reading holds, each counted each time it is reached (what is shared counts as often as it is met; a slice's spare places count too). A statement '..UptoSaid' is the law's where the arguments, and the package variables that the reading takes, are together of bulk at most 1048576: NARROWER than '..Said'. Prove '..Said' where nothing that the law and all that it calls make is longer than what came in: it says more and counts as full. Else prove '..UptoSaid'. A law counts once. -/
mutual
def uptoBulk {H : Type} : DataW H → Nat
  | .lit (.string bytes) => bytes.length + 1
  | .lit _ => 1
  | .nil => 1
  | .ptr d => uptoBulk d + 1
  | .slice elems spare => uptoBulkAll elems + uptoBulkAll spare + 1
  | .agg parts => uptoBulkAll parts + 1
  | .iface _ d => uptoBulk d + 1
  | .map entries => uptoBulkEntries entries + 1
  | .held _ => 1
def uptoBulkAll {H : Type} : List (DataW H) → Nat
  | [] => 0
  | d :: r => uptoBulk d + uptoBulkAll r
def uptoBulkEntries {H : Type} : List (Lit × DataW H) → Nat
  | [] => 0
  | x :: r => uptoBulkEntry x + uptoBulkEntries r
def uptoBulkEntry {H : Type} : Lit × DataW H → Nat
  | (.string bytes, d) => bytes.length + uptoBulk d + 1
  | (_, d) => uptoBulk d + 1
 end
def uptoSmall : (H : Type) → List (DataW H) → Bool := fun _ ds => decide (uptoBulkAll ds ≤ 1048576)
def OpenSpec.upto (s : _root_.Go.ChangeSpec) : _root_.Go.OpenSpec := { _root_.Go.OpenSpec.ofChange s with cond := some uptoSmall }

/-- 'cachetierlaw04.StoreMatchesReference', WHERE WHAT IT READS IS OF BULK AT MOST 1048576: true; the input reads as it did. -/
def storeMatchesReferenceUptoRow : OpenClaim := { program := "ytakfaffgfdbfmaa", sum := "f497ef03547ee64b770759a751c654110aac4e4b862cba5969cbfc92c6b7e3d1", func := "cachetier/cachetierlaw04.StoreMatchesReference", spec := "storeMatchesReference", inPlace := ["maps.clone"], unfollowed := true, recurses := true, plainKeys := false, apart := false, narrowed := true }
def StoreMatchesReferenceUptoSaid : Prop := storeMatchesReferenceUptoRow.holds Try.pinned (OpenSpec.upto storeMatchesReferenceSpec)

/-- 'cachetierlaw04.StoreRangeMatchesReference', WHERE WHAT IT READS IS OF BULK AT MOST 1048576: true; the input reads as it did. -/
def storeRangeMatchesReferenceUptoRow : OpenClaim := { program := "ytakfaffgfdbfmaa", sum := "f497ef03547ee64b770759a751c654110aac4e4b862cba5969cbfc92c6b7e3d1", func := "cachetier/cachetierlaw04.StoreRangeMatchesReference", spec := "storeRangeMatchesReference", inPlace := ["maps.clone"], unfollowed := true, recurses := true, plainKeys := false, apart := false, narrowed := true }
def StoreRangeMatchesReferenceUptoSaid : Prop := storeRangeMatchesReferenceUptoRow.holds Try.pinned (OpenSpec.upto storeRangeMatchesReferenceSpec)

/-- 'cachetierlaw04.StoreUndo', WHERE WHAT IT READS IS OF BULK AT MOST 1048576: true; the input reads as it did. -/
def storeUndoUptoRow : OpenClaim := { program := "ytakfaffgfdbfmaa", sum := "f497ef03547ee64b770759a751c654110aac4e4b862cba5969cbfc92c6b7e3d1", func := "cachetier/cachetierlaw04.StoreUndo", spec := "storeUndo", inPlace := ["maps.clone"], unfollowed := true, recurses := true, plainKeys := false, apart := false, narrowed := true }
def StoreUndoUptoSaid : Prop := storeUndoUptoRow.holds Try.pinned (OpenSpec.upto storeUndoSpec)

/-- 'cachetierlaw04.StoreRefuses', WHERE WHAT IT READS IS OF BULK AT MOST 1048576: true; the input reads as it did. -/
def storeRefusesUptoRow : OpenClaim := { program := "ytakfaffgfdbfmaa", sum := "f497ef03547ee64b770759a751c654110aac4e4b862cba5969cbfc92c6b7e3d1", func := "cachetier/cachetierlaw04.StoreRefuses", spec := "storeRefuses", inPlace := ["maps.clone"], unfollowed := true, recurses := true, plainKeys := false, apart := false, narrowed := true }
def StoreRefusesUptoSaid : Prop := storeRefusesUptoRow.holds Try.pinned (OpenSpec.upto storeRefusesSpec)

/-- 'cachetierlaw04.StoreLast', WHERE WHAT IT READS IS OF BULK AT MOST 1048576: true; the input reads as it did. -/
def storeLastUptoRow : OpenClaim := { program := "ytakfaffgfdbfmaa", sum := "f497ef03547ee64b770759a751c654110aac4e4b862cba5969cbfc92c6b7e3d1", func := "cachetier/cachetierlaw04.StoreLast", spec := "storeLast", inPlace := ["maps.clone"], unfollowed := true, recurses := true, plainKeys := false, apart := false, narrowed := true }
def StoreLastUptoSaid : Prop := storeLastUptoRow.holds Try.pinned (OpenSpec.upto storeLastSpec)

/-- 'cachetierlaw04.StoreRanges', WHERE WHAT IT READS IS OF BULK AT MOST 1048576: true; the input reads as it did. -/
def storeRangesUptoRow : OpenClaim := { program := "ytakfaffgfdbfmaa", sum := "f497ef03547ee64b770759a751c654110aac4e4b862cba5969cbfc92c6b7e3d1", func := "cachetier/cachetierlaw04.StoreRanges", spec := "storeRanges", inPlace := ["maps.clone"], unfollowed := true, recurses := true, plainKeys := false, apart := false, narrowed := true }
def StoreRangesUptoSaid : Prop := storeRangesUptoRow.holds Try.pinned (OpenSpec.upto storeRangesSpec)

/-- 'cachetierlaw04.StoreClone', WHERE WHAT IT READS IS OF BULK AT MOST 1048576: true; the input reads as it did. -/
def storeCloneUptoRow : OpenClaim := { program := "ytakfaffgfdbfmaa", sum := "f497ef03547ee64b770759a751c654110aac4e4b862cba5969cbfc92c6b7e3d1", func := "cachetier/cachetierlaw04.StoreClone", spec := "storeClone", inPlace := ["maps.clone"], unfollowed := true, recurses := true, plainKeys := false, apart := false, narrowed := true }
def StoreCloneUptoSaid : Prop := storeCloneUptoRow.holds Try.pinned (OpenSpec.upto storeCloneSpec)

/-- 'cachetierlaw04.StoreCommutes', WHERE WHAT IT READS IS OF BULK AT MOST 1048576: true; the input reads as it did. -/
def storeCommutesUptoRow : OpenClaim := { program := "ytakfaffgfdbfmaa", sum := "f497ef03547ee64b770759a751c654110aac4e4b862cba5969cbfc92c6b7e3d1", func := "cachetier/cachetierlaw04.StoreCommutes", spec := "storeCommutes", inPlace := ["maps.clone"], unfollowed := true, recurses := true, plainKeys := false, apart := false, narrowed := true }
def StoreCommutesUptoSaid : Prop := storeCommutesUptoRow.holds Try.pinned (OpenSpec.upto storeCommutesSpec)

end Rows
end Go.Proofs.Ytakfaffgfdbfmaa
