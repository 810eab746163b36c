/-
  No cell of these rows narrows 'for every input' (looked for: loops, veiled, ifaces, maps, wideKeys, modest, calm, conditions, laid).
  DERIVED. THE GIVEN ROWS OF THIS SEAT. 4 by the template 'for every input the law returns true; each argument reads behind the call as it read before'; 0 by the template 'total and deterministic' (their statements: YtjiikpmkedkbkaaTotals.lean).
  GIVEN WITH THE SEED: the statements are not yours to turn. If you find one false, say at which input.
  Laid BY PROGRAM, IN A SANDBOX (cutbox-rows.mjs): the forced cells as the released guide's own fill.sh prints them over the translation 4d3bc9cf321aac28… (all of the seat's roots in one cut). By AI agents, Wed Nov 11 2026. No macro, syntax, notation, axiom, sorry.
-/
import Derived.Test.YtjiikpmkedkbkaaChecked
import GoSem.Claim
import GoSem.ClaimJoined
import GoSem.ClaimMapViews
import Derived.JoinedTies
import Derived.KernelRfl
namespace Go.Proofs.Ytjiikpmkedkbkaa
/- THE CELL 'sum', in the pinned program and in every row, IS THE sha256 OF THE DUMP (.gsa) THAT YtjiikpmkedkbkaaProg.lean LOADS. Nothing in Lean hashes anything: it is a label: what it is worth is what the hold of that sum in a sandbox is worth. -/
noncomputable def Try.pinned : Pinned := { name := "ytjiikpmkedkbkaa", sum := "4d3bc9cf321aac28969f9961dc87b43477db26f008ffd6a52b7ec517394e2841", checked := Try.checked }
namespace Rows
def none {H : Type} : Left H := { results := [], args := [] }

/-- 'cachetierlaw07.PredicateMatchesReference': WHATEVER THE INPUT: true; the input reads as it did. -/
def predicateMatchesReferenceSpec : ChangeSpec := { name := "predicateMatchesReference", fn := fun _ => fun
  | [d1, d2, d3, d4, d5] => { results := [.lit (.bool true)], args := [d1, d2, d3, d4, d5] }
  | _ => none }
def predicateMatchesReferenceRow : OpenClaim := { program := "ytjiikpmkedkbkaa", sum := "4d3bc9cf321aac28969f9961dc87b43477db26f008ffd6a52b7ec517394e2841", func := "cachetier/cachetierlaw07.PredicateMatchesReference", spec := "predicateMatchesReference", inPlace := ["slices.overlaps[cachetier/api.Row]", "slices.overlaps[cachetier/predicate.pair]"], unfollowed := true, recurses := true, apart := false }
def PredicateMatchesReferenceSaid : Prop := predicateMatchesReferenceRow.holds Try.pinned (OpenSpec.ofChange predicateMatchesReferenceSpec)

/-- ITS FALSE NEIGHBOUR: 'it returns false'. Refute it at one input. -/
def predicateMatchesReferenceWrong : ChangeSpec := { name := "predicateMatchesReference", fn := fun _ => fun
  | [d1, d2, d3, d4, d5] => { results := [.lit (.bool false)], args := [d1, d2, d3, d4, d5] }
  | _ => none }
def PredicateMatchesReferenceWrongFalsely : Prop := predicateMatchesReferenceRow.holds Try.pinned (OpenSpec.ofChange predicateMatchesReferenceWrong)

/-- 'cachetierlaw07.PredicateApplyMatchesReference': WHATEVER THE INPUT: true; the input reads as it did. -/
def predicateApplyMatchesReferenceSpec : ChangeSpec := { name := "predicateApplyMatchesReference", fn := fun _ => fun
  | [d1, d2, d3] => { results := [.lit (.bool true)], args := [d1, d2, d3] }
  | _ => none }
def predicateApplyMatchesReferenceRow : OpenClaim := { program := "ytjiikpmkedkbkaa", sum := "4d3bc9cf321aac28969f9961dc87b43477db26f008ffd6a52b7ec517394e2841", func := "cachetier/cachetierlaw07.PredicateApplyMatchesReference", spec := "predicateApplyMatchesReference", inPlace := ["slices.overlaps[cachetier/api.Row]", "slices.overlaps[cachetier/predicate.pair]"], unfollowed := true, recurses := true, apart := false }
def PredicateApplyMatchesReferenceSaid : Prop := predicateApplyMatchesReferenceRow.holds Try.pinned (OpenSpec.ofChange predicateApplyMatchesReferenceSpec)

/-- ITS FALSE NEIGHBOUR: 'it returns false'. Refute it at one input. -/
def predicateApplyMatchesReferenceWrong : ChangeSpec := { name := "predicateApplyMatchesReference", fn := fun _ => fun
  | [d1, d2, d3] => { results := [.lit (.bool false)], args := [d1, d2, d3] }
  | _ => none }
def PredicateApplyMatchesReferenceWrongFalsely : Prop := predicateApplyMatchesReferenceRow.holds Try.pinned (OpenSpec.ofChange predicateApplyMatchesReferenceWrong)

/-- 'cachetierlaw07.PredicateOrder': WHATEVER THE INPUT: true; the input reads as it did. -/
def predicateOrderSpec : ChangeSpec := { name := "predicateOrder", fn := fun _ => fun
  | [d1, d2, d3] => { results := [.lit (.bool true)], args := [d1, d2, d3] }
  | _ => none }
def predicateOrderRow : OpenClaim := { program := "ytjiikpmkedkbkaa", sum := "4d3bc9cf321aac28969f9961dc87b43477db26f008ffd6a52b7ec517394e2841", func := "cachetier/cachetierlaw07.PredicateOrder", spec := "predicateOrder", inPlace := ["slices.overlaps[cachetier/api.Row]", "slices.overlaps[cachetier/predicate.pair]"], unfollowed := true, recurses := true, apart := false }
def PredicateOrderSaid : Prop := predicateOrderRow.holds Try.pinned (OpenSpec.ofChange predicateOrderSpec)

/-- ITS FALSE NEIGHBOUR: 'it returns false'. Refute it at one input. -/
def predicateOrderWrong : ChangeSpec := { name := "predicateOrder", fn := fun _ => fun
  | [d1, d2, d3] => { results := [.lit (.bool false)], args := [d1, d2, d3] }
  | _ => none }
def PredicateOrderWrongFalsely : Prop := predicateOrderRow.holds Try.pinned (OpenSpec.ofChange predicateOrderWrong)

/-- 'cachetierlaw07.PredicateForeign': WHATEVER THE INPUT: true; the input reads as it did. -/
def predicateForeignSpec : ChangeSpec := { name := "predicateForeign", fn := fun _ => fun
  | [d1, d2, d3] => { results := [.lit (.bool true)], args := [d1, d2, d3] }
  | _ => none }
def predicateForeignRow : OpenClaim := { program := "ytjiikpmkedkbkaa", sum := "4d3bc9cf321aac28969f9961dc87b43477db26f008ffd6a52b7ec517394e2841", func := "cachetier/cachetierlaw07.PredicateForeign", spec := "predicateForeign", inPlace := ["slices.overlaps[cachetier/api.Row]", "slices.overlaps[cachetier/predicate.pair]"], unfollowed := true, recurses := true, apart := false }
def PredicateForeignSaid : Prop := predicateForeignRow.holds Try.pinned (OpenSpec.ofChange predicateForeignSpec)

/-- ITS FALSE NEIGHBOUR: 'it returns false'. Refute it at one input. -/
def predicateForeignWrong : ChangeSpec := { name := "predicateForeign", fn := fun _ => fun
  | [d1, d2, d3] => { results := [.lit (.bool false)], args := [d1, d2, d3] }
  | _ => none }
def PredicateForeignWrongFalsely : Prop := predicateForeignRow.holds Try.pinned (OpenSpec.ofChange predicateForeignWrong)

/- THE SECOND FORM. 'bulk': how many values and letters a reading holds, each counted each time it is reached (what is shared counts as often as it is met; a slice's spare places count too). A statement '..UptoSaid' is the law's where the arguments, and the package variables that the reading takes, are together of bulk at most 1048576: NARROWER than '..Said'. Prove '..Said' where nothing that the law and all that it calls make is longer than what came in: it says more and counts as full. Else prove '..UptoSaid'. A law counts once. -/
mutual
def uptoBulk {H : Type} : DataW H → Nat
  | .lit (.string bytes) => bytes.length + 1
  | .lit _ => 1
  | .nil => 1
  | .ptr d => uptoBulk d + 1
  | .slice elems spare => uptoBulkAll elems + uptoBulkAll spare + 1
  | .agg parts => uptoBulkAll parts + 1
  | .iface _ d => uptoBulk d + 1
  | .map entries => uptoBulkEntries entries + 1
  | .held _ => 1
def uptoBulkAll {H : Type} : List (DataW H) → Nat
  | [] => 0
  | d :: r => uptoBulk d + uptoBulkAll r
def uptoBulkEntries {H : Type} : List (Lit × DataW H) → Nat
  | [] => 0
  | x :: r => uptoBulkEntry x + uptoBulkEntries r
def uptoBulkEntry {H : Type} : Lit × DataW H → Nat
  | (.string bytes, d) => bytes.length + uptoBulk d + 1
  | (_, d) => uptoBulk d + 1
 end
def uptoSmall : (H : Type) → List (DataW H) → Bool := fun _ ds => decide (uptoBulkAll ds ≤ 1048576)
def OpenSpec.upto (s : _root_.Go.ChangeSpec) : _root_.Go.OpenSpec := { _root_.Go.OpenSpec.ofChange s with cond := some uptoSmall }

/-- 'cachetierlaw07.PredicateMatchesReference', WHERE WHAT IT READS IS OF BULK AT MOST 1048576: true; the input reads as it did. -/
def predicateMatchesReferenceUptoRow : OpenClaim := { program := "ytjiikpmkedkbkaa", sum := "4d3bc9cf321aac28969f9961dc87b43477db26f008ffd6a52b7ec517394e2841", func := "cachetier/cachetierlaw07.PredicateMatchesReference", spec := "predicateMatchesReference", inPlace := ["slices.overlaps[cachetier/api.Row]", "slices.overlaps[cachetier/predicate.pair]"], unfollowed := true, recurses := true, apart := false, narrowed := true }
def PredicateMatchesReferenceUptoSaid : Prop := predicateMatchesReferenceUptoRow.holds Try.pinned (OpenSpec.upto predicateMatchesReferenceSpec)

/-- 'cachetierlaw07.PredicateApplyMatchesReference', WHERE WHAT IT READS IS OF BULK AT MOST 1048576: true; the input reads as it did. -/
def predicateApplyMatchesReferenceUptoRow : OpenClaim := { program := "ytjiikpmkedkbkaa", sum := "4d3bc9cf321aac28969f9961dc87b43477db26f008ffd6a52b7ec517394e2841", func := "cachetier/cachetierlaw07.PredicateApplyMatchesReference", spec := "predicateApplyMatchesReference", inPlace := ["slices.overlaps[cachetier/api.Row]", "slices.overlaps[cachetier/predicate.pair]"], unfollowed := true, recurses := true, apart := false, narrowed := true }
def PredicateApplyMatchesReferenceUptoSaid : Prop := predicateApplyMatchesReferenceUptoRow.holds Try.pinned (OpenSpec.upto predicateApplyMatchesReferenceSpec)

/-- 'cachetierlaw07.PredicateOrder', WHERE WHAT IT READS IS OF BULK AT MOST 1048576: true; the input reads as it did. -/
def predicateOrderUptoRow : OpenClaim := { program := "ytjiikpmkedkbkaa", sum := "4d3bc9cf321aac28969f9961dc87b43477db26f008ffd6a52b7ec517394e2841", func := "cachetier/cachetierlaw07.PredicateOrder", spec := "predicateOrder", inPlace := ["slices.overlaps[cachetier/api.Row]", "slices.overlaps[cachetier/predicate.pair]"], unfollowed := true, recurses := true, apart := false, narrowed := true }
def PredicateOrderUptoSaid : Prop := predicateOrderUptoRow.holds Try.pinned (OpenSpec.upto predicateOrderSpec)

/-- 'cachetierlaw07.PredicateForeign', WHERE WHAT IT READS IS OF BULK AT MOST 1048576: true; the input reads as it did. -/
def predicateForeignUptoRow : OpenClaim := { program := "ytjiikpmkedkbkaa", sum := "4d3bc9cf321aac28969f9961dc87b43477db26f008ffd6a52b7ec517394e2841", func := "cachetier/cachetierlaw07.PredicateForeign", spec := "predicateForeign", inPlace := ["slices.overlaps[cachetier/api.Row]", "slices.overlaps[cachetier/predicate.pair]"], unfollowed := true, recurses := true, apart := false, narrowed := true }
def PredicateForeignUptoSaid : Prop := predicateForeignUptoRow.holds Try.pinned (OpenSpec.upto predicateForeignSpec)

end Rows
end Go.Proofs.Ytjiikpmkedkbkaa
