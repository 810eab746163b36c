/-
  No cell of these rows narrows 'for every input' (looked for: loops, veiled, ifaces, maps, wideKeys, modest, calm, conditions, laid).
  DERIVED. THE GIVEN ROWS OF THIS SEAT. 5 by the template 'for every input the law returns true; each argument reads behind the call as it read before'; 0 by the template 'total and deterministic' (their statements: YtjiikpmkedkbkaaGreatTotals.lean).
  GIVEN WITH THE SEED: the statements are not yours to turn. If you find one false, say at which input.
  Laid BY PROGRAM, IN A SANDBOX (cutbox-rows.mjs): the forced cells as the released guide's own fill.sh prints them over the translation 163ddec7dc7479e5… (all of the seat's roots in one cut). By AI agents, Wed Nov 11 2026. No macro, syntax, notation, axiom, sorry.
-/
import Derived.Test.YtjiikpmkedkbkaaGreatChecked
import GoSem.Claim
import GoSem.ClaimJoined
import GoSem.ClaimMapViews
import Derived.JoinedTies
import Derived.KernelRfl
namespace Go.Proofs.YtjiikpmkedkbkaaGreat
/- THE CELL 'sum', in the pinned program and in every row, IS THE sha256 OF THE DUMP (.gsa) THAT YtjiikpmkedkbkaaGreatProg.lean LOADS. Nothing in Lean hashes anything: it is a label: what it is worth is what the hold of that sum in a sandbox is worth. -/
noncomputable def Tryz.pinned : Pinned := { name := "ytjiikpmkedkbkaagreat", sum := "163ddec7dc7479e54de70fb3e6890e3ea2c18a07fc369c2748d46840d8fe44ce", checked := Tryz.checked }
namespace Rows
def none {H : Type} : Left H := { results := [], args := [] }

/-- 'cachetierlaw07.PredicateUntouched': WHATEVER THE INPUT: true; the input reads as it did. -/
def predicateUntouchedSpec : ChangeSpec := { name := "predicateUntouched", fn := fun _ => fun
  | [d1, d2] => { results := [.lit (.bool true)], args := [d1, d2] }
  | _ => none }
def predicateUntouchedRow : OpenClaim := { program := "ytjiikpmkedkbkaagreat", sum := "163ddec7dc7479e54de70fb3e6890e3ea2c18a07fc369c2748d46840d8fe44ce", func := "cachetier/cachetierlaw07.PredicateUntouched", spec := "predicateUntouched", inPlace := ["slices.overlaps[cachetier/api.Row]", "slices.overlaps[cachetier/predicate.pair]"], unfollowed := true, recurses := true, plainKeys := false, apart := false }
def PredicateUntouchedSaid : Prop := predicateUntouchedRow.holds Tryz.pinned (OpenSpec.ofChange predicateUntouchedSpec)

/-- ITS FALSE NEIGHBOUR: 'it returns false'. Refute it at one input. -/
def predicateUntouchedWrong : ChangeSpec := { name := "predicateUntouched", fn := fun _ => fun
  | [d1, d2] => { results := [.lit (.bool false)], args := [d1, d2] }
  | _ => none }
def PredicateUntouchedWrongFalsely : Prop := predicateUntouchedRow.holds Tryz.pinned (OpenSpec.ofChange predicateUntouchedWrong)

/-- 'cachetierlaw07.PredicatePatched': WHATEVER THE INPUT: true; the input reads as it did. -/
def predicatePatchedSpec : ChangeSpec := { name := "predicatePatched", fn := fun _ => fun
  | [d1, d2] => { results := [.lit (.bool true)], args := [d1, d2] }
  | _ => none }
def predicatePatchedRow : OpenClaim := { program := "ytjiikpmkedkbkaagreat", sum := "163ddec7dc7479e54de70fb3e6890e3ea2c18a07fc369c2748d46840d8fe44ce", func := "cachetier/cachetierlaw07.PredicatePatched", spec := "predicatePatched", inPlace := ["slices.overlaps[cachetier/api.Row]", "slices.overlaps[cachetier/predicate.pair]"], unfollowed := true, recurses := true, plainKeys := false, apart := false }
def PredicatePatchedSaid : Prop := predicatePatchedRow.holds Tryz.pinned (OpenSpec.ofChange predicatePatchedSpec)

/-- ITS FALSE NEIGHBOUR: 'it returns false'. Refute it at one input. -/
def predicatePatchedWrong : ChangeSpec := { name := "predicatePatched", fn := fun _ => fun
  | [d1, d2] => { results := [.lit (.bool false)], args := [d1, d2] }
  | _ => none }
def PredicatePatchedWrongFalsely : Prop := predicatePatchedRow.holds Tryz.pinned (OpenSpec.ofChange predicatePatchedWrong)

/-- 'cachetierlaw07.PredicateAlways': WHATEVER THE INPUT: true; the input reads as it did. -/
def predicateAlwaysSpec : ChangeSpec := { name := "predicateAlways", fn := fun _ => fun
  | [d1, d2] => { results := [.lit (.bool true)], args := [d1, d2] }
  | _ => none }
def predicateAlwaysRow : OpenClaim := { program := "ytjiikpmkedkbkaagreat", sum := "163ddec7dc7479e54de70fb3e6890e3ea2c18a07fc369c2748d46840d8fe44ce", func := "cachetier/cachetierlaw07.PredicateAlways", spec := "predicateAlways", inPlace := ["slices.overlaps[cachetier/api.Row]", "slices.overlaps[cachetier/predicate.pair]"], unfollowed := true, recurses := true, plainKeys := false, apart := false }
def PredicateAlwaysSaid : Prop := predicateAlwaysRow.holds Tryz.pinned (OpenSpec.ofChange predicateAlwaysSpec)

/-- ITS FALSE NEIGHBOUR: 'it returns false'. Refute it at one input. -/
def predicateAlwaysWrong : ChangeSpec := { name := "predicateAlways", fn := fun _ => fun
  | [d1, d2] => { results := [.lit (.bool false)], args := [d1, d2] }
  | _ => none }
def PredicateAlwaysWrongFalsely : Prop := predicateAlwaysRow.holds Tryz.pinned (OpenSpec.ofChange predicateAlwaysWrong)

/-- 'cachetierlaw07.PredicateSplit': WHATEVER THE INPUT: true; the input reads as it did. -/
def predicateSplitSpec : ChangeSpec := { name := "predicateSplit", fn := fun _ => fun
  | [d1, d2] => { results := [.lit (.bool true)], args := [d1, d2] }
  | _ => none }
def predicateSplitRow : OpenClaim := { program := "ytjiikpmkedkbkaagreat", sum := "163ddec7dc7479e54de70fb3e6890e3ea2c18a07fc369c2748d46840d8fe44ce", func := "cachetier/cachetierlaw07.PredicateSplit", spec := "predicateSplit", inPlace := ["slices.overlaps[cachetier/api.Row]", "slices.overlaps[cachetier/predicate.pair]"], unfollowed := true, recurses := true, plainKeys := false, apart := false }
def PredicateSplitSaid : Prop := predicateSplitRow.holds Tryz.pinned (OpenSpec.ofChange predicateSplitSpec)

/-- ITS FALSE NEIGHBOUR: 'it returns false'. Refute it at one input. -/
def predicateSplitWrong : ChangeSpec := { name := "predicateSplit", fn := fun _ => fun
  | [d1, d2] => { results := [.lit (.bool false)], args := [d1, d2] }
  | _ => none }
def PredicateSplitWrongFalsely : Prop := predicateSplitRow.holds Tryz.pinned (OpenSpec.ofChange predicateSplitWrong)

/-- 'cachetierlaw07.PredicateKept': WHATEVER THE INPUT: true; the input reads as it did. -/
def predicateKeptSpec : ChangeSpec := { name := "predicateKept", fn := fun _ => fun
  | [d1, d2, d3] => { results := [.lit (.bool true)], args := [d1, d2, d3] }
  | _ => none }
def predicateKeptRow : OpenClaim := { program := "ytjiikpmkedkbkaagreat", sum := "163ddec7dc7479e54de70fb3e6890e3ea2c18a07fc369c2748d46840d8fe44ce", func := "cachetier/cachetierlaw07.PredicateKept", spec := "predicateKept", inPlace := ["slices.overlaps[cachetier/api.Row]", "slices.overlaps[cachetier/predicate.pair]"], unfollowed := true, recurses := true, plainKeys := false, apart := false }
def PredicateKeptSaid : Prop := predicateKeptRow.holds Tryz.pinned (OpenSpec.ofChange predicateKeptSpec)

/-- ITS FALSE NEIGHBOUR: 'it returns false'. Refute it at one input. -/
def predicateKeptWrong : ChangeSpec := { name := "predicateKept", fn := fun _ => fun
  | [d1, d2, d3] => { results := [.lit (.bool false)], args := [d1, d2, d3] }
  | _ => none }
def PredicateKeptWrongFalsely : Prop := predicateKeptRow.holds Tryz.pinned (OpenSpec.ofChange predicateKeptWrong)

/- THE SECOND FORM. 'bulk': how many values and letters a reading holds, each counted each time it is reached (what is shared counts as often as it is met; a slice's spare places count too). A statement '..UptoSaid' is the law's where the arguments, and the package variables that the reading takes, are together of bulk at most 1048576: NARROWER than '..Said'. Prove '..Said' where nothing that the law and all that it calls make is longer than what came in: it says more and counts as full. Else prove '..UptoSaid'. A law counts once. -/
mutual
def uptoBulk {H : Type} : DataW H → Nat
  | .lit (.string bytes) => bytes.length + 1
  | .lit _ => 1
  | .nil => 1
  | .ptr d => uptoBulk d + 1
  | .slice elems spare => uptoBulkAll elems + uptoBulkAll spare + 1
  | .agg parts => uptoBulkAll parts + 1
  | .iface _ d => uptoBulk d + 1
  | .map entries => uptoBulkEntries entries + 1
  | .held _ => 1
def uptoBulkAll {H : Type} : List (DataW H) → Nat
  | [] => 0
  | d :: r => uptoBulk d + uptoBulkAll r
def uptoBulkEntries {H : Type} : List (Lit × DataW H) → Nat
  | [] => 0
  | x :: r => uptoBulkEntry x + uptoBulkEntries r
def uptoBulkEntry {H : Type} : Lit × DataW H → Nat
  | (.string bytes, d) => bytes.length + uptoBulk d + 1
  | (_, d) => uptoBulk d + 1
 end
def uptoSmall : (H : Type) → List (DataW H) → Bool := fun _ ds => decide (uptoBulkAll ds ≤ 1048576)
def OpenSpec.upto (s : _root_.Go.ChangeSpec) : _root_.Go.OpenSpec := { _root_.Go.OpenSpec.ofChange s with cond := some uptoSmall }

/-- 'cachetierlaw07.PredicateUntouched', WHERE WHAT IT READS IS OF BULK AT MOST 1048576: true; the input reads as it did. -/
def predicateUntouchedUptoRow : OpenClaim := { program := "ytjiikpmkedkbkaagreat", sum := "163ddec7dc7479e54de70fb3e6890e3ea2c18a07fc369c2748d46840d8fe44ce", func := "cachetier/cachetierlaw07.PredicateUntouched", spec := "predicateUntouched", inPlace := ["slices.overlaps[cachetier/api.Row]", "slices.overlaps[cachetier/predicate.pair]"], unfollowed := true, recurses := true, plainKeys := false, apart := false, narrowed := true }
def PredicateUntouchedUptoSaid : Prop := predicateUntouchedUptoRow.holds Tryz.pinned (OpenSpec.upto predicateUntouchedSpec)

/-- 'cachetierlaw07.PredicatePatched', WHERE WHAT IT READS IS OF BULK AT MOST 1048576: true; the input reads as it did. -/
def predicatePatchedUptoRow : OpenClaim := { program := "ytjiikpmkedkbkaagreat", sum := "163ddec7dc7479e54de70fb3e6890e3ea2c18a07fc369c2748d46840d8fe44ce", func := "cachetier/cachetierlaw07.PredicatePatched", spec := "predicatePatched", inPlace := ["slices.overlaps[cachetier/api.Row]", "slices.overlaps[cachetier/predicate.pair]"], unfollowed := true, recurses := true, plainKeys := false, apart := false, narrowed := true }
def PredicatePatchedUptoSaid : Prop := predicatePatchedUptoRow.holds Tryz.pinned (OpenSpec.upto predicatePatchedSpec)

/-- 'cachetierlaw07.PredicateAlways', WHERE WHAT IT READS IS OF BULK AT MOST 1048576: true; the input reads as it did. -/
def predicateAlwaysUptoRow : OpenClaim := { program := "ytjiikpmkedkbkaagreat", sum := "163ddec7dc7479e54de70fb3e6890e3ea2c18a07fc369c2748d46840d8fe44ce", func := "cachetier/cachetierlaw07.PredicateAlways", spec := "predicateAlways", inPlace := ["slices.overlaps[cachetier/api.Row]", "slices.overlaps[cachetier/predicate.pair]"], unfollowed := true, recurses := true, plainKeys := false, apart := false, narrowed := true }
def PredicateAlwaysUptoSaid : Prop := predicateAlwaysUptoRow.holds Tryz.pinned (OpenSpec.upto predicateAlwaysSpec)

/-- 'cachetierlaw07.PredicateSplit', WHERE WHAT IT READS IS OF BULK AT MOST 1048576: true; the input reads as it did. -/
def predicateSplitUptoRow : OpenClaim := { program := "ytjiikpmkedkbkaagreat", sum := "163ddec7dc7479e54de70fb3e6890e3ea2c18a07fc369c2748d46840d8fe44ce", func := "cachetier/cachetierlaw07.PredicateSplit", spec := "predicateSplit", inPlace := ["slices.overlaps[cachetier/api.Row]", "slices.overlaps[cachetier/predicate.pair]"], unfollowed := true, recurses := true, plainKeys := false, apart := false, narrowed := true }
def PredicateSplitUptoSaid : Prop := predicateSplitUptoRow.holds Tryz.pinned (OpenSpec.upto predicateSplitSpec)

/-- 'cachetierlaw07.PredicateKept', WHERE WHAT IT READS IS OF BULK AT MOST 1048576: true; the input reads as it did. -/
def predicateKeptUptoRow : OpenClaim := { program := "ytjiikpmkedkbkaagreat", sum := "163ddec7dc7479e54de70fb3e6890e3ea2c18a07fc369c2748d46840d8fe44ce", func := "cachetier/cachetierlaw07.PredicateKept", spec := "predicateKept", inPlace := ["slices.overlaps[cachetier/api.Row]", "slices.overlaps[cachetier/predicate.pair]"], unfollowed := true, recurses := true, plainKeys := false, apart := false, narrowed := true }
def PredicateKeptUptoSaid : Prop := predicateKeptUptoRow.holds Tryz.pinned (OpenSpec.upto predicateKeptSpec)

end Rows
end Go.Proofs.YtjiikpmkedkbkaaGreat
