/-
  No cell of these rows narrows 'for every input' (looked for: loops, veiled, ifaces, maps, wideKeys, modest, calm, conditions, laid).
  DERIVED. THE GIVEN ROWS OF THIS SEAT. 7 by the template 'for every input the law returns true; each argument reads behind the call as it read before'; 0 by the template 'total and deterministic' (their statements: YtciaallekkdnhaaGreatTotals.lean).
  GIVEN WITH THE SEED: the statements are not yours to turn. If you find one false, say at which input.
  Laid BY PROGRAM, IN A SANDBOX (cutbox-rows.mjs): the forced cells as the released guide's own fill.sh prints them over the translation 7fe920bfdd60f77b… (all of the seat's roots in one cut). By AI agents, Wed Nov 11 2026. No macro, syntax, notation, axiom, sorry.
-/
import Derived.Test.YtciaallekkdnhaaGreatChecked
import GoSem.Claim
import GoSem.ClaimJoined
import GoSem.ClaimMapViews
import Derived.JoinedTies
import Derived.KernelRfl
namespace Go.Proofs.YtciaallekkdnhaaGreat
/- THE CELL 'sum', in the pinned program and in every row, IS THE sha256 OF THE DUMP (.gsa) THAT YtciaallekkdnhaaGreatProg.lean LOADS. Nothing in Lean hashes anything: it is a label: what it is worth is what the hold of that sum in a sandbox is worth. -/
noncomputable def Tryz.pinned : Pinned := { name := "ytciaallekkdnhaagreat", sum := "7fe920bfdd60f77b16f70e0b0aa0632862523b5caaab37073939a47755d5c880", checked := Tryz.checked }
namespace Rows
def none {H : Type} : Left H := { results := [], args := [] }

/-- 'cachetierlaw08.MatchMatchesReference': WHATEVER THE INPUT: true; the input reads as it did. -/
def matchMatchesReferenceSpec : ChangeSpec := { name := "matchMatchesReference", fn := fun _ => fun
  | [d1, d2, d3] => { results := [.lit (.bool true)], args := [d1, d2, d3] }
  | _ => none }
def matchMatchesReferenceRow : OpenClaim := { program := "ytciaallekkdnhaagreat", sum := "7fe920bfdd60f77b16f70e0b0aa0632862523b5caaab37073939a47755d5c880", func := "cachetier/cachetierlaw08.MatchMatchesReference", spec := "matchMatchesReference", inPlace := ["slices.overlaps[cachetier/api.Row]", "slices.overlaps[cachetier/predicate.pair]"], unfollowed := true, recurses := true, plainKeys := false, apart := false }
def MatchMatchesReferenceSaid : Prop := matchMatchesReferenceRow.holds Tryz.pinned (OpenSpec.ofChange matchMatchesReferenceSpec)

/-- ITS FALSE NEIGHBOUR: 'it returns false'. Refute it at one input. -/
def matchMatchesReferenceWrong : ChangeSpec := { name := "matchMatchesReference", fn := fun _ => fun
  | [d1, d2, d3] => { results := [.lit (.bool false)], args := [d1, d2, d3] }
  | _ => none }
def MatchMatchesReferenceWrongFalsely : Prop := matchMatchesReferenceRow.holds Tryz.pinned (OpenSpec.ofChange matchMatchesReferenceWrong)

/-- 'cachetierlaw08.MatchScans': WHATEVER THE INPUT: true; the input reads as it did. -/
def matchScansSpec : ChangeSpec := { name := "matchScans", fn := fun _ => fun
  | [d1, d2] => { results := [.lit (.bool true)], args := [d1, d2] }
  | _ => none }
def matchScansRow : OpenClaim := { program := "ytciaallekkdnhaagreat", sum := "7fe920bfdd60f77b16f70e0b0aa0632862523b5caaab37073939a47755d5c880", func := "cachetier/cachetierlaw08.MatchScans", spec := "matchScans", inPlace := ["slices.overlaps[cachetier/api.Row]", "slices.overlaps[cachetier/predicate.pair]"], unfollowed := true, recurses := true, plainKeys := false, apart := false }
def MatchScansSaid : Prop := matchScansRow.holds Tryz.pinned (OpenSpec.ofChange matchScansSpec)

/-- ITS FALSE NEIGHBOUR: 'it returns false'. Refute it at one input. -/
def matchScansWrong : ChangeSpec := { name := "matchScans", fn := fun _ => fun
  | [d1, d2] => { results := [.lit (.bool false)], args := [d1, d2] }
  | _ => none }
def MatchScansWrongFalsely : Prop := matchScansRow.holds Tryz.pinned (OpenSpec.ofChange matchScansWrong)

/-- 'cachetierlaw08.MatchChanges': WHATEVER THE INPUT: true; the input reads as it did. -/
def matchChangesSpec : ChangeSpec := { name := "matchChanges", fn := fun _ => fun
  | [d1, d2] => { results := [.lit (.bool true)], args := [d1, d2] }
  | _ => none }
def matchChangesRow : OpenClaim := { program := "ytciaallekkdnhaagreat", sum := "7fe920bfdd60f77b16f70e0b0aa0632862523b5caaab37073939a47755d5c880", func := "cachetier/cachetierlaw08.MatchChanges", spec := "matchChanges", inPlace := ["slices.overlaps[cachetier/api.Row]", "slices.overlaps[cachetier/predicate.pair]"], unfollowed := true, recurses := true, plainKeys := false, apart := false }
def MatchChangesSaid : Prop := matchChangesRow.holds Tryz.pinned (OpenSpec.ofChange matchChangesSpec)

/-- ITS FALSE NEIGHBOUR: 'it returns false'. Refute it at one input. -/
def matchChangesWrong : ChangeSpec := { name := "matchChanges", fn := fun _ => fun
  | [d1, d2] => { results := [.lit (.bool false)], args := [d1, d2] }
  | _ => none }
def MatchChangesWrongFalsely : Prop := matchChangesRow.holds Tryz.pinned (OpenSpec.ofChange matchChangesWrong)

/-- 'cachetierlaw08.MatchRows': WHATEVER THE INPUT: true; the input reads as it did. -/
def matchRowsSpec : ChangeSpec := { name := "matchRows", fn := fun _ => fun
  | [d1, d2, d3] => { results := [.lit (.bool true)], args := [d1, d2, d3] }
  | _ => none }
def matchRowsRow : OpenClaim := { program := "ytciaallekkdnhaagreat", sum := "7fe920bfdd60f77b16f70e0b0aa0632862523b5caaab37073939a47755d5c880", func := "cachetier/cachetierlaw08.MatchRows", spec := "matchRows", inPlace := ["slices.overlaps[cachetier/api.Row]", "slices.overlaps[cachetier/predicate.pair]"], unfollowed := true, recurses := true, plainKeys := false, apart := false }
def MatchRowsSaid : Prop := matchRowsRow.holds Tryz.pinned (OpenSpec.ofChange matchRowsSpec)

/-- ITS FALSE NEIGHBOUR: 'it returns false'. Refute it at one input. -/
def matchRowsWrong : ChangeSpec := { name := "matchRows", fn := fun _ => fun
  | [d1, d2, d3] => { results := [.lit (.bool false)], args := [d1, d2, d3] }
  | _ => none }
def MatchRowsWrongFalsely : Prop := matchRowsRow.holds Tryz.pinned (OpenSpec.ofChange matchRowsWrong)

/-- 'cachetierlaw08.MatchFull': WHATEVER THE INPUT: true; the input reads as it did. -/
def matchFullSpec : ChangeSpec := { name := "matchFull", fn := fun _ => fun
  | [d1, d2] => { results := [.lit (.bool true)], args := [d1, d2] }
  | _ => none }
def matchFullRow : OpenClaim := { program := "ytciaallekkdnhaagreat", sum := "7fe920bfdd60f77b16f70e0b0aa0632862523b5caaab37073939a47755d5c880", func := "cachetier/cachetierlaw08.MatchFull", spec := "matchFull", inPlace := ["slices.overlaps[cachetier/api.Row]", "slices.overlaps[cachetier/predicate.pair]"], unfollowed := true, recurses := true, plainKeys := false, apart := false }
def MatchFullSaid : Prop := matchFullRow.holds Tryz.pinned (OpenSpec.ofChange matchFullSpec)

/-- ITS FALSE NEIGHBOUR: 'it returns false'. Refute it at one input. -/
def matchFullWrong : ChangeSpec := { name := "matchFull", fn := fun _ => fun
  | [d1, d2] => { results := [.lit (.bool false)], args := [d1, d2] }
  | _ => none }
def MatchFullWrongFalsely : Prop := matchFullRow.holds Tryz.pinned (OpenSpec.ofChange matchFullWrong)

/-- 'cachetierlaw08.MatchMissesNothing': WHATEVER THE INPUT: true; the input reads as it did. -/
def matchMissesNothingSpec : ChangeSpec := { name := "matchMissesNothing", fn := fun _ => fun
  | [d1, d2] => { results := [.lit (.bool true)], args := [d1, d2] }
  | _ => none }
def matchMissesNothingRow : OpenClaim := { program := "ytciaallekkdnhaagreat", sum := "7fe920bfdd60f77b16f70e0b0aa0632862523b5caaab37073939a47755d5c880", func := "cachetier/cachetierlaw08.MatchMissesNothing", spec := "matchMissesNothing", inPlace := ["slices.overlaps[cachetier/api.Row]", "slices.overlaps[cachetier/predicate.pair]", "maps.clone"], unfollowed := true, recurses := true, plainKeys := false, apart := false }
def MatchMissesNothingSaid : Prop := matchMissesNothingRow.holds Tryz.pinned (OpenSpec.ofChange matchMissesNothingSpec)

/-- ITS FALSE NEIGHBOUR: 'it returns false'. Refute it at one input. -/
def matchMissesNothingWrong : ChangeSpec := { name := "matchMissesNothing", fn := fun _ => fun
  | [d1, d2] => { results := [.lit (.bool false)], args := [d1, d2] }
  | _ => none }
def MatchMissesNothingWrongFalsely : Prop := matchMissesNothingRow.holds Tryz.pinned (OpenSpec.ofChange matchMissesNothingWrong)

/-- 'cachetierlaw08.MatchViews': WHATEVER THE INPUT: true; the input reads as it did. -/
def matchViewsSpec : ChangeSpec := { name := "matchViews", fn := fun _ => fun
  | [d1, d2] => { results := [.lit (.bool true)], args := [d1, d2] }
  | _ => none }
def matchViewsRow : OpenClaim := { program := "ytciaallekkdnhaagreat", sum := "7fe920bfdd60f77b16f70e0b0aa0632862523b5caaab37073939a47755d5c880", func := "cachetier/cachetierlaw08.MatchViews", spec := "matchViews", inPlace := ["slices.overlaps[cachetier/api.Row]", "slices.overlaps[cachetier/predicate.pair]"], unfollowed := true, recurses := true, plainKeys := false, apart := false }
def MatchViewsSaid : Prop := matchViewsRow.holds Tryz.pinned (OpenSpec.ofChange matchViewsSpec)

/-- ITS FALSE NEIGHBOUR: 'it returns false'. Refute it at one input. -/
def matchViewsWrong : ChangeSpec := { name := "matchViews", fn := fun _ => fun
  | [d1, d2] => { results := [.lit (.bool false)], args := [d1, d2] }
  | _ => none }
def MatchViewsWrongFalsely : Prop := matchViewsRow.holds Tryz.pinned (OpenSpec.ofChange matchViewsWrong)

/- THE SECOND FORM. 'bulk': how many values and letters a reading holds, each counted each time it is reached (what is shared counts as often as it is met; a slice's spare places count too). A statement '..UptoSaid' is the law's where the arguments, and the package variables that the reading takes, are together of bulk at most 1048576: NARROWER than '..Said'. Prove '..Said' where nothing that the law and all that it calls make is longer than what came in: it says more and counts as full. Else prove '..UptoSaid'. A law counts once. -/
mutual
def uptoBulk {H : Type} : DataW H → Nat
  | .lit (.string bytes) => bytes.length + 1
  | .lit _ => 1
  | .nil => 1
  | .ptr d => uptoBulk d + 1
  | .slice elems spare => uptoBulkAll elems + uptoBulkAll spare + 1
  | .agg parts => uptoBulkAll parts + 1
  | .iface _ d => uptoBulk d + 1
  | .map entries => uptoBulkEntries entries + 1
  | .held _ => 1
def uptoBulkAll {H : Type} : List (DataW H) → Nat
  | [] => 0
  | d :: r => uptoBulk d + uptoBulkAll r
def uptoBulkEntries {H : Type} : List (Lit × DataW H) → Nat
  | [] => 0
  | x :: r => uptoBulkEntry x + uptoBulkEntries r
def uptoBulkEntry {H : Type} : Lit × DataW H → Nat
  | (.string bytes, d) => bytes.length + uptoBulk d + 1
  | (_, d) => uptoBulk d + 1
 end
def uptoSmall : (H : Type) → List (DataW H) → Bool := fun _ ds => decide (uptoBulkAll ds ≤ 1048576)
def OpenSpec.upto (s : _root_.Go.ChangeSpec) : _root_.Go.OpenSpec := { _root_.Go.OpenSpec.ofChange s with cond := some uptoSmall }

/-- 'cachetierlaw08.MatchMatchesReference', WHERE WHAT IT READS IS OF BULK AT MOST 1048576: true; the input reads as it did. -/
def matchMatchesReferenceUptoRow : OpenClaim := { program := "ytciaallekkdnhaagreat", sum := "7fe920bfdd60f77b16f70e0b0aa0632862523b5caaab37073939a47755d5c880", func := "cachetier/cachetierlaw08.MatchMatchesReference", spec := "matchMatchesReference", inPlace := ["slices.overlaps[cachetier/api.Row]", "slices.overlaps[cachetier/predicate.pair]"], unfollowed := true, recurses := true, plainKeys := false, apart := false, narrowed := true }
def MatchMatchesReferenceUptoSaid : Prop := matchMatchesReferenceUptoRow.holds Tryz.pinned (OpenSpec.upto matchMatchesReferenceSpec)

/-- 'cachetierlaw08.MatchScans', WHERE WHAT IT READS IS OF BULK AT MOST 1048576: true; the input reads as it did. -/
def matchScansUptoRow : OpenClaim := { program := "ytciaallekkdnhaagreat", sum := "7fe920bfdd60f77b16f70e0b0aa0632862523b5caaab37073939a47755d5c880", func := "cachetier/cachetierlaw08.MatchScans", spec := "matchScans", inPlace := ["slices.overlaps[cachetier/api.Row]", "slices.overlaps[cachetier/predicate.pair]"], unfollowed := true, recurses := true, plainKeys := false, apart := false, narrowed := true }
def MatchScansUptoSaid : Prop := matchScansUptoRow.holds Tryz.pinned (OpenSpec.upto matchScansSpec)

/-- 'cachetierlaw08.MatchChanges', WHERE WHAT IT READS IS OF BULK AT MOST 1048576: true; the input reads as it did. -/
def matchChangesUptoRow : OpenClaim := { program := "ytciaallekkdnhaagreat", sum := "7fe920bfdd60f77b16f70e0b0aa0632862523b5caaab37073939a47755d5c880", func := "cachetier/cachetierlaw08.MatchChanges", spec := "matchChanges", inPlace := ["slices.overlaps[cachetier/api.Row]", "slices.overlaps[cachetier/predicate.pair]"], unfollowed := true, recurses := true, plainKeys := false, apart := false, narrowed := true }
def MatchChangesUptoSaid : Prop := matchChangesUptoRow.holds Tryz.pinned (OpenSpec.upto matchChangesSpec)

/-- 'cachetierlaw08.MatchRows', WHERE WHAT IT READS IS OF BULK AT MOST 1048576: true; the input reads as it did. -/
def matchRowsUptoRow : OpenClaim := { program := "ytciaallekkdnhaagreat", sum := "7fe920bfdd60f77b16f70e0b0aa0632862523b5caaab37073939a47755d5c880", func := "cachetier/cachetierlaw08.MatchRows", spec := "matchRows", inPlace := ["slices.overlaps[cachetier/api.Row]", "slices.overlaps[cachetier/predicate.pair]"], unfollowed := true, recurses := true, plainKeys := false, apart := false, narrowed := true }
def MatchRowsUptoSaid : Prop := matchRowsUptoRow.holds Tryz.pinned (OpenSpec.upto matchRowsSpec)

/-- 'cachetierlaw08.MatchFull', WHERE WHAT IT READS IS OF BULK AT MOST 1048576: true; the input reads as it did. -/
def matchFullUptoRow : OpenClaim := { program := "ytciaallekkdnhaagreat", sum := "7fe920bfdd60f77b16f70e0b0aa0632862523b5caaab37073939a47755d5c880", func := "cachetier/cachetierlaw08.MatchFull", spec := "matchFull", inPlace := ["slices.overlaps[cachetier/api.Row]", "slices.overlaps[cachetier/predicate.pair]"], unfollowed := true, recurses := true, plainKeys := false, apart := false, narrowed := true }
def MatchFullUptoSaid : Prop := matchFullUptoRow.holds Tryz.pinned (OpenSpec.upto matchFullSpec)

/-- 'cachetierlaw08.MatchMissesNothing', WHERE WHAT IT READS IS OF BULK AT MOST 1048576: true; the input reads as it did. -/
def matchMissesNothingUptoRow : OpenClaim := { program := "ytciaallekkdnhaagreat", sum := "7fe920bfdd60f77b16f70e0b0aa0632862523b5caaab37073939a47755d5c880", func := "cachetier/cachetierlaw08.MatchMissesNothing", spec := "matchMissesNothing", inPlace := ["slices.overlaps[cachetier/api.Row]", "slices.overlaps[cachetier/predicate.pair]", "maps.clone"], unfollowed := true, recurses := true, plainKeys := false, apart := false, narrowed := true }
def MatchMissesNothingUptoSaid : Prop := matchMissesNothingUptoRow.holds Tryz.pinned (OpenSpec.upto matchMissesNothingSpec)

/-- 'cachetierlaw08.MatchViews', WHERE WHAT IT READS IS OF BULK AT MOST 1048576: true; the input reads as it did. -/
def matchViewsUptoRow : OpenClaim := { program := "ytciaallekkdnhaagreat", sum := "7fe920bfdd60f77b16f70e0b0aa0632862523b5caaab37073939a47755d5c880", func := "cachetier/cachetierlaw08.MatchViews", spec := "matchViews", inPlace := ["slices.overlaps[cachetier/api.Row]", "slices.overlaps[cachetier/predicate.pair]"], unfollowed := true, recurses := true, plainKeys := false, apart := false, narrowed := true }
def MatchViewsUptoSaid : Prop := matchViewsUptoRow.holds Tryz.pinned (OpenSpec.upto matchViewsSpec)

end Rows
end Go.Proofs.YtciaallekkdnhaaGreat
