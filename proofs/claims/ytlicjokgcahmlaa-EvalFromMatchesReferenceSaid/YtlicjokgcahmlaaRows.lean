/-
  No cell of these rows narrows 'for every input' (looked for: loops, veiled, ifaces, maps, wideKeys, modest, calm, conditions, laid).
  DERIVED. THE GIVEN ROWS OF THIS SEAT. 8 by the template 'for every input the law returns true; each argument reads behind the call as it read before'; 0 by the template 'total and deterministic' (their statements: YtlicjokgcahmlaaTotals.lean).
  GIVEN WITH THE SEED: the statements are not yours to turn. If you find one false, say at which input.
  Laid BY PROGRAM, IN A SANDBOX (cutbox-rows.mjs): the forced cells as the released guide's own fill.sh prints them over the translation 7044c4641d6391b4… (all of the seat's roots in one cut). By AI agents, Wed Nov 11 2026. No macro, syntax, notation, axiom, sorry.
-/
import Derived.Test.YtlicjokgcahmlaaChecked
import GoSem.Claim
import GoSem.ClaimJoined
import GoSem.ClaimMapViews
import Derived.JoinedTies
import Derived.KernelRfl
namespace Go.Proofs.Ytlicjokgcahmlaa
/- THE CELL 'sum', in the pinned program and in every row, IS THE sha256 OF THE DUMP (.gsa) THAT YtlicjokgcahmlaaProg.lean LOADS. Nothing in Lean hashes anything: it is a label: what it is worth is what the hold of that sum in a sandbox is worth. -/
noncomputable def Try.pinned : Pinned := { name := "ytlicjokgcahmlaa", sum := "7044c4641d6391b43f058477149b169a74c167c182fecc28bfe7d1e0a0468427", checked := Try.checked }
namespace Rows
def none {H : Type} : Left H := { results := [], args := [] }

/-- 'cachetierlaw06.EvalFromMatchesReference': WHATEVER THE INPUT: true; the input reads as it did. -/
def evalFromMatchesReferenceSpec : ChangeSpec := { name := "evalFromMatchesReference", fn := fun _ => fun
  | [d1, d2, d3, d4, d5] => { results := [.lit (.bool true)], args := [d1, d2, d3, d4, d5] }
  | _ => none }
def evalFromMatchesReferenceRow : OpenClaim := { program := "ytlicjokgcahmlaa", sum := "7044c4641d6391b43f058477149b169a74c167c182fecc28bfe7d1e0a0468427", func := "cachetier/cachetierlaw06.EvalFromMatchesReference", spec := "evalFromMatchesReference", unfollowed := true, recurses := true, plainKeys := false, apart := false }
def EvalFromMatchesReferenceSaid : Prop := evalFromMatchesReferenceRow.holds Try.pinned (OpenSpec.ofChange evalFromMatchesReferenceSpec)

/-- ITS FALSE NEIGHBOUR: 'it returns false'. Refute it at one input. -/
def evalFromMatchesReferenceWrong : ChangeSpec := { name := "evalFromMatchesReference", fn := fun _ => fun
  | [d1, d2, d3, d4, d5] => { results := [.lit (.bool false)], args := [d1, d2, d3, d4, d5] }
  | _ => none }
def EvalFromMatchesReferenceWrongFalsely : Prop := evalFromMatchesReferenceRow.holds Try.pinned (OpenSpec.ofChange evalFromMatchesReferenceWrong)

/-- 'cachetierlaw06.EvalMatchesReference': WHATEVER THE INPUT: true; the input reads as it did. -/
def evalMatchesReferenceSpec : ChangeSpec := { name := "evalMatchesReference", fn := fun _ => fun
  | [d1, d2, d3] => { results := [.lit (.bool true)], args := [d1, d2, d3] }
  | _ => none }
def evalMatchesReferenceRow : OpenClaim := { program := "ytlicjokgcahmlaa", sum := "7044c4641d6391b43f058477149b169a74c167c182fecc28bfe7d1e0a0468427", func := "cachetier/cachetierlaw06.EvalMatchesReference", spec := "evalMatchesReference", unfollowed := true, recurses := true, plainKeys := false, apart := false }
def EvalMatchesReferenceSaid : Prop := evalMatchesReferenceRow.holds Try.pinned (OpenSpec.ofChange evalMatchesReferenceSpec)

/-- ITS FALSE NEIGHBOUR: 'it returns false'. Refute it at one input. -/
def evalMatchesReferenceWrong : ChangeSpec := { name := "evalMatchesReference", fn := fun _ => fun
  | [d1, d2, d3] => { results := [.lit (.bool false)], args := [d1, d2, d3] }
  | _ => none }
def EvalMatchesReferenceWrongFalsely : Prop := evalMatchesReferenceRow.holds Try.pinned (OpenSpec.ofChange evalMatchesReferenceWrong)

/-- 'cachetierlaw06.EvalKinds': WHATEVER THE INPUT: true; the input reads as it did. -/
def evalKindsSpec : ChangeSpec := { name := "evalKinds", fn := fun _ => fun
  | [d1, d2, d3] => { results := [.lit (.bool true)], args := [d1, d2, d3] }
  | _ => none }
def evalKindsRow : OpenClaim := { program := "ytlicjokgcahmlaa", sum := "7044c4641d6391b43f058477149b169a74c167c182fecc28bfe7d1e0a0468427", func := "cachetier/cachetierlaw06.EvalKinds", spec := "evalKinds", unfollowed := true, recurses := true, plainKeys := false, apart := false }
def EvalKindsSaid : Prop := evalKindsRow.holds Try.pinned (OpenSpec.ofChange evalKindsSpec)

/-- ITS FALSE NEIGHBOUR: 'it returns false'. Refute it at one input. -/
def evalKindsWrong : ChangeSpec := { name := "evalKinds", fn := fun _ => fun
  | [d1, d2, d3] => { results := [.lit (.bool false)], args := [d1, d2, d3] }
  | _ => none }
def EvalKindsWrongFalsely : Prop := evalKindsRow.holds Try.pinned (OpenSpec.ofChange evalKindsWrong)

/-- 'cachetierlaw06.EvalDivided': WHATEVER THE INPUT: true; the input reads as it did. -/
def evalDividedSpec : ChangeSpec := { name := "evalDivided", fn := fun _ => fun
  | [d1, d2, d3] => { results := [.lit (.bool true)], args := [d1, d2, d3] }
  | _ => none }
def evalDividedRow : OpenClaim := { program := "ytlicjokgcahmlaa", sum := "7044c4641d6391b43f058477149b169a74c167c182fecc28bfe7d1e0a0468427", func := "cachetier/cachetierlaw06.EvalDivided", spec := "evalDivided", unfollowed := true, recurses := true, plainKeys := false, apart := false }
def EvalDividedSaid : Prop := evalDividedRow.holds Try.pinned (OpenSpec.ofChange evalDividedSpec)

/-- ITS FALSE NEIGHBOUR: 'it returns false'. Refute it at one input. -/
def evalDividedWrong : ChangeSpec := { name := "evalDivided", fn := fun _ => fun
  | [d1, d2, d3] => { results := [.lit (.bool false)], args := [d1, d2, d3] }
  | _ => none }
def EvalDividedWrongFalsely : Prop := evalDividedRow.holds Try.pinned (OpenSpec.ofChange evalDividedWrong)

/-- 'cachetierlaw06.EvalOwns': WHATEVER THE INPUT: true; the input reads as it did. -/
def evalOwnsSpec : ChangeSpec := { name := "evalOwns", fn := fun _ => fun
  | [d1, d2, d3] => { results := [.lit (.bool true)], args := [d1, d2, d3] }
  | _ => none }
def evalOwnsRow : OpenClaim := { program := "ytlicjokgcahmlaa", sum := "7044c4641d6391b43f058477149b169a74c167c182fecc28bfe7d1e0a0468427", func := "cachetier/cachetierlaw06.EvalOwns", spec := "evalOwns", unfollowed := true, recurses := true, plainKeys := false, apart := false }
def EvalOwnsSaid : Prop := evalOwnsRow.holds Try.pinned (OpenSpec.ofChange evalOwnsSpec)

/-- ITS FALSE NEIGHBOUR: 'it returns false'. Refute it at one input. -/
def evalOwnsWrong : ChangeSpec := { name := "evalOwns", fn := fun _ => fun
  | [d1, d2, d3] => { results := [.lit (.bool false)], args := [d1, d2, d3] }
  | _ => none }
def EvalOwnsWrongFalsely : Prop := evalOwnsRow.holds Try.pinned (OpenSpec.ofChange evalOwnsWrong)

/-- 'cachetierlaw06.EvalLocal': WHATEVER THE INPUT: true; the input reads as it did. -/
def evalLocalSpec : ChangeSpec := { name := "evalLocal", fn := fun _ => fun
  | [d1, d2] => { results := [.lit (.bool true)], args := [d1, d2] }
  | _ => none }
def evalLocalRow : OpenClaim := { program := "ytlicjokgcahmlaa", sum := "7044c4641d6391b43f058477149b169a74c167c182fecc28bfe7d1e0a0468427", func := "cachetier/cachetierlaw06.EvalLocal", spec := "evalLocal", unfollowed := true, recurses := true, plainKeys := false, apart := false }
def EvalLocalSaid : Prop := evalLocalRow.holds Try.pinned (OpenSpec.ofChange evalLocalSpec)

/-- ITS FALSE NEIGHBOUR: 'it returns false'. Refute it at one input. -/
def evalLocalWrong : ChangeSpec := { name := "evalLocal", fn := fun _ => fun
  | [d1, d2] => { results := [.lit (.bool false)], args := [d1, d2] }
  | _ => none }
def EvalLocalWrongFalsely : Prop := evalLocalRow.holds Try.pinned (OpenSpec.ofChange evalLocalWrong)

/-- 'cachetierlaw06.EvalPairs': WHATEVER THE INPUT: true; the input reads as it did. -/
def evalPairsSpec : ChangeSpec := { name := "evalPairs", fn := fun _ => fun
  | [d1, d2, d3, d4] => { results := [.lit (.bool true)], args := [d1, d2, d3, d4] }
  | _ => none }
def evalPairsRow : OpenClaim := { program := "ytlicjokgcahmlaa", sum := "7044c4641d6391b43f058477149b169a74c167c182fecc28bfe7d1e0a0468427", func := "cachetier/cachetierlaw06.EvalPairs", spec := "evalPairs", unfollowed := true, recurses := true, plainKeys := false, apart := false }
def EvalPairsSaid : Prop := evalPairsRow.holds Try.pinned (OpenSpec.ofChange evalPairsSpec)

/-- ITS FALSE NEIGHBOUR: 'it returns false'. Refute it at one input. -/
def evalPairsWrong : ChangeSpec := { name := "evalPairs", fn := fun _ => fun
  | [d1, d2, d3, d4] => { results := [.lit (.bool false)], args := [d1, d2, d3, d4] }
  | _ => none }
def EvalPairsWrongFalsely : Prop := evalPairsRow.holds Try.pinned (OpenSpec.ofChange evalPairsWrong)

/-- 'cachetierlaw06.EvalRow': WHATEVER THE INPUT: true; the input reads as it did. -/
def evalRowSpec : ChangeSpec := { name := "evalRow", fn := fun _ => fun
  | [d1, d2, d3] => { results := [.lit (.bool true)], args := [d1, d2, d3] }
  | _ => none }
def evalRowRow : OpenClaim := { program := "ytlicjokgcahmlaa", sum := "7044c4641d6391b43f058477149b169a74c167c182fecc28bfe7d1e0a0468427", func := "cachetier/cachetierlaw06.EvalRow", spec := "evalRow", unfollowed := true, recurses := true, plainKeys := false, apart := false }
def EvalRowSaid : Prop := evalRowRow.holds Try.pinned (OpenSpec.ofChange evalRowSpec)

/-- ITS FALSE NEIGHBOUR: 'it returns false'. Refute it at one input. -/
def evalRowWrong : ChangeSpec := { name := "evalRow", fn := fun _ => fun
  | [d1, d2, d3] => { results := [.lit (.bool false)], args := [d1, d2, d3] }
  | _ => none }
def EvalRowWrongFalsely : Prop := evalRowRow.holds Try.pinned (OpenSpec.ofChange evalRowWrong)

/- THE SECOND FORM. 'bulk': how many values and letters a reading holds, each counted each time it is reached (what is shared counts as often as it is met; a slice's spare places count too). A statement '..UptoSaid' is the law's where the arguments, and the package variables that the reading takes, are together of bulk at most 1048576: NARROWER than '..Said'. Prove '..Said' where nothing that the law and all that it calls make is longer than what came in: it says more and counts as full. Else prove '..UptoSaid'. A law counts once. -/
mutual
def uptoBulk {H : Type} : DataW H → Nat
  | .lit (.string bytes) => bytes.length + 1
  | .lit _ => 1
  | .nil => 1
  | .ptr d => uptoBulk d + 1
  | .slice elems spare => uptoBulkAll elems + uptoBulkAll spare + 1
  | .agg parts => uptoBulkAll parts + 1
  | .iface _ d => uptoBulk d + 1
  | .map entries => uptoBulkEntries entries + 1
  | .held _ => 1
def uptoBulkAll {H : Type} : List (DataW H) → Nat
  | [] => 0
  | d :: r => uptoBulk d + uptoBulkAll r
def uptoBulkEntries {H : Type} : List (Lit × DataW H) → Nat
  | [] => 0
  | x :: r => uptoBulkEntry x + uptoBulkEntries r
def uptoBulkEntry {H : Type} : Lit × DataW H → Nat
  | (.string bytes, d) => bytes.length + uptoBulk d + 1
  | (_, d) => uptoBulk d + 1
 end
def uptoSmall : (H : Type) → List (DataW H) → Bool := fun _ ds => decide (uptoBulkAll ds ≤ 1048576)
def OpenSpec.upto (s : _root_.Go.ChangeSpec) : _root_.Go.OpenSpec := { _root_.Go.OpenSpec.ofChange s with cond := some uptoSmall }

/-- 'cachetierlaw06.EvalFromMatchesReference', WHERE WHAT IT READS IS OF BULK AT MOST 1048576: true; the input reads as it did. -/
def evalFromMatchesReferenceUptoRow : OpenClaim := { program := "ytlicjokgcahmlaa", sum := "7044c4641d6391b43f058477149b169a74c167c182fecc28bfe7d1e0a0468427", func := "cachetier/cachetierlaw06.EvalFromMatchesReference", spec := "evalFromMatchesReference", unfollowed := true, recurses := true, plainKeys := false, apart := false, narrowed := true }
def EvalFromMatchesReferenceUptoSaid : Prop := evalFromMatchesReferenceUptoRow.holds Try.pinned (OpenSpec.upto evalFromMatchesReferenceSpec)

/-- 'cachetierlaw06.EvalMatchesReference', WHERE WHAT IT READS IS OF BULK AT MOST 1048576: true; the input reads as it did. -/
def evalMatchesReferenceUptoRow : OpenClaim := { program := "ytlicjokgcahmlaa", sum := "7044c4641d6391b43f058477149b169a74c167c182fecc28bfe7d1e0a0468427", func := "cachetier/cachetierlaw06.EvalMatchesReference", spec := "evalMatchesReference", unfollowed := true, recurses := true, plainKeys := false, apart := false, narrowed := true }
def EvalMatchesReferenceUptoSaid : Prop := evalMatchesReferenceUptoRow.holds Try.pinned (OpenSpec.upto evalMatchesReferenceSpec)

/-- 'cachetierlaw06.EvalKinds', WHERE WHAT IT READS IS OF BULK AT MOST 1048576: true; the input reads as it did. -/
def evalKindsUptoRow : OpenClaim := { program := "ytlicjokgcahmlaa", sum := "7044c4641d6391b43f058477149b169a74c167c182fecc28bfe7d1e0a0468427", func := "cachetier/cachetierlaw06.EvalKinds", spec := "evalKinds", unfollowed := true, recurses := true, plainKeys := false, apart := false, narrowed := true }
def EvalKindsUptoSaid : Prop := evalKindsUptoRow.holds Try.pinned (OpenSpec.upto evalKindsSpec)

/-- 'cachetierlaw06.EvalDivided', WHERE WHAT IT READS IS OF BULK AT MOST 1048576: true; the input reads as it did. -/
def evalDividedUptoRow : OpenClaim := { program := "ytlicjokgcahmlaa", sum := "7044c4641d6391b43f058477149b169a74c167c182fecc28bfe7d1e0a0468427", func := "cachetier/cachetierlaw06.EvalDivided", spec := "evalDivided", unfollowed := true, recurses := true, plainKeys := false, apart := false, narrowed := true }
def EvalDividedUptoSaid : Prop := evalDividedUptoRow.holds Try.pinned (OpenSpec.upto evalDividedSpec)

/-- 'cachetierlaw06.EvalOwns', WHERE WHAT IT READS IS OF BULK AT MOST 1048576: true; the input reads as it did. -/
def evalOwnsUptoRow : OpenClaim := { program := "ytlicjokgcahmlaa", sum := "7044c4641d6391b43f058477149b169a74c167c182fecc28bfe7d1e0a0468427", func := "cachetier/cachetierlaw06.EvalOwns", spec := "evalOwns", unfollowed := true, recurses := true, plainKeys := false, apart := false, narrowed := true }
def EvalOwnsUptoSaid : Prop := evalOwnsUptoRow.holds Try.pinned (OpenSpec.upto evalOwnsSpec)

/-- 'cachetierlaw06.EvalLocal', WHERE WHAT IT READS IS OF BULK AT MOST 1048576: true; the input reads as it did. -/
def evalLocalUptoRow : OpenClaim := { program := "ytlicjokgcahmlaa", sum := "7044c4641d6391b43f058477149b169a74c167c182fecc28bfe7d1e0a0468427", func := "cachetier/cachetierlaw06.EvalLocal", spec := "evalLocal", unfollowed := true, recurses := true, plainKeys := false, apart := false, narrowed := true }
def EvalLocalUptoSaid : Prop := evalLocalUptoRow.holds Try.pinned (OpenSpec.upto evalLocalSpec)

/-- 'cachetierlaw06.EvalPairs', WHERE WHAT IT READS IS OF BULK AT MOST 1048576: true; the input reads as it did. -/
def evalPairsUptoRow : OpenClaim := { program := "ytlicjokgcahmlaa", sum := "7044c4641d6391b43f058477149b169a74c167c182fecc28bfe7d1e0a0468427", func := "cachetier/cachetierlaw06.EvalPairs", spec := "evalPairs", unfollowed := true, recurses := true, plainKeys := false, apart := false, narrowed := true }
def EvalPairsUptoSaid : Prop := evalPairsUptoRow.holds Try.pinned (OpenSpec.upto evalPairsSpec)

/-- 'cachetierlaw06.EvalRow', WHERE WHAT IT READS IS OF BULK AT MOST 1048576: true; the input reads as it did. -/
def evalRowUptoRow : OpenClaim := { program := "ytlicjokgcahmlaa", sum := "7044c4641d6391b43f058477149b169a74c167c182fecc28bfe7d1e0a0468427", func := "cachetier/cachetierlaw06.EvalRow", spec := "evalRow", unfollowed := true, recurses := true, plainKeys := false, apart := false, narrowed := true }
def EvalRowUptoSaid : Prop := evalRowUptoRow.holds Try.pinned (OpenSpec.upto evalRowSpec)

end Rows
end Go.Proofs.Ytlicjokgcahmlaa
