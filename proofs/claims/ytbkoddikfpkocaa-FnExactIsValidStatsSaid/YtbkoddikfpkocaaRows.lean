/-
  No cell of these rows narrows 'for every input' (looked for: loops, veiled, ifaces, maps, wideKeys, modest, calm, conditions, laid).
  DERIVED. THE GIVEN ROWS OF THIS SEAT. 12 by the template 'for every input the law returns true; each argument reads behind the call as it read before'; 0 by the template 'total and deterministic' (their statements: YtbkoddikfpkocaaTotals.lean).
  GIVEN WITH THE SEED: the statements are not yours to turn. If you find one false, say at which input.
  Laid BY PROGRAM, IN A SANDBOX (cutbox-rows.mjs): the forced cells as the released guide's own fill.sh prints them over the translation e2f377d63a4b4b53… (all of the seat's roots in one cut). By AI agents, Wed Nov 11 2026. No macro, syntax, notation, axiom, sorry.
-/
import Derived.Test.YtbkoddikfpkocaaChecked
import GoSem.Claim
import GoSem.ClaimJoined
import GoSem.ClaimMapViews
import Derived.JoinedTies
import Derived.KernelRfl
namespace Go.Proofs.Ytbkoddikfpkocaa
/- THE CELL 'sum', in the pinned program and in every row, IS THE sha256 OF THE DUMP (.gsa) THAT YtbkoddikfpkocaaProg.lean LOADS. Nothing in Lean hashes anything: it is a label: what it is worth is what the hold of that sum in a sandbox is worth. -/
noncomputable def Try.pinned : Pinned := { name := "ytbkoddikfpkocaa", sum := "e2f377d63a4b4b53e7ea3de6f5824ee2e8ca9c43355d3c4c5077937381ecb5c1", checked := Try.checked }
namespace Rows
def none {H : Type} : Left H := { results := [], args := [] }

/-- 'laws.FnSequenceBounds': WHATEVER THE INPUT: true; the input reads as it did. -/
def fnSequenceBoundsSpec : ChangeSpec := { name := "fnSequenceBounds", fn := fun _ => fun
  | [d] => { results := [.lit (.bool true)], args := [d] }
  | _ => none }
def fnSequenceBoundsRow : OpenClaim := { program := "ytbkoddikfpkocaa", sum := "e2f377d63a4b4b53e7ea3de6f5824ee2e8ca9c43355d3c4c5077937381ecb5c1", func := "loop.example/g01921/laws.FnSequenceBounds", spec := "fnSequenceBounds", apart := false }
def FnSequenceBoundsSaid : Prop := fnSequenceBoundsRow.holds Try.pinned (OpenSpec.ofChange fnSequenceBoundsSpec)

/-- ITS FALSE NEIGHBOUR: 'it returns false'. Refute it at one input. -/
def fnSequenceBoundsWrong : ChangeSpec := { name := "fnSequenceBounds", fn := fun _ => fun
  | [d] => { results := [.lit (.bool false)], args := [d] }
  | _ => none }
def FnSequenceBoundsWrongFalsely : Prop := fnSequenceBoundsRow.holds Try.pinned (OpenSpec.ofChange fnSequenceBoundsWrong)

/-- 'laws.FnQueryGraph': WHATEVER THE INPUT: true; the input reads as it did. -/
def fnQueryGraphSpec : ChangeSpec := { name := "fnQueryGraph", fn := fun _ => fun
  | [d] => { results := [.lit (.bool true)], args := [d] }
  | _ => none }
def fnQueryGraphRow : OpenClaim := { program := "ytbkoddikfpkocaa", sum := "e2f377d63a4b4b53e7ea3de6f5824ee2e8ca9c43355d3c4c5077937381ecb5c1", func := "loop.example/g01921/laws.FnQueryGraph", spec := "fnQueryGraph", apart := false }
def FnQueryGraphSaid : Prop := fnQueryGraphRow.holds Try.pinned (OpenSpec.ofChange fnQueryGraphSpec)

/-- ITS FALSE NEIGHBOUR: 'it returns false'. Refute it at one input. -/
def fnQueryGraphWrong : ChangeSpec := { name := "fnQueryGraph", fn := fun _ => fun
  | [d] => { results := [.lit (.bool false)], args := [d] }
  | _ => none }
def FnQueryGraphWrongFalsely : Prop := fnQueryGraphRow.holds Try.pinned (OpenSpec.ofChange fnQueryGraphWrong)

/-- 'laws.FnExactColumnClosure': WHATEVER THE INPUT: true; the input reads as it did. -/
def fnExactColumnClosureSpec : ChangeSpec := { name := "fnExactColumnClosure", fn := fun _ => fun
  | [d1, d2, d3] => { results := [.lit (.bool true)], args := [d1, d2, d3] }
  | _ => none }
def fnExactColumnClosureRow : OpenClaim := { program := "ytbkoddikfpkocaa", sum := "e2f377d63a4b4b53e7ea3de6f5824ee2e8ca9c43355d3c4c5077937381ecb5c1", func := "loop.example/g01921/laws.FnExactColumnClosure", spec := "fnExactColumnClosure", unfollowed := true, recurses := true, apart := false }
def FnExactColumnClosureSaid : Prop := fnExactColumnClosureRow.holds Try.pinned (OpenSpec.ofChange fnExactColumnClosureSpec)

/-- ITS FALSE NEIGHBOUR: 'it returns false'. Refute it at one input. -/
def fnExactColumnClosureWrong : ChangeSpec := { name := "fnExactColumnClosure", fn := fun _ => fun
  | [d1, d2, d3] => { results := [.lit (.bool false)], args := [d1, d2, d3] }
  | _ => none }
def FnExactColumnClosureWrongFalsely : Prop := fnExactColumnClosureRow.holds Try.pinned (OpenSpec.ofChange fnExactColumnClosureWrong)

/-- 'laws.FnExactGroupCounts': WHATEVER THE INPUT: true; the input reads as it did. -/
def fnExactGroupCountsSpec : ChangeSpec := { name := "fnExactGroupCounts", fn := fun _ => fun
  | [d1, d2] => { results := [.lit (.bool true)], args := [d1, d2] }
  | _ => none }
def fnExactGroupCountsRow : OpenClaim := { program := "ytbkoddikfpkocaa", sum := "e2f377d63a4b4b53e7ea3de6f5824ee2e8ca9c43355d3c4c5077937381ecb5c1", func := "loop.example/g01921/laws.FnExactGroupCounts", spec := "fnExactGroupCounts", unfollowed := true, recurses := true, apart := false }
def FnExactGroupCountsSaid : Prop := fnExactGroupCountsRow.holds Try.pinned (OpenSpec.ofChange fnExactGroupCountsSpec)

/-- ITS FALSE NEIGHBOUR: 'it returns false'. Refute it at one input. -/
def fnExactGroupCountsWrong : ChangeSpec := { name := "fnExactGroupCounts", fn := fun _ => fun
  | [d1, d2] => { results := [.lit (.bool false)], args := [d1, d2] }
  | _ => none }
def FnExactGroupCountsWrongFalsely : Prop := fnExactGroupCountsRow.holds Try.pinned (OpenSpec.ofChange fnExactGroupCountsWrong)

/-- 'laws.FnExactIsKey': WHATEVER THE INPUT: true; the input reads as it did. -/
def fnExactIsKeySpec : ChangeSpec := { name := "fnExactIsKey", fn := fun _ => fun
  | [d1, d2, d3] => { results := [.lit (.bool true)], args := [d1, d2, d3] }
  | _ => none }
def fnExactIsKeyRow : OpenClaim := { program := "ytbkoddikfpkocaa", sum := "e2f377d63a4b4b53e7ea3de6f5824ee2e8ca9c43355d3c4c5077937381ecb5c1", func := "loop.example/g01921/laws.FnExactIsKey", spec := "fnExactIsKey", unfollowed := true, recurses := true, apart := false }
def FnExactIsKeySaid : Prop := fnExactIsKeyRow.holds Try.pinned (OpenSpec.ofChange fnExactIsKeySpec)

/-- ITS FALSE NEIGHBOUR: 'it returns false'. Refute it at one input. -/
def fnExactIsKeyWrong : ChangeSpec := { name := "fnExactIsKey", fn := fun _ => fun
  | [d1, d2, d3] => { results := [.lit (.bool false)], args := [d1, d2, d3] }
  | _ => none }
def FnExactIsKeyWrongFalsely : Prop := fnExactIsKeyRow.holds Try.pinned (OpenSpec.ofChange fnExactIsKeyWrong)

/-- 'laws.FnExactInclusionHolds': WHATEVER THE INPUT: true; the input reads as it did. -/
def fnExactInclusionHoldsSpec : ChangeSpec := { name := "fnExactInclusionHolds", fn := fun _ => fun
  | [d1, d2] => { results := [.lit (.bool true)], args := [d1, d2] }
  | _ => none }
def fnExactInclusionHoldsRow : OpenClaim := { program := "ytbkoddikfpkocaa", sum := "e2f377d63a4b4b53e7ea3de6f5824ee2e8ca9c43355d3c4c5077937381ecb5c1", func := "loop.example/g01921/laws.FnExactInclusionHolds", spec := "fnExactInclusionHolds", unfollowed := true, recurses := true, apart := false }
def FnExactInclusionHoldsSaid : Prop := fnExactInclusionHoldsRow.holds Try.pinned (OpenSpec.ofChange fnExactInclusionHoldsSpec)

/-- ITS FALSE NEIGHBOUR: 'it returns false'. Refute it at one input. -/
def fnExactInclusionHoldsWrong : ChangeSpec := { name := "fnExactInclusionHolds", fn := fun _ => fun
  | [d1, d2] => { results := [.lit (.bool false)], args := [d1, d2] }
  | _ => none }
def FnExactInclusionHoldsWrongFalsely : Prop := fnExactInclusionHoldsRow.holds Try.pinned (OpenSpec.ofChange fnExactInclusionHoldsWrong)

/-- 'laws.FnExactMissingValues': WHATEVER THE INPUT: true; the input reads as it did. -/
def fnExactMissingValuesSpec : ChangeSpec := { name := "fnExactMissingValues", fn := fun _ => fun
  | [d1, d2] => { results := [.lit (.bool true)], args := [d1, d2] }
  | _ => none }
def fnExactMissingValuesRow : OpenClaim := { program := "ytbkoddikfpkocaa", sum := "e2f377d63a4b4b53e7ea3de6f5824ee2e8ca9c43355d3c4c5077937381ecb5c1", func := "loop.example/g01921/laws.FnExactMissingValues", spec := "fnExactMissingValues", unfollowed := true, recurses := true, apart := false }
def FnExactMissingValuesSaid : Prop := fnExactMissingValuesRow.holds Try.pinned (OpenSpec.ofChange fnExactMissingValuesSpec)

/-- ITS FALSE NEIGHBOUR: 'it returns false'. Refute it at one input. -/
def fnExactMissingValuesWrong : ChangeSpec := { name := "fnExactMissingValues", fn := fun _ => fun
  | [d1, d2] => { results := [.lit (.bool false)], args := [d1, d2] }
  | _ => none }
def FnExactMissingValuesWrongFalsely : Prop := fnExactMissingValuesRow.holds Try.pinned (OpenSpec.ofChange fnExactMissingValuesWrong)

/-- 'laws.FnExactMinimalKeys': WHATEVER THE INPUT: true; the input reads as it did. -/
def fnExactMinimalKeysSpec : ChangeSpec := { name := "fnExactMinimalKeys", fn := fun _ => fun
  | [d1, d2] => { results := [.lit (.bool true)], args := [d1, d2] }
  | _ => none }
def fnExactMinimalKeysRow : OpenClaim := { program := "ytbkoddikfpkocaa", sum := "e2f377d63a4b4b53e7ea3de6f5824ee2e8ca9c43355d3c4c5077937381ecb5c1", func := "loop.example/g01921/laws.FnExactMinimalKeys", spec := "fnExactMinimalKeys", unfollowed := true, recurses := true, apart := false }
def FnExactMinimalKeysSaid : Prop := fnExactMinimalKeysRow.holds Try.pinned (OpenSpec.ofChange fnExactMinimalKeysSpec)

/-- ITS FALSE NEIGHBOUR: 'it returns false'. Refute it at one input. -/
def fnExactMinimalKeysWrong : ChangeSpec := { name := "fnExactMinimalKeys", fn := fun _ => fun
  | [d1, d2] => { results := [.lit (.bool false)], args := [d1, d2] }
  | _ => none }
def FnExactMinimalKeysWrongFalsely : Prop := fnExactMinimalKeysRow.holds Try.pinned (OpenSpec.ofChange fnExactMinimalKeysWrong)

/-- 'laws.FnExactStatsOfTable': WHATEVER THE INPUT: true; the input reads as it did. -/
def fnExactStatsOfTableSpec : ChangeSpec := { name := "fnExactStatsOfTable", fn := fun _ => fun
  | [d] => { results := [.lit (.bool true)], args := [d] }
  | _ => none }
def fnExactStatsOfTableRow : OpenClaim := { program := "ytbkoddikfpkocaa", sum := "e2f377d63a4b4b53e7ea3de6f5824ee2e8ca9c43355d3c4c5077937381ecb5c1", func := "loop.example/g01921/laws.FnExactStatsOfTable", spec := "fnExactStatsOfTable", unfollowed := true, recurses := true, apart := false }
def FnExactStatsOfTableSaid : Prop := fnExactStatsOfTableRow.holds Try.pinned (OpenSpec.ofChange fnExactStatsOfTableSpec)

/-- ITS FALSE NEIGHBOUR: 'it returns false'. Refute it at one input. -/
def fnExactStatsOfTableWrong : ChangeSpec := { name := "fnExactStatsOfTable", fn := fun _ => fun
  | [d] => { results := [.lit (.bool false)], args := [d] }
  | _ => none }
def FnExactStatsOfTableWrongFalsely : Prop := fnExactStatsOfTableRow.holds Try.pinned (OpenSpec.ofChange fnExactStatsOfTableWrong)

/-- 'laws.FnExactIsValidStats': WHATEVER THE INPUT: true; the input reads as it did. -/
def fnExactIsValidStatsSpec : ChangeSpec := { name := "fnExactIsValidStats", fn := fun _ => fun
  | [d] => { results := [.lit (.bool true)], args := [d] }
  | _ => none }
def fnExactIsValidStatsRow : OpenClaim := { program := "ytbkoddikfpkocaa", sum := "e2f377d63a4b4b53e7ea3de6f5824ee2e8ca9c43355d3c4c5077937381ecb5c1", func := "loop.example/g01921/laws.FnExactIsValidStats", spec := "fnExactIsValidStats", unfollowed := true, recurses := true, apart := false }
def FnExactIsValidStatsSaid : Prop := fnExactIsValidStatsRow.holds Try.pinned (OpenSpec.ofChange fnExactIsValidStatsSpec)

/-- ITS FALSE NEIGHBOUR: 'it returns false'. Refute it at one input. -/
def fnExactIsValidStatsWrong : ChangeSpec := { name := "fnExactIsValidStats", fn := fun _ => fun
  | [d] => { results := [.lit (.bool false)], args := [d] }
  | _ => none }
def FnExactIsValidStatsWrongFalsely : Prop := fnExactIsValidStatsRow.holds Try.pinned (OpenSpec.ofChange fnExactIsValidStatsWrong)

/-- 'laws.FnExactMaxDegree': WHATEVER THE INPUT: true; the input reads as it did. -/
def fnExactMaxDegreeSpec : ChangeSpec := { name := "fnExactMaxDegree", fn := fun _ => fun
  | [d1, d2] => { results := [.lit (.bool true)], args := [d1, d2] }
  | _ => none }
def fnExactMaxDegreeRow : OpenClaim := { program := "ytbkoddikfpkocaa", sum := "e2f377d63a4b4b53e7ea3de6f5824ee2e8ca9c43355d3c4c5077937381ecb5c1", func := "loop.example/g01921/laws.FnExactMaxDegree", spec := "fnExactMaxDegree", unfollowed := true, recurses := true, apart := false }
def FnExactMaxDegreeSaid : Prop := fnExactMaxDegreeRow.holds Try.pinned (OpenSpec.ofChange fnExactMaxDegreeSpec)

/-- ITS FALSE NEIGHBOUR: 'it returns false'. Refute it at one input. -/
def fnExactMaxDegreeWrong : ChangeSpec := { name := "fnExactMaxDegree", fn := fun _ => fun
  | [d1, d2] => { results := [.lit (.bool false)], args := [d1, d2] }
  | _ => none }
def FnExactMaxDegreeWrongFalsely : Prop := fnExactMaxDegreeRow.holds Try.pinned (OpenSpec.ofChange fnExactMaxDegreeWrong)

/-- 'laws.FnExactDegreeSequence': WHATEVER THE INPUT: true; the input reads as it did. -/
def fnExactDegreeSequenceSpec : ChangeSpec := { name := "fnExactDegreeSequence", fn := fun _ => fun
  | [d1, d2] => { results := [.lit (.bool true)], args := [d1, d2] }
  | _ => none }
def fnExactDegreeSequenceRow : OpenClaim := { program := "ytbkoddikfpkocaa", sum := "e2f377d63a4b4b53e7ea3de6f5824ee2e8ca9c43355d3c4c5077937381ecb5c1", func := "loop.example/g01921/laws.FnExactDegreeSequence", spec := "fnExactDegreeSequence", unfollowed := true, recurses := true, apart := false }
def FnExactDegreeSequenceSaid : Prop := fnExactDegreeSequenceRow.holds Try.pinned (OpenSpec.ofChange fnExactDegreeSequenceSpec)

/-- ITS FALSE NEIGHBOUR: 'it returns false'. Refute it at one input. -/
def fnExactDegreeSequenceWrong : ChangeSpec := { name := "fnExactDegreeSequence", fn := fun _ => fun
  | [d1, d2] => { results := [.lit (.bool false)], args := [d1, d2] }
  | _ => none }
def FnExactDegreeSequenceWrongFalsely : Prop := fnExactDegreeSequenceRow.holds Try.pinned (OpenSpec.ofChange fnExactDegreeSequenceWrong)

/- THE SECOND FORM. 'bulk': how many values and letters a reading holds, each counted each time it is reached (what is shared counts as often as it is met; a slice's spare places count too). A statement '..UptoSaid' is the law's where the arguments, and the package variables that the reading takes, are together of bulk at most 1048576: NARROWER than '..Said'. Prove '..Said' where nothing that the law and all that it calls make is longer than what came in: it says more and counts as full. Else prove '..UptoSaid'. A law counts once. -/
mutual
def uptoBulk {H : Type} : DataW H → Nat
  | .lit (.string bytes) => bytes.length + 1
  | .lit _ => 1
  | .nil => 1
  | .ptr d => uptoBulk d + 1
  | .slice elems spare => uptoBulkAll elems + uptoBulkAll spare + 1
  | .agg parts => uptoBulkAll parts + 1
  | .iface _ d => uptoBulk d + 1
  | .map entries => uptoBulkEntries entries + 1
  | .held _ => 1
def uptoBulkAll {H : Type} : List (DataW H) → Nat
  | [] => 0
  | d :: r => uptoBulk d + uptoBulkAll r
def uptoBulkEntries {H : Type} : List (Lit × DataW H) → Nat
  | [] => 0
  | x :: r => uptoBulkEntry x + uptoBulkEntries r
def uptoBulkEntry {H : Type} : Lit × DataW H → Nat
  | (.string bytes, d) => bytes.length + uptoBulk d + 1
  | (_, d) => uptoBulk d + 1
 end
def uptoSmall : (H : Type) → List (DataW H) → Bool := fun _ ds => decide (uptoBulkAll ds ≤ 1048576)
def OpenSpec.upto (s : _root_.Go.ChangeSpec) : _root_.Go.OpenSpec := { _root_.Go.OpenSpec.ofChange s with cond := some uptoSmall }

/-- 'laws.FnSequenceBounds', WHERE WHAT IT READS IS OF BULK AT MOST 1048576: true; the input reads as it did. -/
def fnSequenceBoundsUptoRow : OpenClaim := { program := "ytbkoddikfpkocaa", sum := "e2f377d63a4b4b53e7ea3de6f5824ee2e8ca9c43355d3c4c5077937381ecb5c1", func := "loop.example/g01921/laws.FnSequenceBounds", spec := "fnSequenceBounds", apart := false, narrowed := true }
def FnSequenceBoundsUptoSaid : Prop := fnSequenceBoundsUptoRow.holds Try.pinned (OpenSpec.upto fnSequenceBoundsSpec)

/-- 'laws.FnQueryGraph', WHERE WHAT IT READS IS OF BULK AT MOST 1048576: true; the input reads as it did. -/
def fnQueryGraphUptoRow : OpenClaim := { program := "ytbkoddikfpkocaa", sum := "e2f377d63a4b4b53e7ea3de6f5824ee2e8ca9c43355d3c4c5077937381ecb5c1", func := "loop.example/g01921/laws.FnQueryGraph", spec := "fnQueryGraph", apart := false, narrowed := true }
def FnQueryGraphUptoSaid : Prop := fnQueryGraphUptoRow.holds Try.pinned (OpenSpec.upto fnQueryGraphSpec)

/-- 'laws.FnExactColumnClosure', WHERE WHAT IT READS IS OF BULK AT MOST 1048576: true; the input reads as it did. -/
def fnExactColumnClosureUptoRow : OpenClaim := { program := "ytbkoddikfpkocaa", sum := "e2f377d63a4b4b53e7ea3de6f5824ee2e8ca9c43355d3c4c5077937381ecb5c1", func := "loop.example/g01921/laws.FnExactColumnClosure", spec := "fnExactColumnClosure", unfollowed := true, recurses := true, apart := false, narrowed := true }
def FnExactColumnClosureUptoSaid : Prop := fnExactColumnClosureUptoRow.holds Try.pinned (OpenSpec.upto fnExactColumnClosureSpec)

/-- 'laws.FnExactGroupCounts', WHERE WHAT IT READS IS OF BULK AT MOST 1048576: true; the input reads as it did. -/
def fnExactGroupCountsUptoRow : OpenClaim := { program := "ytbkoddikfpkocaa", sum := "e2f377d63a4b4b53e7ea3de6f5824ee2e8ca9c43355d3c4c5077937381ecb5c1", func := "loop.example/g01921/laws.FnExactGroupCounts", spec := "fnExactGroupCounts", unfollowed := true, recurses := true, apart := false, narrowed := true }
def FnExactGroupCountsUptoSaid : Prop := fnExactGroupCountsUptoRow.holds Try.pinned (OpenSpec.upto fnExactGroupCountsSpec)

/-- 'laws.FnExactIsKey', WHERE WHAT IT READS IS OF BULK AT MOST 1048576: true; the input reads as it did. -/
def fnExactIsKeyUptoRow : OpenClaim := { program := "ytbkoddikfpkocaa", sum := "e2f377d63a4b4b53e7ea3de6f5824ee2e8ca9c43355d3c4c5077937381ecb5c1", func := "loop.example/g01921/laws.FnExactIsKey", spec := "fnExactIsKey", unfollowed := true, recurses := true, apart := false, narrowed := true }
def FnExactIsKeyUptoSaid : Prop := fnExactIsKeyUptoRow.holds Try.pinned (OpenSpec.upto fnExactIsKeySpec)

/-- 'laws.FnExactInclusionHolds', WHERE WHAT IT READS IS OF BULK AT MOST 1048576: true; the input reads as it did. -/
def fnExactInclusionHoldsUptoRow : OpenClaim := { program := "ytbkoddikfpkocaa", sum := "e2f377d63a4b4b53e7ea3de6f5824ee2e8ca9c43355d3c4c5077937381ecb5c1", func := "loop.example/g01921/laws.FnExactInclusionHolds", spec := "fnExactInclusionHolds", unfollowed := true, recurses := true, apart := false, narrowed := true }
def FnExactInclusionHoldsUptoSaid : Prop := fnExactInclusionHoldsUptoRow.holds Try.pinned (OpenSpec.upto fnExactInclusionHoldsSpec)

/-- 'laws.FnExactMissingValues', WHERE WHAT IT READS IS OF BULK AT MOST 1048576: true; the input reads as it did. -/
def fnExactMissingValuesUptoRow : OpenClaim := { program := "ytbkoddikfpkocaa", sum := "e2f377d63a4b4b53e7ea3de6f5824ee2e8ca9c43355d3c4c5077937381ecb5c1", func := "loop.example/g01921/laws.FnExactMissingValues", spec := "fnExactMissingValues", unfollowed := true, recurses := true, apart := false, narrowed := true }
def FnExactMissingValuesUptoSaid : Prop := fnExactMissingValuesUptoRow.holds Try.pinned (OpenSpec.upto fnExactMissingValuesSpec)

/-- 'laws.FnExactMinimalKeys', WHERE WHAT IT READS IS OF BULK AT MOST 1048576: true; the input reads as it did. -/
def fnExactMinimalKeysUptoRow : OpenClaim := { program := "ytbkoddikfpkocaa", sum := "e2f377d63a4b4b53e7ea3de6f5824ee2e8ca9c43355d3c4c5077937381ecb5c1", func := "loop.example/g01921/laws.FnExactMinimalKeys", spec := "fnExactMinimalKeys", unfollowed := true, recurses := true, apart := false, narrowed := true }
def FnExactMinimalKeysUptoSaid : Prop := fnExactMinimalKeysUptoRow.holds Try.pinned (OpenSpec.upto fnExactMinimalKeysSpec)

/-- 'laws.FnExactStatsOfTable', WHERE WHAT IT READS IS OF BULK AT MOST 1048576: true; the input reads as it did. -/
def fnExactStatsOfTableUptoRow : OpenClaim := { program := "ytbkoddikfpkocaa", sum := "e2f377d63a4b4b53e7ea3de6f5824ee2e8ca9c43355d3c4c5077937381ecb5c1", func := "loop.example/g01921/laws.FnExactStatsOfTable", spec := "fnExactStatsOfTable", unfollowed := true, recurses := true, apart := false, narrowed := true }
def FnExactStatsOfTableUptoSaid : Prop := fnExactStatsOfTableUptoRow.holds Try.pinned (OpenSpec.upto fnExactStatsOfTableSpec)

/-- 'laws.FnExactIsValidStats', WHERE WHAT IT READS IS OF BULK AT MOST 1048576: true; the input reads as it did. -/
def fnExactIsValidStatsUptoRow : OpenClaim := { program := "ytbkoddikfpkocaa", sum := "e2f377d63a4b4b53e7ea3de6f5824ee2e8ca9c43355d3c4c5077937381ecb5c1", func := "loop.example/g01921/laws.FnExactIsValidStats", spec := "fnExactIsValidStats", unfollowed := true, recurses := true, apart := false, narrowed := true }
def FnExactIsValidStatsUptoSaid : Prop := fnExactIsValidStatsUptoRow.holds Try.pinned (OpenSpec.upto fnExactIsValidStatsSpec)

/-- 'laws.FnExactMaxDegree', WHERE WHAT IT READS IS OF BULK AT MOST 1048576: true; the input reads as it did. -/
def fnExactMaxDegreeUptoRow : OpenClaim := { program := "ytbkoddikfpkocaa", sum := "e2f377d63a4b4b53e7ea3de6f5824ee2e8ca9c43355d3c4c5077937381ecb5c1", func := "loop.example/g01921/laws.FnExactMaxDegree", spec := "fnExactMaxDegree", unfollowed := true, recurses := true, apart := false, narrowed := true }
def FnExactMaxDegreeUptoSaid : Prop := fnExactMaxDegreeUptoRow.holds Try.pinned (OpenSpec.upto fnExactMaxDegreeSpec)

/-- 'laws.FnExactDegreeSequence', WHERE WHAT IT READS IS OF BULK AT MOST 1048576: true; the input reads as it did. -/
def fnExactDegreeSequenceUptoRow : OpenClaim := { program := "ytbkoddikfpkocaa", sum := "e2f377d63a4b4b53e7ea3de6f5824ee2e8ca9c43355d3c4c5077937381ecb5c1", func := "loop.example/g01921/laws.FnExactDegreeSequence", spec := "fnExactDegreeSequence", unfollowed := true, recurses := true, apart := false, narrowed := true }
def FnExactDegreeSequenceUptoSaid : Prop := fnExactDegreeSequenceUptoRow.holds Try.pinned (OpenSpec.upto fnExactDegreeSequenceSpec)

end Rows
end Go.Proofs.Ytbkoddikfpkocaa
