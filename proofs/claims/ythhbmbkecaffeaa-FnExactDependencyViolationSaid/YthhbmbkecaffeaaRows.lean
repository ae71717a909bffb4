/-
  No cell of these rows narrows 'for every input' (looked for: loops, veiled, ifaces, maps, wideKeys, modest, calm, conditions, laid).
  DERIVED. THE GIVEN ROWS OF THIS SEAT. 9 by the template 'for every input the law returns true; each argument reads behind the call as it read before'; 0 by the template 'total and deterministic' (their statements: YthhbmbkecaffeaaTotals.lean).
  GIVEN WITH THE SEED: the statements are not yours to turn. If you find one false, say at which input.
  Laid BY PROGRAM, IN A SANDBOX (cutbox-rows.mjs): the forced cells as the released guide's own fill.sh prints them over the translation 0266c4e4d8767eeb… (all of the seat's roots in one cut). By AI agents, Wed Nov 11 2026. No macro, syntax, notation, axiom, sorry.
-/
import Derived.Test.YthhbmbkecaffeaaChecked
import GoSem.Claim
import GoSem.ClaimJoined
import GoSem.ClaimMapViews
import Derived.JoinedTies
import Derived.KernelRfl
namespace Go.Proofs.Ythhbmbkecaffeaa
/- THE CELL 'sum', in the pinned program and in every row, IS THE sha256 OF THE DUMP (.gsa) THAT YthhbmbkecaffeaaProg.lean LOADS. Nothing in Lean hashes anything: it is a label: what it is worth is what the hold of that sum in a sandbox is worth. -/
noncomputable def Try.pinned : Pinned := { name := "ythhbmbkecaffeaa", sum := "0266c4e4d8767eeb0763010593da0c60e2facca338c849e8b84522e0984e57c0", checked := Try.checked }
namespace Rows
def none {H : Type} : Left H := { results := [], args := [] }

/-- 'laws.FnExactFormatQuery': WHATEVER THE INPUT: true; the input reads as it did. -/
def fnExactFormatQuerySpec : ChangeSpec := { name := "fnExactFormatQuery", fn := fun _ => fun
  | [d] => { results := [.lit (.bool true)], args := [d] }
  | _ => none }
def fnExactFormatQueryRow : OpenClaim := { program := "ythhbmbkecaffeaa", sum := "0266c4e4d8767eeb0763010593da0c60e2facca338c849e8b84522e0984e57c0", func := "loop.example/g01921/laws.FnExactFormatQuery", spec := "fnExactFormatQuery", inPlace := ["internal/abi.NoEscape", "internal/bytealg.MakeNoZero"], apart := false }
def FnExactFormatQuerySaid : Prop := fnExactFormatQueryRow.holds Try.pinned (OpenSpec.ofChange fnExactFormatQuerySpec)

/-- ITS FALSE NEIGHBOUR: 'it returns false'. Refute it at one input. -/
def fnExactFormatQueryWrong : ChangeSpec := { name := "fnExactFormatQuery", fn := fun _ => fun
  | [d] => { results := [.lit (.bool false)], args := [d] }
  | _ => none }
def FnExactFormatQueryWrongFalsely : Prop := fnExactFormatQueryRow.holds Try.pinned (OpenSpec.ofChange fnExactFormatQueryWrong)

/-- 'laws.FnExactCountJoinTrees': WHATEVER THE INPUT: true; the input reads as it did. -/
def fnExactCountJoinTreesSpec : ChangeSpec := { name := "fnExactCountJoinTrees", fn := fun _ => fun
  | [d1, d2] => { results := [.lit (.bool true)], args := [d1, d2] }
  | _ => none }
def fnExactCountJoinTreesRow : OpenClaim := { program := "ythhbmbkecaffeaa", sum := "0266c4e4d8767eeb0763010593da0c60e2facca338c849e8b84522e0984e57c0", func := "loop.example/g01921/laws.FnExactCountJoinTrees", spec := "fnExactCountJoinTrees", recurses := true, apart := false }
def FnExactCountJoinTreesSaid : Prop := fnExactCountJoinTreesRow.holds Try.pinned (OpenSpec.ofChange fnExactCountJoinTreesSpec)

/-- ITS FALSE NEIGHBOUR: 'it returns false'. Refute it at one input. -/
def fnExactCountJoinTreesWrong : ChangeSpec := { name := "fnExactCountJoinTrees", fn := fun _ => fun
  | [d1, d2] => { results := [.lit (.bool false)], args := [d1, d2] }
  | _ => none }
def FnExactCountJoinTreesWrongFalsely : Prop := fnExactCountJoinTreesRow.holds Try.pinned (OpenSpec.ofChange fnExactCountJoinTreesWrong)

/-- 'laws.FnExactJoinSplits': WHATEVER THE INPUT: true; the input reads as it did. -/
def fnExactJoinSplitsSpec : ChangeSpec := { name := "fnExactJoinSplits", fn := fun _ => fun
  | [d1, d2] => { results := [.lit (.bool true)], args := [d1, d2] }
  | _ => none }
def fnExactJoinSplitsRow : OpenClaim := { program := "ythhbmbkecaffeaa", sum := "0266c4e4d8767eeb0763010593da0c60e2facca338c849e8b84522e0984e57c0", func := "loop.example/g01921/laws.FnExactJoinSplits", spec := "fnExactJoinSplits", apart := false }
def FnExactJoinSplitsSaid : Prop := fnExactJoinSplitsRow.holds Try.pinned (OpenSpec.ofChange fnExactJoinSplitsSpec)

/-- ITS FALSE NEIGHBOUR: 'it returns false'. Refute it at one input. -/
def fnExactJoinSplitsWrong : ChangeSpec := { name := "fnExactJoinSplits", fn := fun _ => fun
  | [d1, d2] => { results := [.lit (.bool false)], args := [d1, d2] }
  | _ => none }
def FnExactJoinSplitsWrongFalsely : Prop := fnExactJoinSplitsRow.holds Try.pinned (OpenSpec.ofChange fnExactJoinSplitsWrong)

/-- 'laws.FnExactIsValidInclusion': WHATEVER THE INPUT: true; the input reads as it did. -/
def fnExactIsValidInclusionSpec : ChangeSpec := { name := "fnExactIsValidInclusion", fn := fun _ => fun
  | [d1, d2] => { results := [.lit (.bool true)], args := [d1, d2] }
  | _ => none }
def fnExactIsValidInclusionRow : OpenClaim := { program := "ythhbmbkecaffeaa", sum := "0266c4e4d8767eeb0763010593da0c60e2facca338c849e8b84522e0984e57c0", func := "loop.example/g01921/laws.FnExactIsValidInclusion", spec := "fnExactIsValidInclusion", unfollowed := true, recurses := true, apart := false }
def FnExactIsValidInclusionSaid : Prop := fnExactIsValidInclusionRow.holds Try.pinned (OpenSpec.ofChange fnExactIsValidInclusionSpec)

/-- ITS FALSE NEIGHBOUR: 'it returns false'. Refute it at one input. -/
def fnExactIsValidInclusionWrong : ChangeSpec := { name := "fnExactIsValidInclusion", fn := fun _ => fun
  | [d1, d2] => { results := [.lit (.bool false)], args := [d1, d2] }
  | _ => none }
def FnExactIsValidInclusionWrongFalsely : Prop := fnExactIsValidInclusionRow.holds Try.pinned (OpenSpec.ofChange fnExactIsValidInclusionWrong)

/-- 'laws.FnExactFormatAnswer': WHATEVER THE INPUT: true; the input reads as it did. -/
def fnExactFormatAnswerSpec : ChangeSpec := { name := "fnExactFormatAnswer", fn := fun _ => fun
  | [d] => { results := [.lit (.bool true)], args := [d] }
  | _ => none }
def fnExactFormatAnswerRow : OpenClaim := { program := "ythhbmbkecaffeaa", sum := "0266c4e4d8767eeb0763010593da0c60e2facca338c849e8b84522e0984e57c0", func := "loop.example/g01921/laws.FnExactFormatAnswer", spec := "fnExactFormatAnswer", inPlace := ["internal/abi.NoEscape", "internal/bytealg.MakeNoZero"], apart := false }
def FnExactFormatAnswerSaid : Prop := fnExactFormatAnswerRow.holds Try.pinned (OpenSpec.ofChange fnExactFormatAnswerSpec)

/-- ITS FALSE NEIGHBOUR: 'it returns false'. Refute it at one input. -/
def fnExactFormatAnswerWrong : ChangeSpec := { name := "fnExactFormatAnswer", fn := fun _ => fun
  | [d] => { results := [.lit (.bool false)], args := [d] }
  | _ => none }
def FnExactFormatAnswerWrongFalsely : Prop := fnExactFormatAnswerRow.holds Try.pinned (OpenSpec.ofChange fnExactFormatAnswerWrong)

/-- 'laws.FnExactIsValidDependency': WHATEVER THE INPUT: true; the input reads as it did. -/
def fnExactIsValidDependencySpec : ChangeSpec := { name := "fnExactIsValidDependency", fn := fun _ => fun
  | [d1, d2] => { results := [.lit (.bool true)], args := [d1, d2] }
  | _ => none }
def fnExactIsValidDependencyRow : OpenClaim := { program := "ythhbmbkecaffeaa", sum := "0266c4e4d8767eeb0763010593da0c60e2facca338c849e8b84522e0984e57c0", func := "loop.example/g01921/laws.FnExactIsValidDependency", spec := "fnExactIsValidDependency", unfollowed := true, recurses := true, apart := false }
def FnExactIsValidDependencySaid : Prop := fnExactIsValidDependencyRow.holds Try.pinned (OpenSpec.ofChange fnExactIsValidDependencySpec)

/-- ITS FALSE NEIGHBOUR: 'it returns false'. Refute it at one input. -/
def fnExactIsValidDependencyWrong : ChangeSpec := { name := "fnExactIsValidDependency", fn := fun _ => fun
  | [d1, d2] => { results := [.lit (.bool false)], args := [d1, d2] }
  | _ => none }
def FnExactIsValidDependencyWrongFalsely : Prop := fnExactIsValidDependencyRow.holds Try.pinned (OpenSpec.ofChange fnExactIsValidDependencyWrong)

/-- 'laws.FnExactDependencyHolds': WHATEVER THE INPUT: true; the input reads as it did. -/
def fnExactDependencyHoldsSpec : ChangeSpec := { name := "fnExactDependencyHolds", fn := fun _ => fun
  | [d1, d2] => { results := [.lit (.bool true)], args := [d1, d2] }
  | _ => none }
def fnExactDependencyHoldsRow : OpenClaim := { program := "ythhbmbkecaffeaa", sum := "0266c4e4d8767eeb0763010593da0c60e2facca338c849e8b84522e0984e57c0", func := "loop.example/g01921/laws.FnExactDependencyHolds", spec := "fnExactDependencyHolds", unfollowed := true, recurses := true, apart := false }
def FnExactDependencyHoldsSaid : Prop := fnExactDependencyHoldsRow.holds Try.pinned (OpenSpec.ofChange fnExactDependencyHoldsSpec)

/-- ITS FALSE NEIGHBOUR: 'it returns false'. Refute it at one input. -/
def fnExactDependencyHoldsWrong : ChangeSpec := { name := "fnExactDependencyHolds", fn := fun _ => fun
  | [d1, d2] => { results := [.lit (.bool false)], args := [d1, d2] }
  | _ => none }
def FnExactDependencyHoldsWrongFalsely : Prop := fnExactDependencyHoldsRow.holds Try.pinned (OpenSpec.ofChange fnExactDependencyHoldsWrong)

/-- 'laws.FnExactIsQueryFor': WHATEVER THE INPUT: true; the input reads as it did. -/
def fnExactIsQueryForSpec : ChangeSpec := { name := "fnExactIsQueryFor", fn := fun _ => fun
  | [d1, d2] => { results := [.lit (.bool true)], args := [d1, d2] }
  | _ => none }
def fnExactIsQueryForRow : OpenClaim := { program := "ythhbmbkecaffeaa", sum := "0266c4e4d8767eeb0763010593da0c60e2facca338c849e8b84522e0984e57c0", func := "loop.example/g01921/laws.FnExactIsQueryFor", spec := "fnExactIsQueryFor", unfollowed := true, recurses := true, apart := false }
def FnExactIsQueryForSaid : Prop := fnExactIsQueryForRow.holds Try.pinned (OpenSpec.ofChange fnExactIsQueryForSpec)

/-- ITS FALSE NEIGHBOUR: 'it returns false'. Refute it at one input. -/
def fnExactIsQueryForWrong : ChangeSpec := { name := "fnExactIsQueryFor", fn := fun _ => fun
  | [d1, d2] => { results := [.lit (.bool false)], args := [d1, d2] }
  | _ => none }
def FnExactIsQueryForWrongFalsely : Prop := fnExactIsQueryForRow.holds Try.pinned (OpenSpec.ofChange fnExactIsQueryForWrong)

/-- 'laws.FnExactDependencyViolation': WHATEVER THE INPUT: true; the input reads as it did. -/
def fnExactDependencyViolationSpec : ChangeSpec := { name := "fnExactDependencyViolation", fn := fun _ => fun
  | [d1, d2] => { results := [.lit (.bool true)], args := [d1, d2] }
  | _ => none }
def fnExactDependencyViolationRow : OpenClaim := { program := "ythhbmbkecaffeaa", sum := "0266c4e4d8767eeb0763010593da0c60e2facca338c849e8b84522e0984e57c0", func := "loop.example/g01921/laws.FnExactDependencyViolation", spec := "fnExactDependencyViolation", unfollowed := true, recurses := true, apart := false }
def FnExactDependencyViolationSaid : Prop := fnExactDependencyViolationRow.holds Try.pinned (OpenSpec.ofChange fnExactDependencyViolationSpec)

/-- ITS FALSE NEIGHBOUR: 'it returns false'. Refute it at one input. -/
def fnExactDependencyViolationWrong : ChangeSpec := { name := "fnExactDependencyViolation", fn := fun _ => fun
  | [d1, d2] => { results := [.lit (.bool false)], args := [d1, d2] }
  | _ => none }
def FnExactDependencyViolationWrongFalsely : Prop := fnExactDependencyViolationRow.holds Try.pinned (OpenSpec.ofChange fnExactDependencyViolationWrong)

/- THE SECOND FORM. 'bulk': how many values and letters a reading holds, each counted each time it is reached (what is shared counts as often as it is met; a slice's spare places count too). A statement '..UptoSaid' is the law's where the arguments, and the package variables that the reading takes, are together of bulk at most 1048576: NARROWER than '..Said'. Prove '..Said' where nothing that the law and all that it calls make is longer than what came in: it says more and counts as full. Else prove '..UptoSaid'. A law counts once. -/
mutual
def uptoBulk {H : Type} : DataW H → Nat
  | .lit (.string bytes) => bytes.length + 1
  | .lit _ => 1
  | .nil => 1
  | .ptr d => uptoBulk d + 1
  | .slice elems spare => uptoBulkAll elems + uptoBulkAll spare + 1
  | .agg parts => uptoBulkAll parts + 1
  | .iface _ d => uptoBulk d + 1
  | .map entries => uptoBulkEntries entries + 1
  | .held _ => 1
def uptoBulkAll {H : Type} : List (DataW H) → Nat
  | [] => 0
  | d :: r => uptoBulk d + uptoBulkAll r
def uptoBulkEntries {H : Type} : List (Lit × DataW H) → Nat
  | [] => 0
  | x :: r => uptoBulkEntry x + uptoBulkEntries r
def uptoBulkEntry {H : Type} : Lit × DataW H → Nat
  | (.string bytes, d) => bytes.length + uptoBulk d + 1
  | (_, d) => uptoBulk d + 1
 end
def uptoSmall : (H : Type) → List (DataW H) → Bool := fun _ ds => decide (uptoBulkAll ds ≤ 1048576)
def OpenSpec.upto (s : _root_.Go.ChangeSpec) : _root_.Go.OpenSpec := { _root_.Go.OpenSpec.ofChange s with cond := some uptoSmall }

/-- 'laws.FnExactFormatQuery', WHERE WHAT IT READS IS OF BULK AT MOST 1048576: true; the input reads as it did. -/
def fnExactFormatQueryUptoRow : OpenClaim := { program := "ythhbmbkecaffeaa", sum := "0266c4e4d8767eeb0763010593da0c60e2facca338c849e8b84522e0984e57c0", func := "loop.example/g01921/laws.FnExactFormatQuery", spec := "fnExactFormatQuery", inPlace := ["internal/abi.NoEscape", "internal/bytealg.MakeNoZero"], apart := false, narrowed := true }
def FnExactFormatQueryUptoSaid : Prop := fnExactFormatQueryUptoRow.holds Try.pinned (OpenSpec.upto fnExactFormatQuerySpec)

/-- 'laws.FnExactCountJoinTrees', WHERE WHAT IT READS IS OF BULK AT MOST 1048576: true; the input reads as it did. -/
def fnExactCountJoinTreesUptoRow : OpenClaim := { program := "ythhbmbkecaffeaa", sum := "0266c4e4d8767eeb0763010593da0c60e2facca338c849e8b84522e0984e57c0", func := "loop.example/g01921/laws.FnExactCountJoinTrees", spec := "fnExactCountJoinTrees", recurses := true, apart := false, narrowed := true }
def FnExactCountJoinTreesUptoSaid : Prop := fnExactCountJoinTreesUptoRow.holds Try.pinned (OpenSpec.upto fnExactCountJoinTreesSpec)

/-- 'laws.FnExactJoinSplits', WHERE WHAT IT READS IS OF BULK AT MOST 1048576: true; the input reads as it did. -/
def fnExactJoinSplitsUptoRow : OpenClaim := { program := "ythhbmbkecaffeaa", sum := "0266c4e4d8767eeb0763010593da0c60e2facca338c849e8b84522e0984e57c0", func := "loop.example/g01921/laws.FnExactJoinSplits", spec := "fnExactJoinSplits", apart := false, narrowed := true }
def FnExactJoinSplitsUptoSaid : Prop := fnExactJoinSplitsUptoRow.holds Try.pinned (OpenSpec.upto fnExactJoinSplitsSpec)

/-- 'laws.FnExactIsValidInclusion', WHERE WHAT IT READS IS OF BULK AT MOST 1048576: true; the input reads as it did. -/
def fnExactIsValidInclusionUptoRow : OpenClaim := { program := "ythhbmbkecaffeaa", sum := "0266c4e4d8767eeb0763010593da0c60e2facca338c849e8b84522e0984e57c0", func := "loop.example/g01921/laws.FnExactIsValidInclusion", spec := "fnExactIsValidInclusion", unfollowed := true, recurses := true, apart := false, narrowed := true }
def FnExactIsValidInclusionUptoSaid : Prop := fnExactIsValidInclusionUptoRow.holds Try.pinned (OpenSpec.upto fnExactIsValidInclusionSpec)

/-- 'laws.FnExactFormatAnswer', WHERE WHAT IT READS IS OF BULK AT MOST 1048576: true; the input reads as it did. -/
def fnExactFormatAnswerUptoRow : OpenClaim := { program := "ythhbmbkecaffeaa", sum := "0266c4e4d8767eeb0763010593da0c60e2facca338c849e8b84522e0984e57c0", func := "loop.example/g01921/laws.FnExactFormatAnswer", spec := "fnExactFormatAnswer", inPlace := ["internal/abi.NoEscape", "internal/bytealg.MakeNoZero"], apart := false, narrowed := true }
def FnExactFormatAnswerUptoSaid : Prop := fnExactFormatAnswerUptoRow.holds Try.pinned (OpenSpec.upto fnExactFormatAnswerSpec)

/-- 'laws.FnExactIsValidDependency', WHERE WHAT IT READS IS OF BULK AT MOST 1048576: true; the input reads as it did. -/
def fnExactIsValidDependencyUptoRow : OpenClaim := { program := "ythhbmbkecaffeaa", sum := "0266c4e4d8767eeb0763010593da0c60e2facca338c849e8b84522e0984e57c0", func := "loop.example/g01921/laws.FnExactIsValidDependency", spec := "fnExactIsValidDependency", unfollowed := true, recurses := true, apart := false, narrowed := true }
def FnExactIsValidDependencyUptoSaid : Prop := fnExactIsValidDependencyUptoRow.holds Try.pinned (OpenSpec.upto fnExactIsValidDependencySpec)

/-- 'laws.FnExactDependencyHolds', WHERE WHAT IT READS IS OF BULK AT MOST 1048576: true; the input reads as it did. -/
def fnExactDependencyHoldsUptoRow : OpenClaim := { program := "ythhbmbkecaffeaa", sum := "0266c4e4d8767eeb0763010593da0c60e2facca338c849e8b84522e0984e57c0", func := "loop.example/g01921/laws.FnExactDependencyHolds", spec := "fnExactDependencyHolds", unfollowed := true, recurses := true, apart := false, narrowed := true }
def FnExactDependencyHoldsUptoSaid : Prop := fnExactDependencyHoldsUptoRow.holds Try.pinned (OpenSpec.upto fnExactDependencyHoldsSpec)

/-- 'laws.FnExactIsQueryFor', WHERE WHAT IT READS IS OF BULK AT MOST 1048576: true; the input reads as it did. -/
def fnExactIsQueryForUptoRow : OpenClaim := { program := "ythhbmbkecaffeaa", sum := "0266c4e4d8767eeb0763010593da0c60e2facca338c849e8b84522e0984e57c0", func := "loop.example/g01921/laws.FnExactIsQueryFor", spec := "fnExactIsQueryFor", unfollowed := true, recurses := true, apart := false, narrowed := true }
def FnExactIsQueryForUptoSaid : Prop := fnExactIsQueryForUptoRow.holds Try.pinned (OpenSpec.upto fnExactIsQueryForSpec)

/-- 'laws.FnExactDependencyViolation', WHERE WHAT IT READS IS OF BULK AT MOST 1048576: true; the input reads as it did. -/
def fnExactDependencyViolationUptoRow : OpenClaim := { program := "ythhbmbkecaffeaa", sum := "0266c4e4d8767eeb0763010593da0c60e2facca338c849e8b84522e0984e57c0", func := "loop.example/g01921/laws.FnExactDependencyViolation", spec := "fnExactDependencyViolation", unfollowed := true, recurses := true, apart := false, narrowed := true }
def FnExactDependencyViolationUptoSaid : Prop := fnExactDependencyViolationUptoRow.holds Try.pinned (OpenSpec.upto fnExactDependencyViolationSpec)

end Rows
end Go.Proofs.Ythhbmbkecaffeaa
