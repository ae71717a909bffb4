/-
  No cell of these rows narrows 'for every input' (looked for: loops, veiled, ifaces, maps, wideKeys, modest, calm, conditions, laid).
  DERIVED. THE GIVEN ROWS OF THIS SEAT. 12 by the template 'for every input the law returns true; each argument reads behind the call as it read before'; 0 by the template 'total and deterministic' (their statements: YtogblmfmmlbahaaTotals.lean).
  GIVEN WITH THE SEED: the statements are not yours to turn. If you find one false, say at which input.
  Laid BY PROGRAM, IN A SANDBOX (cutbox-rows.mjs): the forced cells as the released guide's own fill.sh prints them over the translation 3a49a86bbb51e90a… (all of the seat's roots in one cut). By AI agents, Wed Nov 11 2026. No macro, syntax, notation, axiom, sorry.
-/
import Derived.Test.YtogblmfmmlbahaaChecked
import GoSem.Claim
import GoSem.ClaimJoined
import GoSem.ClaimMapViews
import Derived.JoinedTies
import Derived.KernelRfl
namespace Go.Proofs.Ytogblmfmmlbahaa
/- THE CELL 'sum', in the pinned program and in every row, IS THE sha256 OF THE DUMP (.gsa) THAT YtogblmfmmlbahaaProg.lean LOADS. Nothing in Lean hashes anything: it is a label: what it is worth is what the hold of that sum in a sandbox is worth. -/
noncomputable def Try.pinned : Pinned := { name := "ytogblmfmmlbahaa", sum := "3a49a86bbb51e90a4c9989d223943ffcee764a52ca1764f3b6d3433340f3d54d", checked := Try.checked }
namespace Rows
def none {H : Type} : Left H := { results := [], args := [] }

/-- 'laws.FnExactCauchyBound': WHATEVER THE INPUT: true; the input reads as it did. -/
def fnExactCauchyBoundSpec : ChangeSpec := { name := "fnExactCauchyBound", fn := fun _ => fun
  | [d1, d2] => { results := [.lit (.bool true)], args := [d1, d2] }
  | _ => none }
def fnExactCauchyBoundRow : OpenClaim := { program := "ytogblmfmmlbahaa", sum := "3a49a86bbb51e90a4c9989d223943ffcee764a52ca1764f3b6d3433340f3d54d", func := "loop.example/g01921/laws.FnExactCauchyBound", spec := "fnExactCauchyBound", apart := false }
def FnExactCauchyBoundSaid : Prop := fnExactCauchyBoundRow.holds Try.pinned (OpenSpec.ofChange fnExactCauchyBoundSpec)

/-- ITS FALSE NEIGHBOUR: 'it returns false'. Refute it at one input. -/
def fnExactCauchyBoundWrong : ChangeSpec := { name := "fnExactCauchyBound", fn := fun _ => fun
  | [d1, d2] => { results := [.lit (.bool false)], args := [d1, d2] }
  | _ => none }
def FnExactCauchyBoundWrongFalsely : Prop := fnExactCauchyBoundRow.holds Try.pinned (OpenSpec.ofChange fnExactCauchyBoundWrong)

/-- 'laws.FnExactEqualAnswers': WHATEVER THE INPUT: true; the input reads as it did. -/
def fnExactEqualAnswersSpec : ChangeSpec := { name := "fnExactEqualAnswers", fn := fun _ => fun
  | [d1, d2] => { results := [.lit (.bool true)], args := [d1, d2] }
  | _ => none }
def fnExactEqualAnswersRow : OpenClaim := { program := "ytogblmfmmlbahaa", sum := "3a49a86bbb51e90a4c9989d223943ffcee764a52ca1764f3b6d3433340f3d54d", func := "loop.example/g01921/laws.FnExactEqualAnswers", spec := "fnExactEqualAnswers", unfollowed := true, recurses := true, apart := false }
def FnExactEqualAnswersSaid : Prop := fnExactEqualAnswersRow.holds Try.pinned (OpenSpec.ofChange fnExactEqualAnswersSpec)

/-- ITS FALSE NEIGHBOUR: 'it returns false'. Refute it at one input. -/
def fnExactEqualAnswersWrong : ChangeSpec := { name := "fnExactEqualAnswers", fn := fun _ => fun
  | [d1, d2] => { results := [.lit (.bool false)], args := [d1, d2] }
  | _ => none }
def FnExactEqualAnswersWrongFalsely : Prop := fnExactEqualAnswersRow.holds Try.pinned (OpenSpec.ofChange fnExactEqualAnswersWrong)

/-- 'laws.FnExactEqualQueries': WHATEVER THE INPUT: true; the input reads as it did. -/
def fnExactEqualQueriesSpec : ChangeSpec := { name := "fnExactEqualQueries", fn := fun _ => fun
  | [d1, d2] => { results := [.lit (.bool true)], args := [d1, d2] }
  | _ => none }
def fnExactEqualQueriesRow : OpenClaim := { program := "ytogblmfmmlbahaa", sum := "3a49a86bbb51e90a4c9989d223943ffcee764a52ca1764f3b6d3433340f3d54d", func := "loop.example/g01921/laws.FnExactEqualQueries", spec := "fnExactEqualQueries", unfollowed := true, recurses := true, apart := false }
def FnExactEqualQueriesSaid : Prop := fnExactEqualQueriesRow.holds Try.pinned (OpenSpec.ofChange fnExactEqualQueriesSpec)

/-- ITS FALSE NEIGHBOUR: 'it returns false'. Refute it at one input. -/
def fnExactEqualQueriesWrong : ChangeSpec := { name := "fnExactEqualQueries", fn := fun _ => fun
  | [d1, d2] => { results := [.lit (.bool false)], args := [d1, d2] }
  | _ => none }
def FnExactEqualQueriesWrongFalsely : Prop := fnExactEqualQueriesRow.holds Try.pinned (OpenSpec.ofChange fnExactEqualQueriesWrong)

/-- 'laws.FnExactIsValidQuery': WHATEVER THE INPUT: true; the input reads as it did. -/
def fnExactIsValidQuerySpec : ChangeSpec := { name := "fnExactIsValidQuery", fn := fun _ => fun
  | [d] => { results := [.lit (.bool true)], args := [d] }
  | _ => none }
def fnExactIsValidQueryRow : OpenClaim := { program := "ytogblmfmmlbahaa", sum := "3a49a86bbb51e90a4c9989d223943ffcee764a52ca1764f3b6d3433340f3d54d", func := "loop.example/g01921/laws.FnExactIsValidQuery", spec := "fnExactIsValidQuery", apart := false }
def FnExactIsValidQuerySaid : Prop := fnExactIsValidQueryRow.holds Try.pinned (OpenSpec.ofChange fnExactIsValidQuerySpec)

/-- ITS FALSE NEIGHBOUR: 'it returns false'. Refute it at one input. -/
def fnExactIsValidQueryWrong : ChangeSpec := { name := "fnExactIsValidQuery", fn := fun _ => fun
  | [d] => { results := [.lit (.bool false)], args := [d] }
  | _ => none }
def FnExactIsValidQueryWrongFalsely : Prop := fnExactIsValidQueryRow.holds Try.pinned (OpenSpec.ofChange fnExactIsValidQueryWrong)

/-- 'laws.FnExactFullMask': WHATEVER THE INPUT: true; the input reads as it did. -/
def fnExactFullMaskSpec : ChangeSpec := { name := "fnExactFullMask", fn := fun _ => fun
  | [d] => { results := [.lit (.bool true)], args := [d] }
  | _ => none }
def fnExactFullMaskRow : OpenClaim := { program := "ytogblmfmmlbahaa", sum := "3a49a86bbb51e90a4c9989d223943ffcee764a52ca1764f3b6d3433340f3d54d", func := "loop.example/g01921/laws.FnExactFullMask", spec := "fnExactFullMask", apart := false }
def FnExactFullMaskSaid : Prop := fnExactFullMaskRow.holds Try.pinned (OpenSpec.ofChange fnExactFullMaskSpec)

/-- ITS FALSE NEIGHBOUR: 'it returns false'. Refute it at one input. -/
def fnExactFullMaskWrong : ChangeSpec := { name := "fnExactFullMask", fn := fun _ => fun
  | [d] => { results := [.lit (.bool false)], args := [d] }
  | _ => none }
def FnExactFullMaskWrongFalsely : Prop := fnExactFullMaskRow.holds Try.pinned (OpenSpec.ofChange fnExactFullMaskWrong)

/-- 'laws.FnExactIsValidAnswer': WHATEVER THE INPUT: true; the input reads as it did. -/
def fnExactIsValidAnswerSpec : ChangeSpec := { name := "fnExactIsValidAnswer", fn := fun _ => fun
  | [d] => { results := [.lit (.bool true)], args := [d] }
  | _ => none }
def fnExactIsValidAnswerRow : OpenClaim := { program := "ytogblmfmmlbahaa", sum := "3a49a86bbb51e90a4c9989d223943ffcee764a52ca1764f3b6d3433340f3d54d", func := "loop.example/g01921/laws.FnExactIsValidAnswer", spec := "fnExactIsValidAnswer", apart := false }
def FnExactIsValidAnswerSaid : Prop := fnExactIsValidAnswerRow.holds Try.pinned (OpenSpec.ofChange fnExactIsValidAnswerSpec)

/-- ITS FALSE NEIGHBOUR: 'it returns false'. Refute it at one input. -/
def fnExactIsValidAnswerWrong : ChangeSpec := { name := "fnExactIsValidAnswer", fn := fun _ => fun
  | [d] => { results := [.lit (.bool false)], args := [d] }
  | _ => none }
def FnExactIsValidAnswerWrongFalsely : Prop := fnExactIsValidAnswerRow.holds Try.pinned (OpenSpec.ofChange fnExactIsValidAnswerWrong)

/-- 'laws.FnExactEqualStats': WHATEVER THE INPUT: true; the input reads as it did. -/
def fnExactEqualStatsSpec : ChangeSpec := { name := "fnExactEqualStats", fn := fun _ => fun
  | [d1, d2] => { results := [.lit (.bool true)], args := [d1, d2] }
  | _ => none }
def fnExactEqualStatsRow : OpenClaim := { program := "ytogblmfmmlbahaa", sum := "3a49a86bbb51e90a4c9989d223943ffcee764a52ca1764f3b6d3433340f3d54d", func := "loop.example/g01921/laws.FnExactEqualStats", spec := "fnExactEqualStats", unfollowed := true, recurses := true, apart := false }
def FnExactEqualStatsSaid : Prop := fnExactEqualStatsRow.holds Try.pinned (OpenSpec.ofChange fnExactEqualStatsSpec)

/-- ITS FALSE NEIGHBOUR: 'it returns false'. Refute it at one input. -/
def fnExactEqualStatsWrong : ChangeSpec := { name := "fnExactEqualStats", fn := fun _ => fun
  | [d1, d2] => { results := [.lit (.bool false)], args := [d1, d2] }
  | _ => none }
def FnExactEqualStatsWrongFalsely : Prop := fnExactEqualStatsRow.holds Try.pinned (OpenSpec.ofChange fnExactEqualStatsWrong)

/-- 'laws.FnExactNeighborMask': WHATEVER THE INPUT: true; the input reads as it did. -/
def fnExactNeighborMaskSpec : ChangeSpec := { name := "fnExactNeighborMask", fn := fun _ => fun
  | [d1, d2] => { results := [.lit (.bool true)], args := [d1, d2] }
  | _ => none }
def fnExactNeighborMaskRow : OpenClaim := { program := "ytogblmfmmlbahaa", sum := "3a49a86bbb51e90a4c9989d223943ffcee764a52ca1764f3b6d3433340f3d54d", func := "loop.example/g01921/laws.FnExactNeighborMask", spec := "fnExactNeighborMask", apart := false }
def FnExactNeighborMaskSaid : Prop := fnExactNeighborMaskRow.holds Try.pinned (OpenSpec.ofChange fnExactNeighborMaskSpec)

/-- ITS FALSE NEIGHBOUR: 'it returns false'. Refute it at one input. -/
def fnExactNeighborMaskWrong : ChangeSpec := { name := "fnExactNeighborMask", fn := fun _ => fun
  | [d1, d2] => { results := [.lit (.bool false)], args := [d1, d2] }
  | _ => none }
def FnExactNeighborMaskWrongFalsely : Prop := fnExactNeighborMaskRow.holds Try.pinned (OpenSpec.ofChange fnExactNeighborMaskWrong)

/-- 'laws.FnExactIsConnected': WHATEVER THE INPUT: true; the input reads as it did. -/
def fnExactIsConnectedSpec : ChangeSpec := { name := "fnExactIsConnected", fn := fun _ => fun
  | [d1, d2] => { results := [.lit (.bool true)], args := [d1, d2] }
  | _ => none }
def fnExactIsConnectedRow : OpenClaim := { program := "ytogblmfmmlbahaa", sum := "3a49a86bbb51e90a4c9989d223943ffcee764a52ca1764f3b6d3433340f3d54d", func := "loop.example/g01921/laws.FnExactIsConnected", spec := "fnExactIsConnected", apart := false }
def FnExactIsConnectedSaid : Prop := fnExactIsConnectedRow.holds Try.pinned (OpenSpec.ofChange fnExactIsConnectedSpec)

/-- ITS FALSE NEIGHBOUR: 'it returns false'. Refute it at one input. -/
def fnExactIsConnectedWrong : ChangeSpec := { name := "fnExactIsConnected", fn := fun _ => fun
  | [d1, d2] => { results := [.lit (.bool false)], args := [d1, d2] }
  | _ => none }
def FnExactIsConnectedWrongFalsely : Prop := fnExactIsConnectedRow.holds Try.pinned (OpenSpec.ofChange fnExactIsConnectedWrong)

/-- 'laws.FnExactMaskVariables': WHATEVER THE INPUT: true; the input reads as it did. -/
def fnExactMaskVariablesSpec : ChangeSpec := { name := "fnExactMaskVariables", fn := fun _ => fun
  | [d1, d2] => { results := [.lit (.bool true)], args := [d1, d2] }
  | _ => none }
def fnExactMaskVariablesRow : OpenClaim := { program := "ytogblmfmmlbahaa", sum := "3a49a86bbb51e90a4c9989d223943ffcee764a52ca1764f3b6d3433340f3d54d", func := "loop.example/g01921/laws.FnExactMaskVariables", spec := "fnExactMaskVariables", apart := false }
def FnExactMaskVariablesSaid : Prop := fnExactMaskVariablesRow.holds Try.pinned (OpenSpec.ofChange fnExactMaskVariablesSpec)

/-- ITS FALSE NEIGHBOUR: 'it returns false'. Refute it at one input. -/
def fnExactMaskVariablesWrong : ChangeSpec := { name := "fnExactMaskVariables", fn := fun _ => fun
  | [d1, d2] => { results := [.lit (.bool false)], args := [d1, d2] }
  | _ => none }
def FnExactMaskVariablesWrongFalsely : Prop := fnExactMaskVariablesRow.holds Try.pinned (OpenSpec.ofChange fnExactMaskVariablesWrong)

/-- 'laws.FnExactSharedVariables': WHATEVER THE INPUT: true; the input reads as it did. -/
def fnExactSharedVariablesSpec : ChangeSpec := { name := "fnExactSharedVariables", fn := fun _ => fun
  | [d1, d2, d3] => { results := [.lit (.bool true)], args := [d1, d2, d3] }
  | _ => none }
def fnExactSharedVariablesRow : OpenClaim := { program := "ytogblmfmmlbahaa", sum := "3a49a86bbb51e90a4c9989d223943ffcee764a52ca1764f3b6d3433340f3d54d", func := "loop.example/g01921/laws.FnExactSharedVariables", spec := "fnExactSharedVariables", apart := false }
def FnExactSharedVariablesSaid : Prop := fnExactSharedVariablesRow.holds Try.pinned (OpenSpec.ofChange fnExactSharedVariablesSpec)

/-- ITS FALSE NEIGHBOUR: 'it returns false'. Refute it at one input. -/
def fnExactSharedVariablesWrong : ChangeSpec := { name := "fnExactSharedVariables", fn := fun _ => fun
  | [d1, d2, d3] => { results := [.lit (.bool false)], args := [d1, d2, d3] }
  | _ => none }
def FnExactSharedVariablesWrongFalsely : Prop := fnExactSharedVariablesRow.holds Try.pinned (OpenSpec.ofChange fnExactSharedVariablesWrong)

/-- 'laws.FnExactConnectedMasks': WHATEVER THE INPUT: true; the input reads as it did. -/
def fnExactConnectedMasksSpec : ChangeSpec := { name := "fnExactConnectedMasks", fn := fun _ => fun
  | [d] => { results := [.lit (.bool true)], args := [d] }
  | _ => none }
def fnExactConnectedMasksRow : OpenClaim := { program := "ytogblmfmmlbahaa", sum := "3a49a86bbb51e90a4c9989d223943ffcee764a52ca1764f3b6d3433340f3d54d", func := "loop.example/g01921/laws.FnExactConnectedMasks", spec := "fnExactConnectedMasks", apart := false }
def FnExactConnectedMasksSaid : Prop := fnExactConnectedMasksRow.holds Try.pinned (OpenSpec.ofChange fnExactConnectedMasksSpec)

/-- ITS FALSE NEIGHBOUR: 'it returns false'. Refute it at one input. -/
def fnExactConnectedMasksWrong : ChangeSpec := { name := "fnExactConnectedMasks", fn := fun _ => fun
  | [d] => { results := [.lit (.bool false)], args := [d] }
  | _ => none }
def FnExactConnectedMasksWrongFalsely : Prop := fnExactConnectedMasksRow.holds Try.pinned (OpenSpec.ofChange fnExactConnectedMasksWrong)

/- THE SECOND FORM. 'bulk': how many values and letters a reading holds, each counted each time it is reached (what is shared counts as often as it is met; a slice's spare places count too). A statement '..UptoSaid' is the law's where the arguments, and the package variables that the reading takes, are together of bulk at most 1048576: NARROWER than '..Said'. Prove '..Said' where nothing that the law and all that it calls make is longer than what came in: it says more and counts as full. Else prove '..UptoSaid'. A law counts once. -/
mutual
def uptoBulk {H : Type} : DataW H → Nat
  | .lit (.string bytes) => bytes.length + 1
  | .lit _ => 1
  | .nil => 1
  | .ptr d => uptoBulk d + 1
  | .slice elems spare => uptoBulkAll elems + uptoBulkAll spare + 1
  | .agg parts => uptoBulkAll parts + 1
  | .iface _ d => uptoBulk d + 1
  | .map entries => uptoBulkEntries entries + 1
  | .held _ => 1
def uptoBulkAll {H : Type} : List (DataW H) → Nat
  | [] => 0
  | d :: r => uptoBulk d + uptoBulkAll r
def uptoBulkEntries {H : Type} : List (Lit × DataW H) → Nat
  | [] => 0
  | x :: r => uptoBulkEntry x + uptoBulkEntries r
def uptoBulkEntry {H : Type} : Lit × DataW H → Nat
  | (.string bytes, d) => bytes.length + uptoBulk d + 1
  | (_, d) => uptoBulk d + 1
 end
def uptoSmall : (H : Type) → List (DataW H) → Bool := fun _ ds => decide (uptoBulkAll ds ≤ 1048576)
def OpenSpec.upto (s : _root_.Go.ChangeSpec) : _root_.Go.OpenSpec := { _root_.Go.OpenSpec.ofChange s with cond := some uptoSmall }

/-- 'laws.FnExactCauchyBound', WHERE WHAT IT READS IS OF BULK AT MOST 1048576: true; the input reads as it did. -/
def fnExactCauchyBoundUptoRow : OpenClaim := { program := "ytogblmfmmlbahaa", sum := "3a49a86bbb51e90a4c9989d223943ffcee764a52ca1764f3b6d3433340f3d54d", func := "loop.example/g01921/laws.FnExactCauchyBound", spec := "fnExactCauchyBound", apart := false, narrowed := true }
def FnExactCauchyBoundUptoSaid : Prop := fnExactCauchyBoundUptoRow.holds Try.pinned (OpenSpec.upto fnExactCauchyBoundSpec)

/-- 'laws.FnExactEqualAnswers', WHERE WHAT IT READS IS OF BULK AT MOST 1048576: true; the input reads as it did. -/
def fnExactEqualAnswersUptoRow : OpenClaim := { program := "ytogblmfmmlbahaa", sum := "3a49a86bbb51e90a4c9989d223943ffcee764a52ca1764f3b6d3433340f3d54d", func := "loop.example/g01921/laws.FnExactEqualAnswers", spec := "fnExactEqualAnswers", unfollowed := true, recurses := true, apart := false, narrowed := true }
def FnExactEqualAnswersUptoSaid : Prop := fnExactEqualAnswersUptoRow.holds Try.pinned (OpenSpec.upto fnExactEqualAnswersSpec)

/-- 'laws.FnExactEqualQueries', WHERE WHAT IT READS IS OF BULK AT MOST 1048576: true; the input reads as it did. -/
def fnExactEqualQueriesUptoRow : OpenClaim := { program := "ytogblmfmmlbahaa", sum := "3a49a86bbb51e90a4c9989d223943ffcee764a52ca1764f3b6d3433340f3d54d", func := "loop.example/g01921/laws.FnExactEqualQueries", spec := "fnExactEqualQueries", unfollowed := true, recurses := true, apart := false, narrowed := true }
def FnExactEqualQueriesUptoSaid : Prop := fnExactEqualQueriesUptoRow.holds Try.pinned (OpenSpec.upto fnExactEqualQueriesSpec)

/-- 'laws.FnExactIsValidQuery', WHERE WHAT IT READS IS OF BULK AT MOST 1048576: true; the input reads as it did. -/
def fnExactIsValidQueryUptoRow : OpenClaim := { program := "ytogblmfmmlbahaa", sum := "3a49a86bbb51e90a4c9989d223943ffcee764a52ca1764f3b6d3433340f3d54d", func := "loop.example/g01921/laws.FnExactIsValidQuery", spec := "fnExactIsValidQuery", apart := false, narrowed := true }
def FnExactIsValidQueryUptoSaid : Prop := fnExactIsValidQueryUptoRow.holds Try.pinned (OpenSpec.upto fnExactIsValidQuerySpec)

/-- 'laws.FnExactFullMask', WHERE WHAT IT READS IS OF BULK AT MOST 1048576: true; the input reads as it did. -/
def fnExactFullMaskUptoRow : OpenClaim := { program := "ytogblmfmmlbahaa", sum := "3a49a86bbb51e90a4c9989d223943ffcee764a52ca1764f3b6d3433340f3d54d", func := "loop.example/g01921/laws.FnExactFullMask", spec := "fnExactFullMask", apart := false, narrowed := true }
def FnExactFullMaskUptoSaid : Prop := fnExactFullMaskUptoRow.holds Try.pinned (OpenSpec.upto fnExactFullMaskSpec)

/-- 'laws.FnExactIsValidAnswer', WHERE WHAT IT READS IS OF BULK AT MOST 1048576: true; the input reads as it did. -/
def fnExactIsValidAnswerUptoRow : OpenClaim := { program := "ytogblmfmmlbahaa", sum := "3a49a86bbb51e90a4c9989d223943ffcee764a52ca1764f3b6d3433340f3d54d", func := "loop.example/g01921/laws.FnExactIsValidAnswer", spec := "fnExactIsValidAnswer", apart := false, narrowed := true }
def FnExactIsValidAnswerUptoSaid : Prop := fnExactIsValidAnswerUptoRow.holds Try.pinned (OpenSpec.upto fnExactIsValidAnswerSpec)

/-- 'laws.FnExactEqualStats', WHERE WHAT IT READS IS OF BULK AT MOST 1048576: true; the input reads as it did. -/
def fnExactEqualStatsUptoRow : OpenClaim := { program := "ytogblmfmmlbahaa", sum := "3a49a86bbb51e90a4c9989d223943ffcee764a52ca1764f3b6d3433340f3d54d", func := "loop.example/g01921/laws.FnExactEqualStats", spec := "fnExactEqualStats", unfollowed := true, recurses := true, apart := false, narrowed := true }
def FnExactEqualStatsUptoSaid : Prop := fnExactEqualStatsUptoRow.holds Try.pinned (OpenSpec.upto fnExactEqualStatsSpec)

/-- 'laws.FnExactNeighborMask', WHERE WHAT IT READS IS OF BULK AT MOST 1048576: true; the input reads as it did. -/
def fnExactNeighborMaskUptoRow : OpenClaim := { program := "ytogblmfmmlbahaa", sum := "3a49a86bbb51e90a4c9989d223943ffcee764a52ca1764f3b6d3433340f3d54d", func := "loop.example/g01921/laws.FnExactNeighborMask", spec := "fnExactNeighborMask", apart := false, narrowed := true }
def FnExactNeighborMaskUptoSaid : Prop := fnExactNeighborMaskUptoRow.holds Try.pinned (OpenSpec.upto fnExactNeighborMaskSpec)

/-- 'laws.FnExactIsConnected', WHERE WHAT IT READS IS OF BULK AT MOST 1048576: true; the input reads as it did. -/
def fnExactIsConnectedUptoRow : OpenClaim := { program := "ytogblmfmmlbahaa", sum := "3a49a86bbb51e90a4c9989d223943ffcee764a52ca1764f3b6d3433340f3d54d", func := "loop.example/g01921/laws.FnExactIsConnected", spec := "fnExactIsConnected", apart := false, narrowed := true }
def FnExactIsConnectedUptoSaid : Prop := fnExactIsConnectedUptoRow.holds Try.pinned (OpenSpec.upto fnExactIsConnectedSpec)

/-- 'laws.FnExactMaskVariables', WHERE WHAT IT READS IS OF BULK AT MOST 1048576: true; the input reads as it did. -/
def fnExactMaskVariablesUptoRow : OpenClaim := { program := "ytogblmfmmlbahaa", sum := "3a49a86bbb51e90a4c9989d223943ffcee764a52ca1764f3b6d3433340f3d54d", func := "loop.example/g01921/laws.FnExactMaskVariables", spec := "fnExactMaskVariables", apart := false, narrowed := true }
def FnExactMaskVariablesUptoSaid : Prop := fnExactMaskVariablesUptoRow.holds Try.pinned (OpenSpec.upto fnExactMaskVariablesSpec)

/-- 'laws.FnExactSharedVariables', WHERE WHAT IT READS IS OF BULK AT MOST 1048576: true; the input reads as it did. -/
def fnExactSharedVariablesUptoRow : OpenClaim := { program := "ytogblmfmmlbahaa", sum := "3a49a86bbb51e90a4c9989d223943ffcee764a52ca1764f3b6d3433340f3d54d", func := "loop.example/g01921/laws.FnExactSharedVariables", spec := "fnExactSharedVariables", apart := false, narrowed := true }
def FnExactSharedVariablesUptoSaid : Prop := fnExactSharedVariablesUptoRow.holds Try.pinned (OpenSpec.upto fnExactSharedVariablesSpec)

/-- 'laws.FnExactConnectedMasks', WHERE WHAT IT READS IS OF BULK AT MOST 1048576: true; the input reads as it did. -/
def fnExactConnectedMasksUptoRow : OpenClaim := { program := "ytogblmfmmlbahaa", sum := "3a49a86bbb51e90a4c9989d223943ffcee764a52ca1764f3b6d3433340f3d54d", func := "loop.example/g01921/laws.FnExactConnectedMasks", spec := "fnExactConnectedMasks", apart := false, narrowed := true }
def FnExactConnectedMasksUptoSaid : Prop := fnExactConnectedMasksUptoRow.holds Try.pinned (OpenSpec.upto fnExactConnectedMasksSpec)

end Rows
end Go.Proofs.Ytogblmfmmlbahaa
