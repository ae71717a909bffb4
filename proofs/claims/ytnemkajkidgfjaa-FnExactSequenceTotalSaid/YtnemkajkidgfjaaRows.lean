/-
  No cell of these rows narrows 'for every input' (looked for: loops, veiled, ifaces, maps, wideKeys, modest, calm, conditions, laid).
  DERIVED. THE GIVEN ROWS OF THIS SEAT. 12 by the template 'for every input the law returns true; each argument reads behind the call as it read before'; 0 by the template 'total and deterministic' (their statements: YtnemkajkidgfjaaTotals.lean).
  GIVEN WITH THE SEED: the statements are not yours to turn. If you find one false, say at which input.
  Laid BY PROGRAM, IN A SANDBOX (cutbox-rows.mjs): the forced cells as the released guide's own fill.sh prints them over the translation 2a15c1fd4c767cca… (all of the seat's roots in one cut). By AI agents, Wed Nov 11 2026. No macro, syntax, notation, axiom, sorry.
-/
import Derived.Test.YtnemkajkidgfjaaChecked
import GoSem.Claim
import GoSem.ClaimJoined
import GoSem.ClaimMapViews
import Derived.JoinedTies
import Derived.KernelRfl
namespace Go.Proofs.Ytnemkajkidgfjaa
/- THE CELL 'sum', in the pinned program and in every row, IS THE sha256 OF THE DUMP (.gsa) THAT YtnemkajkidgfjaaProg.lean LOADS. Nothing in Lean hashes anything: it is a label: what it is worth is what the hold of that sum in a sandbox is worth. -/
noncomputable def Try.pinned : Pinned := { name := "ytnemkajkidgfjaa", sum := "2a15c1fd4c767ccab6d2e8aaff4d06e5683b93d4ceda9c0a90393df57d449b83", checked := Try.checked }
namespace Rows
def none {H : Type} : Left H := { results := [], args := [] }

/-- 'laws.FnExactIntegerRoot': WHATEVER THE INPUT: true; the input reads as it did. -/
def fnExactIntegerRootSpec : ChangeSpec := { name := "fnExactIntegerRoot", fn := fun _ => fun
  | [d1, d2] => { results := [.lit (.bool true)], args := [d1, d2] }
  | _ => none }
def fnExactIntegerRootRow : OpenClaim := { program := "ytnemkajkidgfjaa", sum := "2a15c1fd4c767ccab6d2e8aaff4d06e5683b93d4ceda9c0a90393df57d449b83", func := "loop.example/g01921/laws.FnExactIntegerRoot", spec := "fnExactIntegerRoot", apart := false }
def FnExactIntegerRootSaid : Prop := fnExactIntegerRootRow.holds Try.pinned (OpenSpec.ofChange fnExactIntegerRootSpec)

/-- ITS FALSE NEIGHBOUR: 'it returns false'. Refute it at one input. -/
def fnExactIntegerRootWrong : ChangeSpec := { name := "fnExactIntegerRoot", fn := fun _ => fun
  | [d1, d2] => { results := [.lit (.bool false)], args := [d1, d2] }
  | _ => none }
def FnExactIntegerRootWrongFalsely : Prop := fnExactIntegerRootRow.holds Try.pinned (OpenSpec.ofChange fnExactIntegerRootWrong)

/-- 'laws.FnExactIsDegreeSequence': WHATEVER THE INPUT: true; the input reads as it did. -/
def fnExactIsDegreeSequenceSpec : ChangeSpec := { name := "fnExactIsDegreeSequence", fn := fun _ => fun
  | [d] => { results := [.lit (.bool true)], args := [d] }
  | _ => none }
def fnExactIsDegreeSequenceRow : OpenClaim := { program := "ytnemkajkidgfjaa", sum := "2a15c1fd4c767ccab6d2e8aaff4d06e5683b93d4ceda9c0a90393df57d449b83", func := "loop.example/g01921/laws.FnExactIsDegreeSequence", spec := "fnExactIsDegreeSequence", apart := false }
def FnExactIsDegreeSequenceSaid : Prop := fnExactIsDegreeSequenceRow.holds Try.pinned (OpenSpec.ofChange fnExactIsDegreeSequenceSpec)

/-- ITS FALSE NEIGHBOUR: 'it returns false'. Refute it at one input. -/
def fnExactIsDegreeSequenceWrong : ChangeSpec := { name := "fnExactIsDegreeSequence", fn := fun _ => fun
  | [d] => { results := [.lit (.bool false)], args := [d] }
  | _ => none }
def FnExactIsDegreeSequenceWrongFalsely : Prop := fnExactIsDegreeSequenceRow.holds Try.pinned (OpenSpec.ofChange fnExactIsDegreeSequenceWrong)

/-- 'laws.FnExactMaskAtoms': WHATEVER THE INPUT: true; the input reads as it did. -/
def fnExactMaskAtomsSpec : ChangeSpec := { name := "fnExactMaskAtoms", fn := fun _ => fun
  | [d] => { results := [.lit (.bool true)], args := [d] }
  | _ => none }
def fnExactMaskAtomsRow : OpenClaim := { program := "ytnemkajkidgfjaa", sum := "2a15c1fd4c767ccab6d2e8aaff4d06e5683b93d4ceda9c0a90393df57d449b83", func := "loop.example/g01921/laws.FnExactMaskAtoms", spec := "fnExactMaskAtoms", apart := false }
def FnExactMaskAtomsSaid : Prop := fnExactMaskAtomsRow.holds Try.pinned (OpenSpec.ofChange fnExactMaskAtomsSpec)

/-- ITS FALSE NEIGHBOUR: 'it returns false'. Refute it at one input. -/
def fnExactMaskAtomsWrong : ChangeSpec := { name := "fnExactMaskAtoms", fn := fun _ => fun
  | [d] => { results := [.lit (.bool false)], args := [d] }
  | _ => none }
def FnExactMaskAtomsWrongFalsely : Prop := fnExactMaskAtomsRow.holds Try.pinned (OpenSpec.ofChange fnExactMaskAtomsWrong)

/-- 'laws.FnExactSequenceFromNorms': WHATEVER THE INPUT: true; the input reads as it did. -/
def fnExactSequenceFromNormsSpec : ChangeSpec := { name := "fnExactSequenceFromNorms", fn := fun _ => fun
  | [d1, d2] => { results := [.lit (.bool true)], args := [d1, d2] }
  | _ => none }
def fnExactSequenceFromNormsRow : OpenClaim := { program := "ytnemkajkidgfjaa", sum := "2a15c1fd4c767ccab6d2e8aaff4d06e5683b93d4ceda9c0a90393df57d449b83", func := "loop.example/g01921/laws.FnExactSequenceFromNorms", spec := "fnExactSequenceFromNorms", apart := false }
def FnExactSequenceFromNormsSaid : Prop := fnExactSequenceFromNormsRow.holds Try.pinned (OpenSpec.ofChange fnExactSequenceFromNormsSpec)

/-- ITS FALSE NEIGHBOUR: 'it returns false'. Refute it at one input. -/
def fnExactSequenceFromNormsWrong : ChangeSpec := { name := "fnExactSequenceFromNorms", fn := fun _ => fun
  | [d1, d2] => { results := [.lit (.bool false)], args := [d1, d2] }
  | _ => none }
def FnExactSequenceFromNormsWrongFalsely : Prop := fnExactSequenceFromNormsRow.holds Try.pinned (OpenSpec.ofChange fnExactSequenceFromNormsWrong)

/-- 'laws.FnExactPairSequenceBound': WHATEVER THE INPUT: true; the input reads as it did. -/
def fnExactPairSequenceBoundSpec : ChangeSpec := { name := "fnExactPairSequenceBound", fn := fun _ => fun
  | [d1, d2] => { results := [.lit (.bool true)], args := [d1, d2] }
  | _ => none }
def fnExactPairSequenceBoundRow : OpenClaim := { program := "ytnemkajkidgfjaa", sum := "2a15c1fd4c767ccab6d2e8aaff4d06e5683b93d4ceda9c0a90393df57d449b83", func := "loop.example/g01921/laws.FnExactPairSequenceBound", spec := "fnExactPairSequenceBound", apart := false }
def FnExactPairSequenceBoundSaid : Prop := fnExactPairSequenceBoundRow.holds Try.pinned (OpenSpec.ofChange fnExactPairSequenceBoundSpec)

/-- ITS FALSE NEIGHBOUR: 'it returns false'. Refute it at one input. -/
def fnExactPairSequenceBoundWrong : ChangeSpec := { name := "fnExactPairSequenceBound", fn := fun _ => fun
  | [d1, d2] => { results := [.lit (.bool false)], args := [d1, d2] }
  | _ => none }
def FnExactPairSequenceBoundWrongFalsely : Prop := fnExactPairSequenceBoundRow.holds Try.pinned (OpenSpec.ofChange fnExactPairSequenceBoundWrong)

/-- 'laws.FnExactSequenceTotal': WHATEVER THE INPUT: true; the input reads as it did. -/
def fnExactSequenceTotalSpec : ChangeSpec := { name := "fnExactSequenceTotal", fn := fun _ => fun
  | [d] => { results := [.lit (.bool true)], args := [d] }
  | _ => none }
def fnExactSequenceTotalRow : OpenClaim := { program := "ytnemkajkidgfjaa", sum := "2a15c1fd4c767ccab6d2e8aaff4d06e5683b93d4ceda9c0a90393df57d449b83", func := "loop.example/g01921/laws.FnExactSequenceTotal", spec := "fnExactSequenceTotal", apart := false }
def FnExactSequenceTotalSaid : Prop := fnExactSequenceTotalRow.holds Try.pinned (OpenSpec.ofChange fnExactSequenceTotalSpec)

/-- ITS FALSE NEIGHBOUR: 'it returns false'. Refute it at one input. -/
def fnExactSequenceTotalWrong : ChangeSpec := { name := "fnExactSequenceTotal", fn := fun _ => fun
  | [d] => { results := [.lit (.bool false)], args := [d] }
  | _ => none }
def FnExactSequenceTotalWrongFalsely : Prop := fnExactSequenceTotalRow.holds Try.pinned (OpenSpec.ofChange fnExactSequenceTotalWrong)

/-- 'laws.FnExactTopDegrees': WHATEVER THE INPUT: true; the input reads as it did. -/
def fnExactTopDegreesSpec : ChangeSpec := { name := "fnExactTopDegrees", fn := fun _ => fun
  | [d1, d2] => { results := [.lit (.bool true)], args := [d1, d2] }
  | _ => none }
def fnExactTopDegreesRow : OpenClaim := { program := "ytnemkajkidgfjaa", sum := "2a15c1fd4c767ccab6d2e8aaff4d06e5683b93d4ceda9c0a90393df57d449b83", func := "loop.example/g01921/laws.FnExactTopDegrees", spec := "fnExactTopDegrees", apart := false }
def FnExactTopDegreesSaid : Prop := fnExactTopDegreesRow.holds Try.pinned (OpenSpec.ofChange fnExactTopDegreesSpec)

/-- ITS FALSE NEIGHBOUR: 'it returns false'. Refute it at one input. -/
def fnExactTopDegreesWrong : ChangeSpec := { name := "fnExactTopDegrees", fn := fun _ => fun
  | [d1, d2] => { results := [.lit (.bool false)], args := [d1, d2] }
  | _ => none }
def FnExactTopDegreesWrongFalsely : Prop := fnExactTopDegreesRow.holds Try.pinned (OpenSpec.ofChange fnExactTopDegreesWrong)

/-- 'laws.FnExactMaxDegreeBound': WHATEVER THE INPUT: true; the input reads as it did. -/
def fnExactMaxDegreeBoundSpec : ChangeSpec := { name := "fnExactMaxDegreeBound", fn := fun _ => fun
  | [d1, d2] => { results := [.lit (.bool true)], args := [d1, d2] }
  | _ => none }
def fnExactMaxDegreeBoundRow : OpenClaim := { program := "ytnemkajkidgfjaa", sum := "2a15c1fd4c767ccab6d2e8aaff4d06e5683b93d4ceda9c0a90393df57d449b83", func := "loop.example/g01921/laws.FnExactMaxDegreeBound", spec := "fnExactMaxDegreeBound", apart := false }
def FnExactMaxDegreeBoundSaid : Prop := fnExactMaxDegreeBoundRow.holds Try.pinned (OpenSpec.ofChange fnExactMaxDegreeBoundSpec)

/-- ITS FALSE NEIGHBOUR: 'it returns false'. Refute it at one input. -/
def fnExactMaxDegreeBoundWrong : ChangeSpec := { name := "fnExactMaxDegreeBound", fn := fun _ => fun
  | [d1, d2] => { results := [.lit (.bool false)], args := [d1, d2] }
  | _ => none }
def FnExactMaxDegreeBoundWrongFalsely : Prop := fnExactMaxDegreeBoundRow.holds Try.pinned (OpenSpec.ofChange fnExactMaxDegreeBoundWrong)

/-- 'laws.FnExactNormPower': WHATEVER THE INPUT: true; the input reads as it did. -/
def fnExactNormPowerSpec : ChangeSpec := { name := "fnExactNormPower", fn := fun _ => fun
  | [d1, d2] => { results := [.lit (.bool true)], args := [d1, d2] }
  | _ => none }
def fnExactNormPowerRow : OpenClaim := { program := "ytnemkajkidgfjaa", sum := "2a15c1fd4c767ccab6d2e8aaff4d06e5683b93d4ceda9c0a90393df57d449b83", func := "loop.example/g01921/laws.FnExactNormPower", spec := "fnExactNormPower", apart := false }
def FnExactNormPowerSaid : Prop := fnExactNormPowerRow.holds Try.pinned (OpenSpec.ofChange fnExactNormPowerSpec)

/-- ITS FALSE NEIGHBOUR: 'it returns false'. Refute it at one input. -/
def fnExactNormPowerWrong : ChangeSpec := { name := "fnExactNormPower", fn := fun _ => fun
  | [d1, d2] => { results := [.lit (.bool false)], args := [d1, d2] }
  | _ => none }
def FnExactNormPowerWrongFalsely : Prop := fnExactNormPowerRow.holds Try.pinned (OpenSpec.ofChange fnExactNormPowerWrong)

/-- 'laws.FnExactDominatesSequence': WHATEVER THE INPUT: true; the input reads as it did. -/
def fnExactDominatesSequenceSpec : ChangeSpec := { name := "fnExactDominatesSequence", fn := fun _ => fun
  | [d1, d2] => { results := [.lit (.bool true)], args := [d1, d2] }
  | _ => none }
def fnExactDominatesSequenceRow : OpenClaim := { program := "ytnemkajkidgfjaa", sum := "2a15c1fd4c767ccab6d2e8aaff4d06e5683b93d4ceda9c0a90393df57d449b83", func := "loop.example/g01921/laws.FnExactDominatesSequence", spec := "fnExactDominatesSequence", apart := false }
def FnExactDominatesSequenceSaid : Prop := fnExactDominatesSequenceRow.holds Try.pinned (OpenSpec.ofChange fnExactDominatesSequenceSpec)

/-- ITS FALSE NEIGHBOUR: 'it returns false'. Refute it at one input. -/
def fnExactDominatesSequenceWrong : ChangeSpec := { name := "fnExactDominatesSequence", fn := fun _ => fun
  | [d1, d2] => { results := [.lit (.bool false)], args := [d1, d2] }
  | _ => none }
def FnExactDominatesSequenceWrongFalsely : Prop := fnExactDominatesSequenceRow.holds Try.pinned (OpenSpec.ofChange fnExactDominatesSequenceWrong)

/-- 'laws.FnExactColumnSubsets': WHATEVER THE INPUT: true; the input reads as it did. -/
def fnExactColumnSubsetsSpec : ChangeSpec := { name := "fnExactColumnSubsets", fn := fun _ => fun
  | [d] => { results := [.lit (.bool true)], args := [d] }
  | _ => none }
def fnExactColumnSubsetsRow : OpenClaim := { program := "ytnemkajkidgfjaa", sum := "2a15c1fd4c767ccab6d2e8aaff4d06e5683b93d4ceda9c0a90393df57d449b83", func := "loop.example/g01921/laws.FnExactColumnSubsets", spec := "fnExactColumnSubsets", apart := false }
def FnExactColumnSubsetsSaid : Prop := fnExactColumnSubsetsRow.holds Try.pinned (OpenSpec.ofChange fnExactColumnSubsetsSpec)

/-- ITS FALSE NEIGHBOUR: 'it returns false'. Refute it at one input. -/
def fnExactColumnSubsetsWrong : ChangeSpec := { name := "fnExactColumnSubsets", fn := fun _ => fun
  | [d] => { results := [.lit (.bool false)], args := [d] }
  | _ => none }
def FnExactColumnSubsetsWrongFalsely : Prop := fnExactColumnSubsetsRow.holds Try.pinned (OpenSpec.ofChange fnExactColumnSubsetsWrong)

/-- 'laws.FnExactAtomColumns': WHATEVER THE INPUT: true; the input reads as it did. -/
def fnExactAtomColumnsSpec : ChangeSpec := { name := "fnExactAtomColumns", fn := fun _ => fun
  | [d1, d2] => { results := [.lit (.bool true)], args := [d1, d2] }
  | _ => none }
def fnExactAtomColumnsRow : OpenClaim := { program := "ytnemkajkidgfjaa", sum := "2a15c1fd4c767ccab6d2e8aaff4d06e5683b93d4ceda9c0a90393df57d449b83", func := "loop.example/g01921/laws.FnExactAtomColumns", spec := "fnExactAtomColumns", apart := false }
def FnExactAtomColumnsSaid : Prop := fnExactAtomColumnsRow.holds Try.pinned (OpenSpec.ofChange fnExactAtomColumnsSpec)

/-- ITS FALSE NEIGHBOUR: 'it returns false'. Refute it at one input. -/
def fnExactAtomColumnsWrong : ChangeSpec := { name := "fnExactAtomColumns", fn := fun _ => fun
  | [d1, d2] => { results := [.lit (.bool false)], args := [d1, d2] }
  | _ => none }
def FnExactAtomColumnsWrongFalsely : Prop := fnExactAtomColumnsRow.holds Try.pinned (OpenSpec.ofChange fnExactAtomColumnsWrong)

/- THE SECOND FORM. 'bulk': how many values and letters a reading holds, each counted each time it is reached (what is shared counts as often as it is met; a slice's spare places count too). A statement '..UptoSaid' is the law's where the arguments, and the package variables that the reading takes, are together of bulk at most 1048576: NARROWER than '..Said'. Prove '..Said' where nothing that the law and all that it calls make is longer than what came in: it says more and counts as full. Else prove '..UptoSaid'. A law counts once. -/
mutual
def uptoBulk {H : Type} : DataW H → Nat
  | .lit (.string bytes) => bytes.length + 1
  | .lit _ => 1
  | .nil => 1
  | .ptr d => uptoBulk d + 1
  | .slice elems spare => uptoBulkAll elems + uptoBulkAll spare + 1
  | .agg parts => uptoBulkAll parts + 1
  | .iface _ d => uptoBulk d + 1
  | .map entries => uptoBulkEntries entries + 1
  | .held _ => 1
def uptoBulkAll {H : Type} : List (DataW H) → Nat
  | [] => 0
  | d :: r => uptoBulk d + uptoBulkAll r
def uptoBulkEntries {H : Type} : List (Lit × DataW H) → Nat
  | [] => 0
  | x :: r => uptoBulkEntry x + uptoBulkEntries r
def uptoBulkEntry {H : Type} : Lit × DataW H → Nat
  | (.string bytes, d) => bytes.length + uptoBulk d + 1
  | (_, d) => uptoBulk d + 1
 end
def uptoSmall : (H : Type) → List (DataW H) → Bool := fun _ ds => decide (uptoBulkAll ds ≤ 1048576)
def OpenSpec.upto (s : _root_.Go.ChangeSpec) : _root_.Go.OpenSpec := { _root_.Go.OpenSpec.ofChange s with cond := some uptoSmall }

/-- 'laws.FnExactIntegerRoot', WHERE WHAT IT READS IS OF BULK AT MOST 1048576: true; the input reads as it did. -/
def fnExactIntegerRootUptoRow : OpenClaim := { program := "ytnemkajkidgfjaa", sum := "2a15c1fd4c767ccab6d2e8aaff4d06e5683b93d4ceda9c0a90393df57d449b83", func := "loop.example/g01921/laws.FnExactIntegerRoot", spec := "fnExactIntegerRoot", apart := false, narrowed := true }
def FnExactIntegerRootUptoSaid : Prop := fnExactIntegerRootUptoRow.holds Try.pinned (OpenSpec.upto fnExactIntegerRootSpec)

/-- 'laws.FnExactIsDegreeSequence', WHERE WHAT IT READS IS OF BULK AT MOST 1048576: true; the input reads as it did. -/
def fnExactIsDegreeSequenceUptoRow : OpenClaim := { program := "ytnemkajkidgfjaa", sum := "2a15c1fd4c767ccab6d2e8aaff4d06e5683b93d4ceda9c0a90393df57d449b83", func := "loop.example/g01921/laws.FnExactIsDegreeSequence", spec := "fnExactIsDegreeSequence", apart := false, narrowed := true }
def FnExactIsDegreeSequenceUptoSaid : Prop := fnExactIsDegreeSequenceUptoRow.holds Try.pinned (OpenSpec.upto fnExactIsDegreeSequenceSpec)

/-- 'laws.FnExactMaskAtoms', WHERE WHAT IT READS IS OF BULK AT MOST 1048576: true; the input reads as it did. -/
def fnExactMaskAtomsUptoRow : OpenClaim := { program := "ytnemkajkidgfjaa", sum := "2a15c1fd4c767ccab6d2e8aaff4d06e5683b93d4ceda9c0a90393df57d449b83", func := "loop.example/g01921/laws.FnExactMaskAtoms", spec := "fnExactMaskAtoms", apart := false, narrowed := true }
def FnExactMaskAtomsUptoSaid : Prop := fnExactMaskAtomsUptoRow.holds Try.pinned (OpenSpec.upto fnExactMaskAtomsSpec)

/-- 'laws.FnExactSequenceFromNorms', WHERE WHAT IT READS IS OF BULK AT MOST 1048576: true; the input reads as it did. -/
def fnExactSequenceFromNormsUptoRow : OpenClaim := { program := "ytnemkajkidgfjaa", sum := "2a15c1fd4c767ccab6d2e8aaff4d06e5683b93d4ceda9c0a90393df57d449b83", func := "loop.example/g01921/laws.FnExactSequenceFromNorms", spec := "fnExactSequenceFromNorms", apart := false, narrowed := true }
def FnExactSequenceFromNormsUptoSaid : Prop := fnExactSequenceFromNormsUptoRow.holds Try.pinned (OpenSpec.upto fnExactSequenceFromNormsSpec)

/-- 'laws.FnExactPairSequenceBound', WHERE WHAT IT READS IS OF BULK AT MOST 1048576: true; the input reads as it did. -/
def fnExactPairSequenceBoundUptoRow : OpenClaim := { program := "ytnemkajkidgfjaa", sum := "2a15c1fd4c767ccab6d2e8aaff4d06e5683b93d4ceda9c0a90393df57d449b83", func := "loop.example/g01921/laws.FnExactPairSequenceBound", spec := "fnExactPairSequenceBound", apart := false, narrowed := true }
def FnExactPairSequenceBoundUptoSaid : Prop := fnExactPairSequenceBoundUptoRow.holds Try.pinned (OpenSpec.upto fnExactPairSequenceBoundSpec)

/-- 'laws.FnExactSequenceTotal', WHERE WHAT IT READS IS OF BULK AT MOST 1048576: true; the input reads as it did. -/
def fnExactSequenceTotalUptoRow : OpenClaim := { program := "ytnemkajkidgfjaa", sum := "2a15c1fd4c767ccab6d2e8aaff4d06e5683b93d4ceda9c0a90393df57d449b83", func := "loop.example/g01921/laws.FnExactSequenceTotal", spec := "fnExactSequenceTotal", apart := false, narrowed := true }
def FnExactSequenceTotalUptoSaid : Prop := fnExactSequenceTotalUptoRow.holds Try.pinned (OpenSpec.upto fnExactSequenceTotalSpec)

/-- 'laws.FnExactTopDegrees', WHERE WHAT IT READS IS OF BULK AT MOST 1048576: true; the input reads as it did. -/
def fnExactTopDegreesUptoRow : OpenClaim := { program := "ytnemkajkidgfjaa", sum := "2a15c1fd4c767ccab6d2e8aaff4d06e5683b93d4ceda9c0a90393df57d449b83", func := "loop.example/g01921/laws.FnExactTopDegrees", spec := "fnExactTopDegrees", apart := false, narrowed := true }
def FnExactTopDegreesUptoSaid : Prop := fnExactTopDegreesUptoRow.holds Try.pinned (OpenSpec.upto fnExactTopDegreesSpec)

/-- 'laws.FnExactMaxDegreeBound', WHERE WHAT IT READS IS OF BULK AT MOST 1048576: true; the input reads as it did. -/
def fnExactMaxDegreeBoundUptoRow : OpenClaim := { program := "ytnemkajkidgfjaa", sum := "2a15c1fd4c767ccab6d2e8aaff4d06e5683b93d4ceda9c0a90393df57d449b83", func := "loop.example/g01921/laws.FnExactMaxDegreeBound", spec := "fnExactMaxDegreeBound", apart := false, narrowed := true }
def FnExactMaxDegreeBoundUptoSaid : Prop := fnExactMaxDegreeBoundUptoRow.holds Try.pinned (OpenSpec.upto fnExactMaxDegreeBoundSpec)

/-- 'laws.FnExactNormPower', WHERE WHAT IT READS IS OF BULK AT MOST 1048576: true; the input reads as it did. -/
def fnExactNormPowerUptoRow : OpenClaim := { program := "ytnemkajkidgfjaa", sum := "2a15c1fd4c767ccab6d2e8aaff4d06e5683b93d4ceda9c0a90393df57d449b83", func := "loop.example/g01921/laws.FnExactNormPower", spec := "fnExactNormPower", apart := false, narrowed := true }
def FnExactNormPowerUptoSaid : Prop := fnExactNormPowerUptoRow.holds Try.pinned (OpenSpec.upto fnExactNormPowerSpec)

/-- 'laws.FnExactDominatesSequence', WHERE WHAT IT READS IS OF BULK AT MOST 1048576: true; the input reads as it did. -/
def fnExactDominatesSequenceUptoRow : OpenClaim := { program := "ytnemkajkidgfjaa", sum := "2a15c1fd4c767ccab6d2e8aaff4d06e5683b93d4ceda9c0a90393df57d449b83", func := "loop.example/g01921/laws.FnExactDominatesSequence", spec := "fnExactDominatesSequence", apart := false, narrowed := true }
def FnExactDominatesSequenceUptoSaid : Prop := fnExactDominatesSequenceUptoRow.holds Try.pinned (OpenSpec.upto fnExactDominatesSequenceSpec)

/-- 'laws.FnExactColumnSubsets', WHERE WHAT IT READS IS OF BULK AT MOST 1048576: true; the input reads as it did. -/
def fnExactColumnSubsetsUptoRow : OpenClaim := { program := "ytnemkajkidgfjaa", sum := "2a15c1fd4c767ccab6d2e8aaff4d06e5683b93d4ceda9c0a90393df57d449b83", func := "loop.example/g01921/laws.FnExactColumnSubsets", spec := "fnExactColumnSubsets", apart := false, narrowed := true }
def FnExactColumnSubsetsUptoSaid : Prop := fnExactColumnSubsetsUptoRow.holds Try.pinned (OpenSpec.upto fnExactColumnSubsetsSpec)

/-- 'laws.FnExactAtomColumns', WHERE WHAT IT READS IS OF BULK AT MOST 1048576: true; the input reads as it did. -/
def fnExactAtomColumnsUptoRow : OpenClaim := { program := "ytnemkajkidgfjaa", sum := "2a15c1fd4c767ccab6d2e8aaff4d06e5683b93d4ceda9c0a90393df57d449b83", func := "loop.example/g01921/laws.FnExactAtomColumns", spec := "fnExactAtomColumns", apart := false, narrowed := true }
def FnExactAtomColumnsUptoSaid : Prop := fnExactAtomColumnsUptoRow.holds Try.pinned (OpenSpec.upto fnExactAtomColumnsSpec)

end Rows
end Go.Proofs.Ytnemkajkidgfjaa
