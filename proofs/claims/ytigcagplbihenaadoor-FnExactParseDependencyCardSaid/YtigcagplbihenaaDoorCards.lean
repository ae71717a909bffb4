/-
  DERIVED. GIVEN WITH THE SEED: THE CARDS: each row of YtigcagplbihenaaDoorRows.lean that lists a variable, with what it lists TIED to the program's text (the seventh form; the later family's looks); each row that meets fmt, with fmt's text TOLD by the authors' own Lean function (tested against real Go, not proved from fmt's source: count such statements apart). THE CARD IS WHAT COUNTS. Prove the row's statement (the work); the ties are given (YtigcagplbihenaaDoorTie.lean); close each card by the builder's one call (the guide's Derived/Test/ToyasCard.lean, 'card_holds'). Laid BY PROGRAM, IN A SANDBOX (cutbox-door.mjs). By AI agents, Wed Nov 11 2026. No macro, syntax, notation, axiom, sorry.
-/
import Derived.Test.YtigcagplbihenaaDoorRows
import GoSem.ClaimSeven
namespace Go.Proofs.YtigcagplbihenaaDoor
namespace Rows

/-- THE TIED CARD OF 'laws.FnExactFormatInclusion'. -/
def fnExactFormatInclusionCard : Claim7 := { stood := { row := fnExactFormatInclusionRow, standIns := [], harness := (true, "425c0fc50249f322cb25597a287d1f9f7dbeaee70d8aa83000e4149558df89ea"), looks := false }, kinds := [], alts := [], laidByText := true, laidKinds := [.data, .data, .data], laidTests := true, laidLooks := .later }
def FnExactFormatInclusionCardSaid : Prop := Claim7.holds Tryd.pinned (.plain (OpenSpec.ofChange fnExactFormatInclusionSpec)) fnExactFormatInclusionCard

/-- THE TIED CARD OF 'laws.FnExactParseInclusion'. -/
def fnExactParseInclusionCard : Claim7 := { stood := { row := fnExactParseInclusionRow, standIns := [], harness := (true, "425c0fc50249f322cb25597a287d1f9f7dbeaee70d8aa83000e4149558df89ea"), looks := false }, kinds := [], alts := [], laidByText := true, laidKinds := [.data, .data, .data], laidTests := true, laidLooks := .later }
def FnExactParseInclusionCardSaid : Prop := Claim7.holds Tryd.pinned (.plain (OpenSpec.ofChange fnExactParseInclusionSpec)) fnExactParseInclusionCard

/-- THE TIED CARD OF 'laws.FnExactFormatDependency'. -/
def fnExactFormatDependencyCard : Claim7 := { stood := { row := fnExactFormatDependencyRow, standIns := [], harness := (true, "425c0fc50249f322cb25597a287d1f9f7dbeaee70d8aa83000e4149558df89ea"), looks := false }, kinds := [], alts := [], laidByText := true, laidKinds := [.data, .data, .data], laidTests := true, laidLooks := .later }
def FnExactFormatDependencyCardSaid : Prop := Claim7.holds Tryd.pinned (.plain (OpenSpec.ofChange fnExactFormatDependencySpec)) fnExactFormatDependencyCard

/-- THE TIED CARD OF 'laws.FnExactParseDependency'. -/
def fnExactParseDependencyCard : Claim7 := { stood := { row := fnExactParseDependencyRow, standIns := [], harness := (true, "425c0fc50249f322cb25597a287d1f9f7dbeaee70d8aa83000e4149558df89ea"), looks := false }, kinds := [], alts := [], laidByText := true, laidKinds := [.data, .data, .data], laidTests := true, laidLooks := .later }
def FnExactParseDependencyCardSaid : Prop := Claim7.holds Tryd.pinned (.plain (OpenSpec.ofChange fnExactParseDependencySpec)) fnExactParseDependencyCard

/-- THE TIED CARD OF 'laws.FnExactParseQuery'. -/
def fnExactParseQueryCard : Claim7 := { stood := { row := fnExactParseQueryRow, standIns := [], harness := (true, "425c0fc50249f322cb25597a287d1f9f7dbeaee70d8aa83000e4149558df89ea"), looks := false }, kinds := [], alts := [], laidByText := true, laidKinds := [.data, .pinned], laidTests := true, laidLooks := .later }
def FnExactParseQueryCardSaid : Prop := Claim7.holds Tryd.pinned (.plain (OpenSpec.ofChange fnExactParseQuerySpec)) fnExactParseQueryCard

/-- THE TIED CARD OF 'laws.FnQueries'. -/
def fnQueriesCard : Claim7 := { stood := { row := fnQueriesRow, standIns := [], harness := (true, "425c0fc50249f322cb25597a287d1f9f7dbeaee70d8aa83000e4149558df89ea"), looks := false }, kinds := [], alts := [], laidByText := true, laidKinds := [.data, .pinned], laidTests := true, laidLooks := .later }
def FnQueriesCardSaid : Prop := Claim7.holds Tryd.pinned (.plain (OpenSpec.ofChange fnQueriesSpec)) fnQueriesCard

/-- THE TIED CARD OF 'laws.FnInclusions'. -/
def fnInclusionsCard : Claim7 := { stood := { row := fnInclusionsRow, standIns := [], harness := (true, "425c0fc50249f322cb25597a287d1f9f7dbeaee70d8aa83000e4149558df89ea"), looks := false }, kinds := [], alts := [], laidByText := true, laidKinds := [.data, .data, .data], laidTests := true, laidLooks := .later }
def FnInclusionsCardSaid : Prop := Claim7.holds Tryd.pinned (.plain (OpenSpec.ofChange fnInclusionsSpec)) fnInclusionsCard

/-- THE SECOND FORM's CARD OF 'laws.FnExactFormatInclusion'. -/
def fnExactFormatInclusionUptoCard : Claim7 := { stood := { row := fnExactFormatInclusionUptoRow, standIns := [], harness := (true, "425c0fc50249f322cb25597a287d1f9f7dbeaee70d8aa83000e4149558df89ea"), looks := false }, kinds := [], alts := [], laidByText := true, laidKinds := [.data, .data, .data], laidTests := true, laidLooks := .later }
def FnExactFormatInclusionUptoCardSaid : Prop := Claim7.holds Tryd.pinned (.plain (OpenSpec.upto fnExactFormatInclusionSpec)) fnExactFormatInclusionUptoCard

/-- THE SECOND FORM's CARD OF 'laws.FnExactParseInclusion'. -/
def fnExactParseInclusionUptoCard : Claim7 := { stood := { row := fnExactParseInclusionUptoRow, standIns := [], harness := (true, "425c0fc50249f322cb25597a287d1f9f7dbeaee70d8aa83000e4149558df89ea"), looks := false }, kinds := [], alts := [], laidByText := true, laidKinds := [.data, .data, .data], laidTests := true, laidLooks := .later }
def FnExactParseInclusionUptoCardSaid : Prop := Claim7.holds Tryd.pinned (.plain (OpenSpec.upto fnExactParseInclusionSpec)) fnExactParseInclusionUptoCard

/-- THE SECOND FORM's CARD OF 'laws.FnExactFormatDependency'. -/
def fnExactFormatDependencyUptoCard : Claim7 := { stood := { row := fnExactFormatDependencyUptoRow, standIns := [], harness := (true, "425c0fc50249f322cb25597a287d1f9f7dbeaee70d8aa83000e4149558df89ea"), looks := false }, kinds := [], alts := [], laidByText := true, laidKinds := [.data, .data, .data], laidTests := true, laidLooks := .later }
def FnExactFormatDependencyUptoCardSaid : Prop := Claim7.holds Tryd.pinned (.plain (OpenSpec.upto fnExactFormatDependencySpec)) fnExactFormatDependencyUptoCard

/-- THE SECOND FORM's CARD OF 'laws.FnExactParseDependency'. -/
def fnExactParseDependencyUptoCard : Claim7 := { stood := { row := fnExactParseDependencyUptoRow, standIns := [], harness := (true, "425c0fc50249f322cb25597a287d1f9f7dbeaee70d8aa83000e4149558df89ea"), looks := false }, kinds := [], alts := [], laidByText := true, laidKinds := [.data, .data, .data], laidTests := true, laidLooks := .later }
def FnExactParseDependencyUptoCardSaid : Prop := Claim7.holds Tryd.pinned (.plain (OpenSpec.upto fnExactParseDependencySpec)) fnExactParseDependencyUptoCard

/-- THE SECOND FORM's CARD OF 'laws.FnExactParseQuery'. -/
def fnExactParseQueryUptoCard : Claim7 := { stood := { row := fnExactParseQueryUptoRow, standIns := [], harness := (true, "425c0fc50249f322cb25597a287d1f9f7dbeaee70d8aa83000e4149558df89ea"), looks := false }, kinds := [], alts := [], laidByText := true, laidKinds := [.data, .pinned], laidTests := true, laidLooks := .later }
def FnExactParseQueryUptoCardSaid : Prop := Claim7.holds Tryd.pinned (.plain (OpenSpec.upto fnExactParseQuerySpec)) fnExactParseQueryUptoCard

/-- THE SECOND FORM's CARD OF 'laws.FnQueries'. -/
def fnQueriesUptoCard : Claim7 := { stood := { row := fnQueriesUptoRow, standIns := [], harness := (true, "425c0fc50249f322cb25597a287d1f9f7dbeaee70d8aa83000e4149558df89ea"), looks := false }, kinds := [], alts := [], laidByText := true, laidKinds := [.data, .pinned], laidTests := true, laidLooks := .later }
def FnQueriesUptoCardSaid : Prop := Claim7.holds Tryd.pinned (.plain (OpenSpec.upto fnQueriesSpec)) fnQueriesUptoCard

/-- THE SECOND FORM's CARD OF 'laws.FnInclusions'. -/
def fnInclusionsUptoCard : Claim7 := { stood := { row := fnInclusionsUptoRow, standIns := [], harness := (true, "425c0fc50249f322cb25597a287d1f9f7dbeaee70d8aa83000e4149558df89ea"), looks := false }, kinds := [], alts := [], laidByText := true, laidKinds := [.data, .data, .data], laidTests := true, laidLooks := .later }
def FnInclusionsUptoCardSaid : Prop := Claim7.holds Tryd.pinned (.plain (OpenSpec.upto fnInclusionsSpec)) fnInclusionsUptoCard
end Rows
end Go.Proofs.YtigcagplbihenaaDoor
