/-
  DERIVED. GIVEN WITH THE SEED: THE CARDS: each row of YtehcjdbljdpmbaaDoorRows.lean that lists a variable, with what it lists TIED to the program's text (the seventh form; the later family's looks); each row that meets fmt, with fmt's text TOLD by the authors' own Lean function (tested against real Go, not proved from fmt's source: count such statements apart). THE CARD IS WHAT COUNTS. Prove the row's statement (the work); the ties are given (YtehcjdbljdpmbaaDoorTie.lean); close each card by the builder's one call (the guide's Derived/Test/ToyasCard.lean, 'card_holds'). Laid BY PROGRAM, IN A SANDBOX (cutbox-door.mjs). By AI agents, Wed Nov 11 2026. No macro, syntax, notation, axiom, sorry.
-/
import Derived.Test.YtehcjdbljdpmbaaDoorRows
import GoSem.ClaimSeven
namespace Go.Proofs.YtehcjdbljdpmbaaDoor
namespace Rows

/-- THE TIED CARD OF 'laws.FnExactParseQuery'. -/
def fnExactParseQueryCard : Claim7 := { stood := { row := fnExactParseQueryRow, standIns := [], harness := (true, "525f8a495668732ce083d6b2761b7c346dcfcf30175f3489d129e99acde30cfa"), looks := false }, kinds := [], alts := [], laidByText := true, laidKinds := [.data, .pinned], laidTests := true, laidLooks := .later }
def FnExactParseQueryCardSaid : Prop := Claim7.holds Tryd.pinned (.plain (OpenSpec.ofChange fnExactParseQuerySpec)) fnExactParseQueryCard

/-- THE TIED CARD OF 'laws.FnQueries'. -/
def fnQueriesCard : Claim7 := { stood := { row := fnQueriesRow, standIns := [], harness := (true, "525f8a495668732ce083d6b2761b7c346dcfcf30175f3489d129e99acde30cfa"), looks := false }, kinds := [], alts := [], laidByText := true, laidKinds := [.data, .pinned], laidTests := true, laidLooks := .later }
def FnQueriesCardSaid : Prop := Claim7.holds Tryd.pinned (.plain (OpenSpec.ofChange fnQueriesSpec)) fnQueriesCard

/-- THE TIED CARD OF 'laws.FnInclusions'. -/
def fnInclusionsCard : Claim7 := { stood := { row := fnInclusionsRow, standIns := [], harness := (true, "525f8a495668732ce083d6b2761b7c346dcfcf30175f3489d129e99acde30cfa"), looks := false }, kinds := [], alts := [], laidByText := true, laidKinds := [.data, .data, .data], laidTests := true, laidLooks := .later }
def FnInclusionsCardSaid : Prop := Claim7.holds Tryd.pinned (.plain (OpenSpec.ofChange fnInclusionsSpec)) fnInclusionsCard

/-- THE SECOND FORM's CARD OF 'laws.FnExactParseQuery'. -/
def fnExactParseQueryUptoCard : Claim7 := { stood := { row := fnExactParseQueryUptoRow, standIns := [], harness := (true, "525f8a495668732ce083d6b2761b7c346dcfcf30175f3489d129e99acde30cfa"), looks := false }, kinds := [], alts := [], laidByText := true, laidKinds := [.data, .pinned], laidTests := true, laidLooks := .later }
def FnExactParseQueryUptoCardSaid : Prop := Claim7.holds Tryd.pinned (.plain (OpenSpec.upto fnExactParseQuerySpec)) fnExactParseQueryUptoCard

/-- THE SECOND FORM's CARD OF 'laws.FnQueries'. -/
def fnQueriesUptoCard : Claim7 := { stood := { row := fnQueriesUptoRow, standIns := [], harness := (true, "525f8a495668732ce083d6b2761b7c346dcfcf30175f3489d129e99acde30cfa"), looks := false }, kinds := [], alts := [], laidByText := true, laidKinds := [.data, .pinned], laidTests := true, laidLooks := .later }
def FnQueriesUptoCardSaid : Prop := Claim7.holds Tryd.pinned (.plain (OpenSpec.upto fnQueriesSpec)) fnQueriesUptoCard

/-- THE SECOND FORM's CARD OF 'laws.FnInclusions'. -/
def fnInclusionsUptoCard : Claim7 := { stood := { row := fnInclusionsUptoRow, standIns := [], harness := (true, "525f8a495668732ce083d6b2761b7c346dcfcf30175f3489d129e99acde30cfa"), looks := false }, kinds := [], alts := [], laidByText := true, laidKinds := [.data, .data, .data], laidTests := true, laidLooks := .later }
def FnInclusionsUptoCardSaid : Prop := Claim7.holds Tryd.pinned (.plain (OpenSpec.upto fnInclusionsSpec)) fnInclusionsUptoCard
end Rows
end Go.Proofs.YtehcjdbljdpmbaaDoor
