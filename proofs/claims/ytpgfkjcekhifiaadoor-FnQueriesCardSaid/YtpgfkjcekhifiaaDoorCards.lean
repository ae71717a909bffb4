/-
  DERIVED. GIVEN WITH THE SEED: THE CARDS: each row of YtpgfkjcekhifiaaDoorRows.lean that lists a variable, with what it lists TIED to the program's text (the seventh form; the later family's looks); each row that meets fmt, with fmt's text TOLD by the authors' own Lean function (tested against real Go, not proved from fmt's source: count such statements apart). THE CARD IS WHAT COUNTS. Prove the row's statement (the work); the ties are given (YtpgfkjcekhifiaaDoorTie.lean); close each card by the builder's one call (the guide's Derived/Test/ToyasCard.lean, 'card_holds'). Laid BY PROGRAM, IN A SANDBOX (cutbox-door.mjs). By AI agents, Wed Nov 11 2026. No macro, syntax, notation, axiom, sorry.
-/
import Derived.Test.YtpgfkjcekhifiaaDoorRows
import GoSem.ClaimSeven
namespace Go.Proofs.YtpgfkjcekhifiaaDoor
namespace Rows

/-- THE TIED CARD OF 'laws.FnExactParseQuery'. -/
def fnExactParseQueryCard : Claim7 := { stood := { row := fnExactParseQueryRow, standIns := [], harness := (true, "cb2f1dfb876ac94c4d7d522366986384d6f1c774209f9da8b359feed9b2439a8"), looks := false }, kinds := [], alts := [], laidByText := true, laidKinds := [.data, .pinned], laidTests := true, laidLooks := .later }
def FnExactParseQueryCardSaid : Prop := Claim7.holds Tryd.pinned (.plain (OpenSpec.ofChange fnExactParseQuerySpec)) fnExactParseQueryCard

/-- THE TIED CARD OF 'laws.FnQueries'. -/
def fnQueriesCard : Claim7 := { stood := { row := fnQueriesRow, standIns := [], harness := (true, "cb2f1dfb876ac94c4d7d522366986384d6f1c774209f9da8b359feed9b2439a8"), looks := false }, kinds := [], alts := [], laidByText := true, laidKinds := [.data, .pinned], laidTests := true, laidLooks := .later }
def FnQueriesCardSaid : Prop := Claim7.holds Tryd.pinned (.plain (OpenSpec.ofChange fnQueriesSpec)) fnQueriesCard

/-- THE SECOND FORM's CARD OF 'laws.FnExactParseQuery'. -/
def fnExactParseQueryUptoCard : Claim7 := { stood := { row := fnExactParseQueryUptoRow, standIns := [], harness := (true, "cb2f1dfb876ac94c4d7d522366986384d6f1c774209f9da8b359feed9b2439a8"), looks := false }, kinds := [], alts := [], laidByText := true, laidKinds := [.data, .pinned], laidTests := true, laidLooks := .later }
def FnExactParseQueryUptoCardSaid : Prop := Claim7.holds Tryd.pinned (.plain (OpenSpec.upto fnExactParseQuerySpec)) fnExactParseQueryUptoCard

/-- THE SECOND FORM's CARD OF 'laws.FnQueries'. -/
def fnQueriesUptoCard : Claim7 := { stood := { row := fnQueriesUptoRow, standIns := [], harness := (true, "cb2f1dfb876ac94c4d7d522366986384d6f1c774209f9da8b359feed9b2439a8"), looks := false }, kinds := [], alts := [], laidByText := true, laidKinds := [.data, .pinned], laidTests := true, laidLooks := .later }
def FnQueriesUptoCardSaid : Prop := Claim7.holds Tryd.pinned (.plain (OpenSpec.upto fnQueriesSpec)) fnQueriesUptoCard
end Rows
end Go.Proofs.YtpgfkjcekhifiaaDoor
