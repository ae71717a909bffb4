/-
  DERIVED. GIVEN WITH THE SEED: THE CARDS: each row of YtpgfkjcekhifiaaGreatDoorRows.lean that lists a variable, with what it lists TIED to the program's text (the seventh form; the later family's looks); each row that meets fmt, with fmt's text TOLD by the authors' own Lean function (tested against real Go, not proved from fmt's source: count such statements apart). THE CARD IS WHAT COUNTS. Prove the row's statement (the work); the ties are given (YtpgfkjcekhifiaaGreatDoorTie.lean); close each card by the builder's one call (the guide's Derived/Test/ToyasCard.lean, 'card_holds'). Laid BY PROGRAM, IN A SANDBOX (cutbox-door.mjs). By AI agents, Wed Nov 11 2026. No macro, syntax, notation, axiom, sorry.
-/
import Derived.Test.YtpgfkjcekhifiaaGreatDoorRows
import GoSem.ClaimSeven
namespace Go.Proofs.YtpgfkjcekhifiaaGreatDoor
namespace Rows

/-- THE TIED CARD OF 'laws.FnDependencies'. -/
def fnDependenciesCard : Claim7 := { stood := { row := fnDependenciesRow, standIns := [], harness := (true, "f9159626dcd255cd6faa9218a0395bdf2f8df2ae76f31700c7e1956ddc74963e"), looks := false }, kinds := [], alts := [], laidByText := true, laidKinds := [.data, .data, .data], laidTests := true, laidLooks := .later }
def FnDependenciesCardSaid : Prop := Claim7.holds Tryz.pinned (.plain (OpenSpec.ofChange fnDependenciesSpec)) fnDependenciesCard

/-- THE SECOND FORM's CARD OF 'laws.FnDependencies'. -/
def fnDependenciesUptoCard : Claim7 := { stood := { row := fnDependenciesUptoRow, standIns := [], harness := (true, "f9159626dcd255cd6faa9218a0395bdf2f8df2ae76f31700c7e1956ddc74963e"), looks := false }, kinds := [], alts := [], laidByText := true, laidKinds := [.data, .data, .data], laidTests := true, laidLooks := .later }
def FnDependenciesUptoCardSaid : Prop := Claim7.holds Tryz.pinned (.plain (OpenSpec.upto fnDependenciesSpec)) fnDependenciesUptoCard
end Rows
end Go.Proofs.YtpgfkjcekhifiaaGreatDoor
