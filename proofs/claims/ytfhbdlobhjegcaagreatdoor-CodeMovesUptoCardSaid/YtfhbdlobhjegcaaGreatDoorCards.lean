/-
  DERIVED. GIVEN WITH THE SEED: THE CARDS: each row of YtfhbdlobhjegcaaGreatDoorRows.lean that lists a variable, with what it lists TIED to the program's text (the seventh form; the later family's looks); each row that meets fmt, with fmt's text TOLD by the authors' own Lean function (tested against real Go, not proved from fmt's source: count such statements apart). THE CARD IS WHAT COUNTS. Prove the row's statement (the work); the ties are given (YtfhbdlobhjegcaaGreatDoorTie.lean); close each card by the builder's one call (the guide's Derived/Test/ToyasCard.lean, 'card_holds'). Laid BY PROGRAM, IN A SANDBOX (cutbox-door.mjs). By AI agents, Wed Nov 11 2026. No macro, syntax, notation, axiom, sorry.
-/
import Derived.Test.YtfhbdlobhjegcaaGreatDoorRows
import GoSem.ClaimSeven
namespace Go.Proofs.YtfhbdlobhjegcaaGreatDoor
namespace Rows

/-- THE TIED CARD OF 'grafterylaw.CodeMoves'. -/
def codeMovesCard : Claim7 := { stood := { row := codeMovesRow, standIns := [], harness := (true, "c1e7d66f45b902c875146c1198de200ebf1dc91e880428538582a7820e207141"), looks := false }, kinds := [], alts := [], laidByText := true, laidKinds := [.mapped, .mapped, .mapped], laidTests := true, laidLooks := .later }
def CodeMovesCardSaid : Prop := Claim7.holds Tryz.pinned (.plain (OpenSpec.ofChange codeMovesSpec)) codeMovesCard

/-- THE SECOND FORM's CARD OF 'grafterylaw.CodeMoves'. -/
def codeMovesUptoCard : Claim7 := { stood := { row := codeMovesUptoRow, standIns := [], harness := (true, "c1e7d66f45b902c875146c1198de200ebf1dc91e880428538582a7820e207141"), looks := false }, kinds := [], alts := [], laidByText := true, laidKinds := [.mapped, .mapped, .mapped], laidTests := true, laidLooks := .later }
def CodeMovesUptoCardSaid : Prop := Claim7.holds Tryz.pinned (.plain (OpenSpec.upto codeMovesSpec)) codeMovesUptoCard
end Rows
end Go.Proofs.YtfhbdlobhjegcaaGreatDoor
