/-
  DERIVED. GIVEN WITH THE SEED: THE CARDS: each row of YtlgnaopaeapbfaaDoorRows.lean that lists a variable, with what it lists TIED to the program's text (the seventh form; the later family's looks); each row that meets fmt, with fmt's text TOLD by the authors' own Lean function (tested against real Go, not proved from fmt's source: count such statements apart). THE CARD IS WHAT COUNTS. Prove the row's statement (the work); the ties are given (YtlgnaopaeapbfaaDoorTie.lean); close each card by the builder's one call (the guide's Derived/Test/ToyasCard.lean, 'card_holds'). Laid BY PROGRAM, IN A SANDBOX (cutbox-door.mjs). By AI agents, Wed Nov 11 2026. No macro, syntax, notation, axiom, sorry.
-/
import Derived.Test.YtlgnaopaeapbfaaDoorRows
import GoSem.ClaimSeven
namespace Go.Proofs.YtlgnaopaeapbfaaDoor
namespace Rows

/-- THE TIED CARD OF 'grafterylaw.UnitShapes'. -/
def unitShapesCard : Claim7 := { stood := { row := unitShapesRow, standIns := [], harness := (true, "51e5b4d7c44f698bd836d1184aafc9734b8d40c00580760054f875dd377c44d4"), looks := false }, kinds := [], alts := [], laidByText := true, laidKinds := [.mapped, .mapped], laidTests := true, laidLooks := .later }
def UnitShapesCardSaid : Prop := Claim7.holds Tryd.pinned (.plain (OpenSpec.ofChange unitShapesSpec)) unitShapesCard

/-- THE TIED CARD OF 'grafterylaw.UnitChecks'. -/
def unitChecksCard : Claim7 := { stood := { row := unitChecksRow, standIns := [], harness := (true, "51e5b4d7c44f698bd836d1184aafc9734b8d40c00580760054f875dd377c44d4"), looks := false }, kinds := [], alts := [], laidByText := true, laidKinds := [.mapped, .mapped], laidTests := true, laidLooks := .later }
def UnitChecksCardSaid : Prop := Claim7.holds Tryd.pinned (.plain (OpenSpec.ofChange unitChecksSpec)) unitChecksCard

/-- THE TIED CARD OF 'grafterylaw.CodeChecks'. -/
def codeChecksCard : Claim7 := { stood := { row := codeChecksRow, standIns := [], harness := (true, "51e5b4d7c44f698bd836d1184aafc9734b8d40c00580760054f875dd377c44d4"), looks := false }, kinds := [], alts := [], laidByText := true, laidKinds := [.mapped, .mapped, .mapped], laidTests := true, laidLooks := .later }
def CodeChecksCardSaid : Prop := Claim7.holds Tryd.pinned (.plain (OpenSpec.ofChange codeChecksSpec)) codeChecksCard

/-- THE TIED CARD OF 'grafterylaw.CodeMoveChecks'. -/
def codeMoveChecksCard : Claim7 := { stood := { row := codeMoveChecksRow, standIns := [], harness := (true, "51e5b4d7c44f698bd836d1184aafc9734b8d40c00580760054f875dd377c44d4"), looks := false }, kinds := [], alts := [], laidByText := true, laidKinds := [.mapped, .mapped, .mapped], laidTests := true, laidLooks := .later }
def CodeMoveChecksCardSaid : Prop := Claim7.holds Tryd.pinned (.plain (OpenSpec.ofChange codeMoveChecksSpec)) codeMoveChecksCard

/-- THE SECOND FORM's CARD OF 'grafterylaw.UnitShapes'. -/
def unitShapesUptoCard : Claim7 := { stood := { row := unitShapesUptoRow, standIns := [], harness := (true, "51e5b4d7c44f698bd836d1184aafc9734b8d40c00580760054f875dd377c44d4"), looks := false }, kinds := [], alts := [], laidByText := true, laidKinds := [.mapped, .mapped], laidTests := true, laidLooks := .later }
def UnitShapesUptoCardSaid : Prop := Claim7.holds Tryd.pinned (.plain (OpenSpec.upto unitShapesSpec)) unitShapesUptoCard

/-- THE SECOND FORM's CARD OF 'grafterylaw.UnitChecks'. -/
def unitChecksUptoCard : Claim7 := { stood := { row := unitChecksUptoRow, standIns := [], harness := (true, "51e5b4d7c44f698bd836d1184aafc9734b8d40c00580760054f875dd377c44d4"), looks := false }, kinds := [], alts := [], laidByText := true, laidKinds := [.mapped, .mapped], laidTests := true, laidLooks := .later }
def UnitChecksUptoCardSaid : Prop := Claim7.holds Tryd.pinned (.plain (OpenSpec.upto unitChecksSpec)) unitChecksUptoCard

/-- THE SECOND FORM's CARD OF 'grafterylaw.CodeChecks'. -/
def codeChecksUptoCard : Claim7 := { stood := { row := codeChecksUptoRow, standIns := [], harness := (true, "51e5b4d7c44f698bd836d1184aafc9734b8d40c00580760054f875dd377c44d4"), looks := false }, kinds := [], alts := [], laidByText := true, laidKinds := [.mapped, .mapped, .mapped], laidTests := true, laidLooks := .later }
def CodeChecksUptoCardSaid : Prop := Claim7.holds Tryd.pinned (.plain (OpenSpec.upto codeChecksSpec)) codeChecksUptoCard

/-- THE SECOND FORM's CARD OF 'grafterylaw.CodeMoveChecks'. -/
def codeMoveChecksUptoCard : Claim7 := { stood := { row := codeMoveChecksUptoRow, standIns := [], harness := (true, "51e5b4d7c44f698bd836d1184aafc9734b8d40c00580760054f875dd377c44d4"), looks := false }, kinds := [], alts := [], laidByText := true, laidKinds := [.mapped, .mapped, .mapped], laidTests := true, laidLooks := .later }
def CodeMoveChecksUptoCardSaid : Prop := Claim7.holds Tryd.pinned (.plain (OpenSpec.upto codeMoveChecksSpec)) codeMoveChecksUptoCard
end Rows
end Go.Proofs.YtlgnaopaeapbfaaDoor
