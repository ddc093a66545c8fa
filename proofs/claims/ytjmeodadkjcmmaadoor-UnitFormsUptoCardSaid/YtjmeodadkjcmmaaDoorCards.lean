/-
  DERIVED. GIVEN WITH THE SEED: THE CARDS: each row of YtjmeodadkjcmmaaDoorRows.lean that lists a variable, with what it lists TIED to the program's text (the seventh form; the later family's looks); each row that meets fmt, with fmt's text TOLD by the authors' own Lean function (tested against real Go, not proved from fmt's source: count such statements apart). THE CARD IS WHAT COUNTS. Prove the row's statement (the work); the ties are given (YtjmeodadkjcmmaaDoorTie.lean); close each card by the builder's one call (the guide's Derived/Test/ToyasCard.lean, 'card_holds'). Laid BY PROGRAM, IN A SANDBOX (cutbox-door.mjs). By AI agents, Wed Nov 11 2026. No macro, syntax, notation, axiom, sorry.
-/
import Derived.Test.YtjmeodadkjcmmaaDoorRows
import GoSem.ClaimSeven
namespace Go.Proofs.YtjmeodadkjcmmaaDoor
namespace Rows

/-- THE TIED CARD OF 'grafterylaw.UnitForms'. -/
def unitFormsCard : Claim7 := { stood := { row := unitFormsRow, standIns := [], harness := (true, "51fa8e4324361fae7708b6bf7748b5b69a459f0931349fea056ffde4ab5c5ead"), looks := false }, kinds := [], alts := [], laidByText := true, laidKinds := [.mapped, .mapped], laidTests := true, laidLooks := .later }
def UnitFormsCardSaid : Prop := Claim7.holds Tryd.pinned (.plain (OpenSpec.ofChange unitFormsSpec)) unitFormsCard

/-- THE SECOND FORM's CARD OF 'grafterylaw.UnitForms'. -/
def unitFormsUptoCard : Claim7 := { stood := { row := unitFormsUptoRow, standIns := [], harness := (true, "51fa8e4324361fae7708b6bf7748b5b69a459f0931349fea056ffde4ab5c5ead"), looks := false }, kinds := [], alts := [], laidByText := true, laidKinds := [.mapped, .mapped], laidTests := true, laidLooks := .later }
def UnitFormsUptoCardSaid : Prop := Claim7.holds Tryd.pinned (.plain (OpenSpec.upto unitFormsSpec)) unitFormsUptoCard
end Rows
end Go.Proofs.YtjmeodadkjcmmaaDoor
