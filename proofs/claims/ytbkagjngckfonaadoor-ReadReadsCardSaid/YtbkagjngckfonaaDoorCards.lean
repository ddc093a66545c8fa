/-
  DERIVED. GIVEN WITH THE SEED: THE CARDS: each row of YtbkagjngckfonaaDoorRows.lean that lists a variable, with what it lists TIED to the program's text (the seventh form; the later family's looks); each row that meets fmt, with fmt's text TOLD by the authors' own Lean function (tested against real Go, not proved from fmt's source: count such statements apart). THE CARD IS WHAT COUNTS. Prove the row's statement (the work); the ties are given (YtbkagjngckfonaaDoorTie.lean); close each card by the builder's one call (the guide's Derived/Test/ToyasCard.lean, 'card_holds'). Laid BY PROGRAM, IN A SANDBOX (cutbox-door.mjs). By AI agents, Wed Nov 11 2026. No macro, syntax, notation, axiom, sorry.
-/
import Derived.Test.YtbkagjngckfonaaDoorRows
import GoSem.ClaimSeven
namespace Go.Proofs.YtbkagjngckfonaaDoor
namespace Rows

/-- THE TIED CARD OF 'grafterylaw.ReadShows'. -/
def readShowsCard : Claim7 := { stood := { row := readShowsRow, standIns := [], harness := (true, "1353881cccab5d41419cd11fae9b6a32bdf6156b1c5cd19dabda8795dac52771"), looks := true }, kinds := [], alts := [], laidByText := true, laidKinds := [.data, .data, .data], laidTests := true, laidLooks := .later }
def ReadShowsCardSaid : Prop := Claim7.holds Tryd.pinned (.plain (OpenSpec.ofChange readShowsSpec)) readShowsCard

/-- THE TIED CARD OF 'grafterylaw.ReadReads'. -/
def readReadsCard : Claim7 := { stood := { row := readReadsRow, standIns := [], harness := (true, "1353881cccab5d41419cd11fae9b6a32bdf6156b1c5cd19dabda8795dac52771"), looks := true }, kinds := [], alts := [], laidByText := true, laidKinds := [.data, .data, .data, .sentinel, .sentinel], laidTests := true, laidLooks := .later }
def ReadReadsCardSaid : Prop := Claim7.holds Tryd.pinned (.plain (OpenSpec.ofChange readReadsSpec)) readReadsCard

/-- THE SECOND FORM's CARD OF 'grafterylaw.ReadShows'. -/
def readShowsUptoCard : Claim7 := { stood := { row := readShowsUptoRow, standIns := [], harness := (true, "1353881cccab5d41419cd11fae9b6a32bdf6156b1c5cd19dabda8795dac52771"), looks := true }, kinds := [], alts := [], laidByText := true, laidKinds := [.data, .data, .data], laidTests := true, laidLooks := .later }
def ReadShowsUptoCardSaid : Prop := Claim7.holds Tryd.pinned (.plain (OpenSpec.upto readShowsSpec)) readShowsUptoCard

/-- THE SECOND FORM's CARD OF 'grafterylaw.ReadReads'. -/
def readReadsUptoCard : Claim7 := { stood := { row := readReadsUptoRow, standIns := [], harness := (true, "1353881cccab5d41419cd11fae9b6a32bdf6156b1c5cd19dabda8795dac52771"), looks := true }, kinds := [], alts := [], laidByText := true, laidKinds := [.data, .data, .data, .sentinel, .sentinel], laidTests := true, laidLooks := .later }
def ReadReadsUptoCardSaid : Prop := Claim7.holds Tryd.pinned (.plain (OpenSpec.upto readReadsSpec)) readReadsUptoCard
end Rows
end Go.Proofs.YtbkagjngckfonaaDoor
