/-
  DERIVED. GIVEN WITH THE SEED: THE PROGRAM's TIES (one call each: nine closed facts by the kernel) AND EACH ROW's TIE, after the 31st guide's Derived/Test/Toyas{Tie, Card}.lean. No idea stands in it: it is a product of the set-up. Laid BY PROGRAM, IN A SANDBOX (cutbox-door.mjs). By AI agents, Wed Nov 11 2026. No macro, syntax, notation, axiom, sorry.
-/
import Derived.Test.YtfhbdlobhjegcaaGreatDoorRows
import Derived.LaidByTextLater
import Derived.SevenTiedAt
import Derived.LaidSub
import Derived.LaidOnce
namespace Go.Proofs.YtfhbdlobhjegcaaGreatDoor
open Go
set_option maxRecDepth 100000
theorem seatTie1 : Tryz.prog.laidByTextLater [("graftery/unit.keywords", Rows.laid_graftery_unit_keywords), ("graftery/unit.arity", Rows.laid_graftery_unit_arity), ("graftery/code.arity", Rows.laid_graftery_code_arity)] [.mapped, .mapped, .mapped] true :=
  Program.laidByTextLater_by_one 224 8 2 (by kernel_rfl) (by kernel_rfl) (by kernel_rfl) (by kernel_rfl) (by kernel_rfl) (by kernel_rfl) (fun _ _ => by kernel_rfl)
theorem noOwnUnsafe : Tryz.pinned.checked.prog.headLifts.contains "ownunsafe" = false := by kernel_rfl
theorem tie : Tryz.prog.laidByTextLater [("graftery/unit.keywords", Rows.laid_graftery_unit_keywords), ("graftery/unit.arity", Rows.laid_graftery_unit_arity), ("graftery/code.arity", Rows.laid_graftery_code_arity)] [.mapped, .mapped, .mapped] true :=
  Program.laidByTextLater.sub seatTie1 ["graftery/unit.keywords", "graftery/unit.arity", "graftery/code.arity"] (by kernel_rfl) (by kernel_rfl)
theorem codeMoves_row_tie : Rows.codeMovesRow.laidByTextAt .later Tryz.pinned [.mapped, .mapped, .mapped] true :=
  OpenClaim.laidByTextAt_later rfl rfl tie noOwnUnsafe
theorem codeMovesUpto_row_tie : Rows.codeMovesUptoRow.laidByTextAt .later Tryz.pinned [.mapped, .mapped, .mapped] true :=
  OpenClaim.laidByTextAt_later rfl rfl tie noOwnUnsafe
end Go.Proofs.YtfhbdlobhjegcaaGreatDoor
