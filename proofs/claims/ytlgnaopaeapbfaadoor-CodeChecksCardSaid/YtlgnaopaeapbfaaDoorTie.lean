/-
  DERIVED. GIVEN WITH THE SEED: THE PROGRAM's TIES (one call each: nine closed facts by the kernel) AND EACH ROW's TIE, after the 31st guide's Derived/Test/Toyas{Tie, Card}.lean. No idea stands in it: it is a product of the set-up. Laid BY PROGRAM, IN A SANDBOX (cutbox-door.mjs). By AI agents, Wed Nov 11 2026. No macro, syntax, notation, axiom, sorry.
-/
import Derived.Test.YtlgnaopaeapbfaaDoorRows
import Derived.LaidByTextLater
import Derived.SevenTiedAt
import Derived.LaidSub
import Derived.LaidOnce
namespace Go.Proofs.YtlgnaopaeapbfaaDoor
open Go
set_option maxRecDepth 100000
theorem seatTie1 : Tryd.prog.laidByTextLater [("graftery/unit.keywords", Rows.laid_graftery_unit_keywords), ("graftery/unit.arity", Rows.laid_graftery_unit_arity), ("graftery/code.arity", Rows.laid_graftery_code_arity)] [.mapped, .mapped, .mapped] true :=
  Program.laidByTextLater_by_one 224 8 2 (by kernel_rfl) (by kernel_rfl) (by kernel_rfl) (by kernel_rfl) (by kernel_rfl) (by kernel_rfl) (fun _ _ => by kernel_rfl)
theorem noOwnUnsafe : Tryd.pinned.checked.prog.headLifts.contains "ownunsafe" = false := by kernel_rfl
theorem tie : Tryd.prog.laidByTextLater [("graftery/unit.keywords", Rows.laid_graftery_unit_keywords), ("graftery/unit.arity", Rows.laid_graftery_unit_arity)] [.mapped, .mapped] true :=
  Program.laidByTextLater.sub seatTie1 ["graftery/unit.keywords", "graftery/unit.arity"] (by kernel_rfl) (by kernel_rfl)
theorem unitShapes_row_tie : Rows.unitShapesRow.laidByTextAt .later Tryd.pinned [.mapped, .mapped] true :=
  OpenClaim.laidByTextAt_later rfl rfl tie noOwnUnsafe
theorem unitChecks_row_tie : Rows.unitChecksRow.laidByTextAt .later Tryd.pinned [.mapped, .mapped] true :=
  OpenClaim.laidByTextAt_later rfl rfl tie noOwnUnsafe
theorem tie2 : Tryd.prog.laidByTextLater [("graftery/unit.keywords", Rows.laid_graftery_unit_keywords), ("graftery/unit.arity", Rows.laid_graftery_unit_arity), ("graftery/code.arity", Rows.laid_graftery_code_arity)] [.mapped, .mapped, .mapped] true :=
  Program.laidByTextLater.sub seatTie1 ["graftery/unit.keywords", "graftery/unit.arity", "graftery/code.arity"] (by kernel_rfl) (by kernel_rfl)
theorem codeChecks_row_tie : Rows.codeChecksRow.laidByTextAt .later Tryd.pinned [.mapped, .mapped, .mapped] true :=
  OpenClaim.laidByTextAt_later rfl rfl tie2 noOwnUnsafe
theorem codeMoveChecks_row_tie : Rows.codeMoveChecksRow.laidByTextAt .later Tryd.pinned [.mapped, .mapped, .mapped] true :=
  OpenClaim.laidByTextAt_later rfl rfl tie2 noOwnUnsafe
theorem unitShapesUpto_row_tie : Rows.unitShapesUptoRow.laidByTextAt .later Tryd.pinned [.mapped, .mapped] true :=
  OpenClaim.laidByTextAt_later rfl rfl tie noOwnUnsafe
theorem unitChecksUpto_row_tie : Rows.unitChecksUptoRow.laidByTextAt .later Tryd.pinned [.mapped, .mapped] true :=
  OpenClaim.laidByTextAt_later rfl rfl tie noOwnUnsafe
theorem codeChecksUpto_row_tie : Rows.codeChecksUptoRow.laidByTextAt .later Tryd.pinned [.mapped, .mapped, .mapped] true :=
  OpenClaim.laidByTextAt_later rfl rfl tie2 noOwnUnsafe
theorem codeMoveChecksUpto_row_tie : Rows.codeMoveChecksUptoRow.laidByTextAt .later Tryd.pinned [.mapped, .mapped, .mapped] true :=
  OpenClaim.laidByTextAt_later rfl rfl tie2 noOwnUnsafe
end Go.Proofs.YtlgnaopaeapbfaaDoor
