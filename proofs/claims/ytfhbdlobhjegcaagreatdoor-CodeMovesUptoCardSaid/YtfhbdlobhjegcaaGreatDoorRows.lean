/-
  NARROWER THAN 'FOR EVERY INPUT', by the rows' own cells (each row's printed sentence says how): CodeMoves: loops, laid.
  DERIVED. THE GIVEN ROWS OF THIS SEAT. 1 by the template 'for every input the law returns true; each argument reads behind the call as it read before'; 0 by the template 'total and deterministic' (their statements: YtfhbdlobhjegcaaGreatDoorTotals.lean).
  GIVEN WITH THE SEED: the statements are not yours to turn. If you find one false, say at which input.
  Laid BY PROGRAM, IN A SANDBOX (cutbox-rows.mjs): the forced cells as the released guide's own fill.sh prints them over the translation 03d4a88d766f7ff0… (all of the seat's roots in one cut). By AI agents, Wed Nov 11 2026. No macro, syntax, notation, axiom, sorry.
-/
import Derived.Test.YtfhbdlobhjegcaaGreatDoorChecked
import GoSem.Claim
import GoSem.ClaimJoined
import GoSem.ClaimMapViews
import Derived.JoinedTies
import Derived.KernelRfl
namespace Go.Proofs.YtfhbdlobhjegcaaGreatDoor
/- THE CELL 'sum', in the pinned program and in every row, IS THE sha256 OF THE DUMP (.gsa) THAT YtfhbdlobhjegcaaGreatDoorProg.lean LOADS. Nothing in Lean hashes anything: it is a label: what it is worth is what the hold of that sum in a sandbox is worth. -/
noncomputable def Tryz.pinned : Pinned := { name := "ytfhbdlobhjegcaagreatdoor", sum := "03d4a88d766f7ff0f93cf296aa206b7cfb9d7e13d04474aa4f2de7f7f902104c", checked := Tryz.checked }
namespace Rows
def none {H : Type} : Left H := { results := [], args := [] }

/- WHAT THE LISTED PACKAGE-LEVEL VARIABLES READ AS WHEN THE CALL BEGINS. Each datum BY PROGRAM (the guide's laid-datum.mjs) off the statement by which the dump's own 'gosem.cut.vars' lays the variable. In a bare row this is a premise. The card (YtfhbdlobhjegcaaGreatDoorCards.lean) ties it to the program's text. -/
def laid_graftery_unit_keywords {H : Type} : DataW H := .map [(.string [98, 101, 103, 105, 110], .lit (.bool true)), (.string [100, 101, 102, 105, 110, 101], .lit (.bool true)), (.string [105, 102], .lit (.bool true)), (.string [108, 97, 109, 98, 100, 97], .lit (.bool true)), (.string [108, 101, 116], .lit (.bool true)), (.string [113, 117, 111, 116, 101], .lit (.bool true)), (.string [114, 101, 99, 111, 114, 100], .lit (.bool true)), (.string [115, 101, 116, 33], .lit (.bool true)), (.string [117, 112, 103, 114, 97, 100, 101], .lit (.bool true)), (.string [119, 97, 115], .lit (.bool true))]
def laid_graftery_unit_arity {H : Type} : DataW H := .map [(.string [42], .lit (.int .i64 2)), (.string [43], .lit (.int .i64 2)), (.string [45], .lit (.int .i64 2)), (.string [60], .lit (.int .i64 2)), (.string [61], .lit (.int .i64 2)), (.string [99, 97, 114], .lit (.int .i64 1)), (.string [99, 100, 114], .lit (.int .i64 1)), (.string [99, 111, 110, 115], .lit (.int .i64 2)), (.string [101, 113, 63], .lit (.int .i64 2)), (.string [101, 114, 114, 111, 114], .lit (.int .i64 1)), (.string [110, 111, 116], .lit (.int .i64 1)), (.string [110, 117, 108, 108, 63], .lit (.int .i64 1)), (.string [112, 97, 105, 114, 63], .lit (.int .i64 1)), (.string [113, 117, 111, 116, 105, 101, 110, 116], .lit (.int .i64 2)), (.string [114, 101, 109, 97, 105, 110, 100, 101, 114], .lit (.int .i64 2))]
def laid_graftery_code_arity {H : Type} : DataW H := .map [(.string [42], .lit (.int .i64 2)), (.string [43], .lit (.int .i64 2)), (.string [45], .lit (.int .i64 2)), (.string [60], .lit (.int .i64 2)), (.string [61], .lit (.int .i64 2)), (.string [99, 97, 114], .lit (.int .i64 1)), (.string [99, 100, 114], .lit (.int .i64 1)), (.string [99, 111, 110, 115], .lit (.int .i64 2)), (.string [101, 113, 63], .lit (.int .i64 2)), (.string [101, 114, 114, 111, 114], .lit (.int .i64 1)), (.string [110, 111, 116], .lit (.int .i64 1)), (.string [110, 117, 108, 108, 63], .lit (.int .i64 1)), (.string [112, 97, 105, 114, 63], .lit (.int .i64 1)), (.string [113, 117, 111, 116, 105, 101, 110, 116], .lit (.int .i64 2)), (.string [114, 101, 109, 97, 105, 110, 100, 101, 114], .lit (.int .i64 2))]

/-- 'grafterylaw.CodeMoves': WHATEVER THE INPUT: true; the input reads as it did. -/
def codeMovesSpec : ChangeSpec := { name := "codeMoves", fn := fun _ => fun
  | [d1, d2] => { results := [.lit (.bool true)], args := [d1, d2] }
  | _ => none }
def codeMovesRow : OpenClaim := { program := "ytfhbdlobhjegcaagreatdoor", sum := "03d4a88d766f7ff0f93cf296aa206b7cfb9d7e13d04474aa4f2de7f7f902104c", func := "graftery/grafterylaw.CodeMoves", spec := "codeMoves", inPlace := ["internal/bytealg.IndexByteString"], unfollowed := true, recurses := true, named := ["graftery/code.arity", "graftery/unit.arity", "graftery/unit.keywords"], loops := true, apart := false, laid := [("graftery/unit.keywords", laid_graftery_unit_keywords), ("graftery/unit.arity", laid_graftery_unit_arity), ("graftery/code.arity", laid_graftery_code_arity)] }
def CodeMovesSaid : Prop := codeMovesRow.holds Tryz.pinned (OpenSpec.ofChange codeMovesSpec)

/-- ITS FALSE NEIGHBOUR: 'it returns false'. Refute it at one input. -/
def codeMovesWrong : ChangeSpec := { name := "codeMoves", fn := fun _ => fun
  | [d1, d2] => { results := [.lit (.bool false)], args := [d1, d2] }
  | _ => none }
def CodeMovesWrongFalsely : Prop := codeMovesRow.holds Tryz.pinned (OpenSpec.ofChange codeMovesWrong)

/- THE SECOND FORM. 'bulk': how many values and letters a reading holds, each counted each time it is reached (what is shared counts as often as it is met; a slice's spare places count too). A statement '..UptoSaid' is the law's where the arguments, and the package variables that the reading takes, are together of bulk at most 1048576: NARROWER than '..Said'. Prove '..Said' where nothing that the law and all that it calls make is longer than what came in: it says more and counts as full. Else prove '..UptoSaid'. A law counts once. -/
mutual
def uptoBulk {H : Type} : DataW H → Nat
  | .lit (.string bytes) => bytes.length + 1
  | .lit _ => 1
  | .nil => 1
  | .ptr d => uptoBulk d + 1
  | .slice elems spare => uptoBulkAll elems + uptoBulkAll spare + 1
  | .agg parts => uptoBulkAll parts + 1
  | .iface _ d => uptoBulk d + 1
  | .map entries => uptoBulkEntries entries + 1
  | .held _ => 1
def uptoBulkAll {H : Type} : List (DataW H) → Nat
  | [] => 0
  | d :: r => uptoBulk d + uptoBulkAll r
def uptoBulkEntries {H : Type} : List (Lit × DataW H) → Nat
  | [] => 0
  | x :: r => uptoBulkEntry x + uptoBulkEntries r
def uptoBulkEntry {H : Type} : Lit × DataW H → Nat
  | (.string bytes, d) => bytes.length + uptoBulk d + 1
  | (_, d) => uptoBulk d + 1
 end
def uptoSmall : (H : Type) → List (DataW H) → Bool := fun _ ds => decide (uptoBulkAll ds ≤ 1048576)
def OpenSpec.upto (s : _root_.Go.ChangeSpec) : _root_.Go.OpenSpec := { _root_.Go.OpenSpec.ofChange s with cond := some uptoSmall }

/-- 'grafterylaw.CodeMoves', WHERE WHAT IT READS IS OF BULK AT MOST 1048576: true; the input reads as it did. -/
def codeMovesUptoRow : OpenClaim := { program := "ytfhbdlobhjegcaagreatdoor", sum := "03d4a88d766f7ff0f93cf296aa206b7cfb9d7e13d04474aa4f2de7f7f902104c", func := "graftery/grafterylaw.CodeMoves", spec := "codeMoves", inPlace := ["internal/bytealg.IndexByteString"], unfollowed := true, recurses := true, named := ["graftery/code.arity", "graftery/unit.arity", "graftery/unit.keywords"], loops := true, apart := false, laid := [("graftery/unit.keywords", laid_graftery_unit_keywords), ("graftery/unit.arity", laid_graftery_unit_arity), ("graftery/code.arity", laid_graftery_code_arity)], narrowed := true }
def CodeMovesUptoSaid : Prop := codeMovesUptoRow.holds Tryz.pinned (OpenSpec.upto codeMovesSpec)

end Rows
end Go.Proofs.YtfhbdlobhjegcaaGreatDoor
