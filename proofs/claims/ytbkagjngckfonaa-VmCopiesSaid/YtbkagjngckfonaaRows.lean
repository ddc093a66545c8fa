/-
  NARROWER THAN 'FOR EVERY INPUT', by the rows' own cells (each row's printed sentence says how): ReadChecks: loops · UnitBehind: loops.
  DERIVED. THE GIVEN ROWS OF THIS SEAT. 4 by the template 'for every input the law returns true; each argument reads behind the call as it read before'; 0 by the template 'total and deterministic' (their statements: YtbkagjngckfonaaTotals.lean).
  GIVEN WITH THE SEED: the statements are not yours to turn. If you find one false, say at which input.
  Laid BY PROGRAM, IN A SANDBOX (cutbox-rows.mjs): the forced cells as the released guide's own fill.sh prints them over the translation 1a6d29e912db57fc… (all of the seat's roots in one cut). By AI agents, Wed Nov 11 2026. No macro, syntax, notation, axiom, sorry.
-/
import Derived.Test.YtbkagjngckfonaaChecked
import GoSem.Claim
import GoSem.ClaimJoined
import GoSem.ClaimMapViews
import Derived.JoinedTies
import Derived.KernelRfl
namespace Go.Proofs.Ytbkagjngckfonaa
/- THE CELL 'sum', in the pinned program and in every row, IS THE sha256 OF THE DUMP (.gsa) THAT YtbkagjngckfonaaProg.lean LOADS. Nothing in Lean hashes anything: it is a label: what it is worth is what the hold of that sum in a sandbox is worth. -/
noncomputable def Try.pinned : Pinned := { name := "ytbkagjngckfonaa", sum := "1a6d29e912db57fc79a8b42cf8b7b49c621daa768621ade47a407f086944722f", checked := Try.checked }
namespace Rows
def none {H : Type} : Left H := { results := [], args := [] }

/-- 'grafterylaw.Names': WHATEVER THE INPUT: true; the input reads as it did. -/
def namesSpec : ChangeSpec := { name := "names", fn := fun _ => fun
  | [] => { results := [.lit (.bool true)], args := [] }
  | _ => none }
def namesRow : OpenClaim := { program := "ytbkagjngckfonaa", sum := "1a6d29e912db57fc79a8b42cf8b7b49c621daa768621ade47a407f086944722f", func := "graftery/grafterylaw.Names", spec := "names", apart := false }
def NamesSaid : Prop := namesRow.holds Try.pinned (OpenSpec.ofChange namesSpec)

/-- ITS FALSE NEIGHBOUR: 'it returns false'. Refute it at one input. -/
def namesWrong : ChangeSpec := { name := "names", fn := fun _ => fun
  | [] => { results := [.lit (.bool false)], args := [] }
  | _ => none }
def NamesWrongFalsely : Prop := namesRow.holds Try.pinned (OpenSpec.ofChange namesWrong)

/-- 'grafterylaw.VmCopies': WHATEVER THE INPUT: true; the input reads as it did. -/
def vmCopiesSpec : ChangeSpec := { name := "vmCopies", fn := fun _ => fun
  | [d] => { results := [.lit (.bool true)], args := [d] }
  | _ => none }
def vmCopiesRow : OpenClaim := { program := "ytbkagjngckfonaa", sum := "1a6d29e912db57fc79a8b42cf8b7b49c621daa768621ade47a407f086944722f", func := "graftery/grafterylaw.VmCopies", spec := "vmCopies", apart := false }
def VmCopiesSaid : Prop := vmCopiesRow.holds Try.pinned (OpenSpec.ofChange vmCopiesSpec)

/-- ITS FALSE NEIGHBOUR: 'it returns false'. Refute it at one input. -/
def vmCopiesWrong : ChangeSpec := { name := "vmCopies", fn := fun _ => fun
  | [d] => { results := [.lit (.bool false)], args := [d] }
  | _ => none }
def VmCopiesWrongFalsely : Prop := vmCopiesRow.holds Try.pinned (OpenSpec.ofChange vmCopiesWrong)

/-- 'grafterylaw.ReadChecks': WHATEVER THE INPUT: true; the input reads as it did. -/
def readChecksSpec : ChangeSpec := { name := "readChecks", fn := fun _ => fun
  | [d] => { results := [.lit (.bool true)], args := [d] }
  | _ => none }
def readChecksRow : OpenClaim := { program := "ytbkagjngckfonaa", sum := "1a6d29e912db57fc79a8b42cf8b7b49c621daa768621ade47a407f086944722f", func := "graftery/grafterylaw.ReadChecks", spec := "readChecks", inPlace := ["internal/bytealg.IndexByteString"], recurses := true, loops := true, apart := false }
def ReadChecksSaid : Prop := readChecksRow.holds Try.pinned (OpenSpec.ofChange readChecksSpec)

/-- ITS FALSE NEIGHBOUR: 'it returns false'. Refute it at one input. -/
def readChecksWrong : ChangeSpec := { name := "readChecks", fn := fun _ => fun
  | [d] => { results := [.lit (.bool false)], args := [d] }
  | _ => none }
def ReadChecksWrongFalsely : Prop := readChecksRow.holds Try.pinned (OpenSpec.ofChange readChecksWrong)

/-- 'grafterylaw.UnitBehind': WHATEVER THE INPUT: true; the input reads as it did. -/
def unitBehindSpec : ChangeSpec := { name := "unitBehind", fn := fun _ => fun
  | [d1, d2] => { results := [.lit (.bool true)], args := [d1, d2] }
  | _ => none }
def unitBehindRow : OpenClaim := { program := "ytbkagjngckfonaa", sum := "1a6d29e912db57fc79a8b42cf8b7b49c621daa768621ade47a407f086944722f", func := "graftery/grafterylaw.UnitBehind", spec := "unitBehind", unfollowed := true, recurses := true, loops := true, apart := false }
def UnitBehindSaid : Prop := unitBehindRow.holds Try.pinned (OpenSpec.ofChange unitBehindSpec)

/-- ITS FALSE NEIGHBOUR: 'it returns false'. Refute it at one input. -/
def unitBehindWrong : ChangeSpec := { name := "unitBehind", fn := fun _ => fun
  | [d1, d2] => { results := [.lit (.bool false)], args := [d1, d2] }
  | _ => none }
def UnitBehindWrongFalsely : Prop := unitBehindRow.holds Try.pinned (OpenSpec.ofChange unitBehindWrong)

/- THE SECOND FORM. 'bulk': how many values and letters a reading holds, each counted each time it is reached (what is shared counts as often as it is met; a slice's spare places count too). A statement '..UptoSaid' is the law's where the arguments, and the package variables that the reading takes, are together of bulk at most 1048576: NARROWER than '..Said'. Prove '..Said' where nothing that the law and all that it calls make is longer than what came in: it says more and counts as full. Else prove '..UptoSaid'. A law counts once. -/
mutual
def uptoBulk {H : Type} : DataW H → Nat
  | .lit (.string bytes) => bytes.length + 1
  | .lit _ => 1
  | .nil => 1
  | .ptr d => uptoBulk d + 1
  | .slice elems spare => uptoBulkAll elems + uptoBulkAll spare + 1
  | .agg parts => uptoBulkAll parts + 1
  | .iface _ d => uptoBulk d + 1
  | .map entries => uptoBulkEntries entries + 1
  | .held _ => 1
def uptoBulkAll {H : Type} : List (DataW H) → Nat
  | [] => 0
  | d :: r => uptoBulk d + uptoBulkAll r
def uptoBulkEntries {H : Type} : List (Lit × DataW H) → Nat
  | [] => 0
  | x :: r => uptoBulkEntry x + uptoBulkEntries r
def uptoBulkEntry {H : Type} : Lit × DataW H → Nat
  | (.string bytes, d) => bytes.length + uptoBulk d + 1
  | (_, d) => uptoBulk d + 1
 end
def uptoSmall : (H : Type) → List (DataW H) → Bool := fun _ ds => decide (uptoBulkAll ds ≤ 1048576)
def OpenSpec.upto (s : _root_.Go.ChangeSpec) : _root_.Go.OpenSpec := { _root_.Go.OpenSpec.ofChange s with cond := some uptoSmall }

/-- 'grafterylaw.Names', WHERE WHAT IT READS IS OF BULK AT MOST 1048576: true; the input reads as it did. -/
def namesUptoRow : OpenClaim := { program := "ytbkagjngckfonaa", sum := "1a6d29e912db57fc79a8b42cf8b7b49c621daa768621ade47a407f086944722f", func := "graftery/grafterylaw.Names", spec := "names", apart := false, narrowed := true }
def NamesUptoSaid : Prop := namesUptoRow.holds Try.pinned (OpenSpec.upto namesSpec)

/-- 'grafterylaw.VmCopies', WHERE WHAT IT READS IS OF BULK AT MOST 1048576: true; the input reads as it did. -/
def vmCopiesUptoRow : OpenClaim := { program := "ytbkagjngckfonaa", sum := "1a6d29e912db57fc79a8b42cf8b7b49c621daa768621ade47a407f086944722f", func := "graftery/grafterylaw.VmCopies", spec := "vmCopies", apart := false, narrowed := true }
def VmCopiesUptoSaid : Prop := vmCopiesUptoRow.holds Try.pinned (OpenSpec.upto vmCopiesSpec)

/-- 'grafterylaw.ReadChecks', WHERE WHAT IT READS IS OF BULK AT MOST 1048576: true; the input reads as it did. -/
def readChecksUptoRow : OpenClaim := { program := "ytbkagjngckfonaa", sum := "1a6d29e912db57fc79a8b42cf8b7b49c621daa768621ade47a407f086944722f", func := "graftery/grafterylaw.ReadChecks", spec := "readChecks", inPlace := ["internal/bytealg.IndexByteString"], recurses := true, loops := true, apart := false, narrowed := true }
def ReadChecksUptoSaid : Prop := readChecksUptoRow.holds Try.pinned (OpenSpec.upto readChecksSpec)

/-- 'grafterylaw.UnitBehind', WHERE WHAT IT READS IS OF BULK AT MOST 1048576: true; the input reads as it did. -/
def unitBehindUptoRow : OpenClaim := { program := "ytbkagjngckfonaa", sum := "1a6d29e912db57fc79a8b42cf8b7b49c621daa768621ade47a407f086944722f", func := "graftery/grafterylaw.UnitBehind", spec := "unitBehind", unfollowed := true, recurses := true, loops := true, apart := false, narrowed := true }
def UnitBehindUptoSaid : Prop := unitBehindUptoRow.holds Try.pinned (OpenSpec.upto unitBehindSpec)

end Rows
end Go.Proofs.Ytbkagjngckfonaa
