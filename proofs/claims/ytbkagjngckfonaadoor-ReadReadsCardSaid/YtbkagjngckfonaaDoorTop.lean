/- The whole text, plainly: what Read and DataOf answer. -/
import Derived.Test.YtbkagjngckfonaaDoorDtPut
namespace Go.Proofs.YtbkagjngckfonaaDoor
open Go.RowKit Go.ChangeShapes Go.WideShapes Go.Deep
set_option linter.unusedVariables false

inductive TR where
  | bad (p : Nat) (e : Int)
  | good (l : List Dt)
def top (s : ByteArray) : Nat → Nat → Nat → List Dt → TR
  | 0, _, _, _ => .bad 0 0
  | g + 1, k, cnt, acc =>
    if k < s.size then
      match pdl s 804 false 1 k cnt [] with
      | .bad p e => .bad p e
      | .good a c x => top s g (skipA s a) c (acc ++ [x])
    else .good acc
section
variable {s : ByteArray} {g k cnt : Nat} {acc : List Dt}
theorem top_end (h : ¬ k < s.size) : top s (g + 1) k cnt acc = .good acc := by rw [top, if_neg h]
theorem top_bad (h : k < s.size) {p : Nat} {e : Int} (h1 : pdl s 804 false 1 k cnt [] = .bad p e) : top s (g + 1) k cnt acc = .bad p e := by rw [top, if_pos h, h1]
theorem top_good (h : k < s.size) {a c : Nat} {x : Dt} (h1 : pdl s 804 false 1 k cnt [] = .good a c x) : top s (g + 1) k cnt acc = top s g (skipA s a) c (acc ++ [x]) := by rw [top, if_pos h, h1]
end
theorem own_bound {w w0 : World} {b : Nat} (ho : Only b w0 w) : w0.heap.size ≤ w.heap.size := World.grownBy.size ho
/-- Rows that lie beside the parser stay. -/
theorem OwnAt.only {ty : TypeId} {base : Nat} {w w' : World} {v : Value} {X : List DV} {b : Nat} (h : OwnAt kitDt ty base w v X) (ho : Only b w w') (hb : b < base) : OwnAt kitDt ty base w' v X := h.other ho hb
/-- What the two readers answer. -/
def TopPost (r : TR) (w : World) (e : Ending) (w' : World) : Prop :=
  Below w.heap.size w w' ∧
  match r with
  | .bad p er => e = .returned (.tuple #[.slice none 0 0, .int .i64 p, .int .i64 er])
  | .good l => ∃ A cap, e = .returned (.tuple #[.slice A l.length cap, .int .i64 0, .int .i64 0]) ∧ DtIn w' w.heap.size w'.heap.size [.int .i64 4, .int .i64 0, .string ⟨#[]⟩, .slice A l.length cap] (.mk 4 0 ⟨#[]⟩ l)
def topR (s : ByteArray) : TR := if 3000 < s.size then .bad 0 1 else top s 402 (skipA s 0) 0 []
end Go.Proofs.YtbkagjngckfonaaDoor
