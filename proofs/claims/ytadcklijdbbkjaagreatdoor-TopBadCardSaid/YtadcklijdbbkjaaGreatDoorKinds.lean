/- What each kind of operation yields, whatever the frame. -/
import Derived.Test.YtadcklijdbbkjaaGreatDoorRule
namespace Go.Proofs.YtadcklijdbbkjaaGreatDoor
open Go.RowKit
set_option linter.unusedVariables false

section
variable {ev : Operand → Value} {o : Oper} {w : World}
theorem run_add {x y : Operand} {s t : ByteArray} (ho : o.op = .binOp .add 9 x y 9) (hx : ev x = .string s) (hy : ev y = .string t) (h : s.size + t.size ≤ 9223372036854775807) :
    (execOp ev o).run Tryz.prog w = .ok (.value (.string (s ++ t))) w := by
  have h' : ¬ 9223372036854775807 < s.size + t.size := by omega
  unfold execOp
  simp [ho, go_sem, hx, hy, h']
theorem run_subI {x y : Operand} {m n : Int} (ho : o.op = .binOp .sub 3 x y 3) (hx : ev x = .int .i64 m) (hy : ev y = .int .i64 n) (h : -9223372036854775808 ≤ m - n ∧ m - n ≤ 9223372036854775807) :
    (execOp ev o).run Tryz.prog w = .ok (.value (.int .i64 (m - n))) w := by
  have h' := IntWalk.i64_in _ h
  unfold execOp
  simp [ho, go_sem, hx, hy, h']
theorem run_mov {x : Operand} {u : Value} (ho : o.op = .move x) (hx : ev x = u) : (execOp ev o).run Tryz.prog w = .ok (.value u) w := by
  unfold execOp
  simp [ho, go_sem, hx]
theorem run_asg {x : Operand} {u : Value} (ho : o.op = .assign x) (hx : ev x = u) : (execOp ev o).run Tryz.prog w = .ok (.value u) w := by
  unfold execOp
  simp [ho, go_sem, hx]
theorem run_fld {x : Operand} {R j : Nat} (hj : j < 4) (ho : o.op = .fieldAddr 46 x j) (hx : ev x = .pointer (some ⟨R, 0, none⟩)) : (execOp ev o).run Tryz.prog w = .ok (.value (.pointer (some ⟨R, j, none⟩))) w := by
  unfold execOp
  rcases (show j = 0 ∨ j = 1 ∨ j = 2 ∨ j = 3 by omega) with rfl | rfl | rfl | rfl <;> simp [ho, go_sem, hx]
theorem run_ldI {x : Operand} {R j : Nat} {n : Int} (ho : o.op = .load 3 x) (hx : ev x = .pointer (some ⟨R, j, none⟩)) (hc : w.cell? ⟨R, j, none⟩ = some (.int .i64 n)) : (execOp ev o).run Tryz.prog w = .ok (.value (.int .i64 n)) w := by
  unfold execOp
  simp [ho, go_sem, hx, hc]
theorem run_ldS {x : Operand} {R j : Nat} {s : ByteArray} (ho : o.op = .load 9 x) (hx : ev x = .pointer (some ⟨R, j, none⟩)) (hc : w.cell? ⟨R, j, none⟩ = some (.string s)) : (execOp ev o).run Tryz.prog w = .ok (.value (.string s)) w := by
  unfold execOp
  simp [ho, go_sem, hx, hc]
theorem run_ldP {x : Operand} {R j : Nat} {p : Option Addr} (ho : o.op = .load 93 x) (hx : ev x = .pointer (some ⟨R, j, none⟩)) (hc : w.cell? ⟨R, j, none⟩ = some (.pointer p)) : (execOp ev o).run Tryz.prog w = .ok (.value (.pointer p)) w := by
  unfold execOp
  simp [ho, go_sem, hx, hc]
theorem run_idx {x y : Operand} {g i n : Nat} (ho : o.op = .indexAddr 48 x y) (hx : ev x = .slice (some ⟨g, 0, none⟩) n n) (hy : ev y = .int .i64 (i : Int)) (h : i < n) : (execOp ev o).run Tryz.prog w = .ok (.value (.pointer (some ⟨g, i, none⟩))) w := by
  have h0 : (0 : Int) ≤ (i : Int) := Int.natCast_nonneg _
  have h1 : (i : Int) < (n : Int) := by omega
  unfold execOp
  simp [ho, go_sem, hx, hy, h0, h1]
theorem run_pick {x y : Operand} {m n : Int} {ts : Array TypeId} (ho : o.op = .call { callee := .value (.func 9), args := #[x, y], argTypes := ts }) (hf : ev (.func 9) = .func (.func 9) #[] #[]) (hx : ev x = .int .i64 m) (hy : ev y = .int .i64 n) :
    (execOp ev o).run Tryz.prog w = .ok (.enter 9 #[.int .i64 m, .int .i64 n]) w := by
  unfold execOp
  simp [ho, go_sem, hx, hy, hf]
end
end Go.Proofs.YtadcklijdbbkjaaGreatDoor
