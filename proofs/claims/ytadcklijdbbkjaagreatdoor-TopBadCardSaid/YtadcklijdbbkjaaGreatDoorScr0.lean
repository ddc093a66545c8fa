/- Rows of acts; what the operations of Script's requests yield. -/
import Derived.Test.YtadcklijdbbkjaaGreatDoorTail
import Derived.Test.YtadcklijdbbkjaaGreatDoorLater
namespace Go.Proofs.YtadcklijdbbkjaaGreatDoor
open Go.RowKit Go.ChangeShapes Go.WideShapes Go.Deep
set_option linter.unusedVariables false

structure ActV where
  k : Int
  s : ByteArray
  t : ByteArray
  A : Option Addr
  n : Nat
  c : Nat
  f : Int
def kitAct : Kit ActV where
  k := 5
  cells x := [.int .i64 x.k, .string x.s, .string x.t, .slice x.A x.n x.c, .int .i64 x.f]
  len _ := rfl
  one x u hu := by
    simp only [List.mem_cons, List.not_mem_nil, or_false] at hu
    rcases hu with rfl | rfl | rfl | rfl | rfl <;> rfl
  ok _ _ := True
  uses _ _ := False
  lt _ _ _ _ h := h.elim
  kept _ _ _ _ _ _ _ := trivial
theorem infoAct : (Tryz.prog.info? 44).map (fun i => (i.zero, i.size, i.bytes)) = some (some (.agg #[.int .i64 0, .string ByteArray.empty, .string ByteArray.empty, .slice none 0 0, .int .i64 0]), 5, 72) := by kernel_rfl
section
variable {ev : Operand → Value} {o : Oper} {w : World}
theorem run_dat {x : Operand} {m : Int} (ho : o.op = .build 50 #[(0, .const (.int .i64 1)), (1, x)]) (hc : ev (.const (.int .i64 1)) = .int .i64 1) (hx : ev x = .int .i64 m) : (execOp ev o).run Tryz.prog w = .ok (.value (.agg #[.int .i64 1, .int .i64 m, .string ⟨#[]⟩, .slice none 0 0])) w := by
  unfold execOp
  simp [ho, go_sem, hx, hc]
theorem run_dats {x : Operand} {u0 u1 u2 u3 : Value} (ho : o.op = .buildSlice 42 1 #[(0, x)]) (hx : ev x = .agg #[u0, u1, u2, u3]) : (execOp ev o).run Tryz.prog w = .ok (.value (.slice (some ⟨w.heap.size, 0, none⟩) 1 1)) (w.alloc (.cells #[u0, u1, u2, u3] 50)) := by
  unfold execOp
  simp [ho, go_sem, hx]
  try rfl
theorem run_act {x y z : Operand} {s : ByteArray} {A : Option Addr} {n c : Nat} {m : Int} (ho : o.op = .build 44 #[(0, .const (.int .i64 2)), (2, x), (3, y), (4, z)]) (hc : ev (.const (.int .i64 2)) = .int .i64 2) (hx : ev x = .string s) (hy : ev y = .slice A n c) (hz : ev z = .int .i64 m) :
    (execOp ev o).run Tryz.prog w = .ok (.value (.agg #[.int .i64 2, .string ⟨#[]⟩, .string s, .slice A n c, .int .i64 m])) w := by
  unfold execOp
  simp [ho, go_sem, hx, hy, hz, hc]
theorem run_acts {x : Operand} {u0 u1 u2 u3 u4 : Value} (ho : o.op = .buildSlice 23 1 #[(0, x)]) (hx : ev x = .agg #[u0, u1, u2, u3, u4]) : (execOp ev o).run Tryz.prog w = .ok (.value (.slice (some ⟨w.heap.size, 0, none⟩) 1 1)) (w.alloc (.cells #[u0, u1, u2, u3, u4] 44)) := by
  unfold execOp
  simp [ho, go_sem, hx]
  try rfl
end
end Go.Proofs.YtadcklijdbbkjaaGreatDoor
