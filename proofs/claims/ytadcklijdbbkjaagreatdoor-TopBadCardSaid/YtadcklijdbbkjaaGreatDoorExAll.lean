/- bard.expr at every level. -/
import Derived.Test.YtadcklijdbbkjaaGreatDoorExA
import Derived.Test.YtadcklijdbbkjaaGreatDoorExB
import Derived.Test.YtadcklijdbbkjaaGreatDoorExC
import Derived.Test.YtadcklijdbbkjaaGreatDoorExD
import Derived.Test.YtadcklijdbbkjaaGreatDoorExE
import Derived.Test.YtadcklijdbbkjaaGreatDoorEx13
import Derived.Test.YtadcklijdbbkjaaGreatDoorEx14
import Derived.Test.YtadcklijdbbkjaaGreatDoorEx18
namespace Go.Proofs.YtadcklijdbbkjaaGreatDoor
open Go.RowKit Go.ChangeShapes Go.WideShapes Go.Deep
set_option linter.unusedVariables false

theorem expr_step {base d : Nat} (hE : ExprAt 9 base d) : ExprAt 9 base (d + 1) := by
  intro w b v n h hn
  obtain ⟨k, a, c, e, ik, ia, ic, ie, hN⟩ := h.head
  obtain ⟨p0, p1⟩ := pk_in k (show (0 : Int) < 20 by omega)
  obtain ⟨p, hp⟩ : ∃ p, pk k 20 = p := ⟨_, rfl⟩
  rw [hp] at p0 p1
  rw [show ((d + 1 : Nat) : Int) = (d : Int) + 1 by omega]
  rcases (show p = 0 ∨ p = 1 ∨ p = 2 ∨ p = 3 ∨ p = 4 ∨ p = 5 ∨ p = 6 ∨ p = 7 ∨ p = 8 ∨ p = 9 ∨ p = 10 ∨ p = 11 ∨ p = 12 ∨ p = 13 ∨ p = 14 ∨ p = 15 ∨ p = 16 ∨ p = 17 ∨ p = 18 ∨ p = 19 by omega) with rfl | rfl | rfl | rfl | rfl | rfl | rfl | rfl | rfl | rfl | rfl | rfl | rfl | rfl | rfl | rfl | rfl | rfl | rfl | rfl
  · exact expr_0 hE h hn ik ia ic ie hN hp
  · exact expr_1 hE h hn ik ia ic ie hN hp
  · exact expr_2 hE h hn ik ia ic ie hN hp
  · exact expr_3 hE h hn ik ia ic ie hN hp
  · exact expr_4 hE h hn ik ia ic ie hN hp
  · exact expr_5 hE h hn ik ia ic ie hN hp
  · exact expr_6 hE h hn ik ia ic ie hN hp
  · exact expr_7 hE h hn ik ia ic ie hN hp
  · exact expr_8 hE h hn ik ia ic ie hN hp
  · exact expr_9 hE h hn ik ia ic ie hN hp
  · exact expr_10 hE h hn ik ia ic ie hN hp
  · exact expr_11 hE h hn ik ia ic ie hN hp
  · exact expr_12 hE h hn ik ia ic ie hN hp
  · exact expr_13 hE h hn ik ia ic ie hN hp
  · exact expr_14 hE h hn ik ia ic ie hN hp
  · exact expr_15 hE h hn ik ia ic ie hN hp
  · exact expr_16 hE h hn ik ia ic ie hN hp
  · exact expr_17 hE h hn ik ia ic ie hN hp
  · exact expr_18 hE h hn ik ia ic ie hN hp
  · exact expr_19 hE h hn ik ia ic ie hN hp
theorem expr_all (base : Nat) : ∀ d, ExprAt 9 base d
  | 0 => expr_zero
  | d + 1 => expr_step (expr_all base d)
end Go.Proofs.YtadcklijdbbkjaaGreatDoor
