/- Contract of grafteryref.exprFault (printed by gen_xfault.py). -/
import Derived.Test.YtlgnaopaeapbfaaDoorCodeCheck
import Derived.Deep.DeepCutAuto
import Derived.Deep.CutBlock
import Derived.Deep.LoopGhost
import Derived.BigQuiet
import Derived.Deep.RegionHeld3
namespace Go.Proofs.YtlgnaopaeapbfaaDoor
open Go.RowKit Go.ChangeShapes Go.WideShapes Go.Deep Go.ChangeAt
set_option linter.unusedVariables false

/-- A block of the call's own, laid at w's end: it reads in a later world as it was laid. -/
structure Kept (w wx : World) (cs : Array Value) : Prop where
  below : Below w.heap.size w wx
  size : w.heap.size < wx.heap.size
  cell : ∀ (j : Nat) (v : Value), cs[j]? = some v → wx.cell? ⟨w.heap.size, j, none⟩ = some v
theorem Kept.start (w : World) (cs : Array Value) (t : TypeId) : Kept w (w.alloc (.cells cs t)) cs :=
  ⟨(Below.refl _ _).alloc (Nat.le_refl _) _, by simp, fun j v h => by rw [cell_new]; exact h⟩
theorem Kept.later {w wx wy : World} {cs : Array Value} (h : Kept w wx cs) (hb : Below wx.heap.size wx wy) : Kept w wy cs :=
  ⟨h.below.trans (hb.mono h.below.size), Nat.lt_of_lt_of_le h.size hb.size, fun j v hj => (hb.cell (p := ⟨w.heap.size, j, none⟩) h.size).trans (h.cell j v hj)⟩
theorem Kept.drewN {w wx : World} {cs : Array Value} (h : Kept w wx cs) (n : Nat) : Kept w (wx.drewN n) cs := h.later (below_drewN (Below.refl _ _) n)

section
variable {H : Type} {enc : TypeId × Value → H}
def XfIs (w : World) (cs : List Value) (As : Option Addr) (sl sc : Nat) (olds v : Int) : Prop :=
  Calls Tryd.prog 25 #[.agg cs.toArray, .slice As sl sc, .int .i64 olds] w fun e w' => e = .returned (.int .i64 v) ∧ Below w.heap.size w w'
/-- What grafteryref.exprFault answers of expressions of so many levels. -/
def XfSays (enc : TypeId × Value → H) (n : Nat) : Prop := ∀ (w : World) (cs : List Value) (x : Tr n) (As : Option Addr) (sl sc : Nat) (scope : List ByteArray) (olds : Int), ExAt enc w n cs x → StrsAt w As sl scope → sl ≤ 40 → sl ≤ sc → sc ≤ maxLen →
  -1 ≤ olds ∧ olds ≤ 6 → XfIs w cs As sl sc olds (exprF n x scope olds)

theorem primN_pos {l : List UInt8} {n : Nat} (h : primN l = n) : 0 < n := by
  rcases Nat.eq_zero_or_pos n with h0 | h0
  · subst h0
    unfold primN at h
    split at h
    · simp at h
    · split at h <;> simp at h
  · exact h0
end
end Go.Proofs.YtlgnaopaeapbfaaDoor
