/- Contracts of code.symbol, code.free, code.counted. -/
import Derived.Test.YtlgnaopaeapbfaaDoorArgs
namespace Go.Proofs.YtlgnaopaeapbfaaDoor
open Go.RowKit Go.ChangeShapes Go.WideShapes Go.Deep Go.ChangeAt
set_option linter.unusedVariables false

set_option maxHeartbeats 400000 in
theorem symbol_code (s : ByteArray) (hs : s.size ≤ maxLen) (w : World) :
    Calls Tryd.prog 41 #[.string s] w fun e w' => e = .returned (.bool (nameB s.data.toList)) ∧ Below w.heap.size w w' := by
  cases hn : nameB s.data.toList
  all_goals
    have h := nameCheck_any s hs w
    rw [hn] at h
    have HC := Lib.hid h
    clear h hn
    go_enter Tryd.func41, Tryd.ntmps41
    go_wp2_with fail
    refine HC.out.mono ?_
    rintro e w1 ⟨rfl, hb1⟩
    have HB1 := Lib.hid hb1
    clear hb1
    go_wp2_with fail
    go_ret
    exact ⟨rfl, HB1.out⟩

theorem shapeF_none (s : ByteArray) : shapeF s [] = if freeB s then 0 else 4 := by
  unfold shapeF
  cases freeB s <;> simp [firstErr]

set_option maxHeartbeats 400000 in
theorem free_code (s : ByteArray) (hs : s.size ≤ maxLen) (w : World) (hm : UMaps w) :
    Calls Tryd.prog 42 #[.string s] w fun e w' => e = .returned (.bool (freeB s)) ∧ Below w.heap.size w w' := by
  cases hn : freeB s
  all_goals
    have h := checkShape_any w s none 0 0 [] ⟨rfl, hs, ⟨rfl, fun h => absurd h (by omega)⟩, by simp, by omega, by unfold maxLen; omega⟩ hm
    rw [shapeF_none, hn] at h
    have HC := Lib.hid h
    clear h hn
    go_enter Tryd.func42, Tryd.ntmps42
    go_wp2_with fail
    refine HC.out.mono ?_
    rintro e w1 ⟨rfl, hb1⟩
    have HB1 := Lib.hid hb1
    clear hb1
    go_wp2_with fail
    go_ret
    exact ⟨rfl, HB1.out⟩
end Go.Proofs.YtlgnaopaeapbfaaDoor
