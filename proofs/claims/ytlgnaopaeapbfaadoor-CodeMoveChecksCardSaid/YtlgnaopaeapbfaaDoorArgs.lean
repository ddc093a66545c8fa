/- Contracts of code.args, code.symbol, code.free. -/
import Derived.Test.YtlgnaopaeapbfaaDoorExpr
namespace Go.Proofs.YtlgnaopaeapbfaaDoor
open Go.RowKit Go.ChangeShapes Go.WideShapes Go.Deep
set_option linter.unusedVariables false

/-- Arguments that an expression of a kind must have; -1: it hangs on more; -2: no such kind. -/
def argsN (k : Int) : Int :=
  if k = 1 ∨ k = 2 ∨ k = 3 ∨ k = 15 then 0 else if k = 6 ∨ k = 8 ∨ k = 12 ∨ k = 13 then 1 else if k = 14 then 2 else if k = 4 then 3
  else if k = 5 ∨ k = 7 ∨ k = 9 ∨ k = 10 ∨ k = 11 then -1 else -2

def ArgsSay (w : World) (k : Int) : Prop := Calls Tryd.prog 34 #[.int .i64 k] w fun e w' => e = .returned (.int .i64 (argsN k)) ∧ w' = w

theorem args_1 (w : World) : ArgsSay w 1 := by (unfold ArgsSay; go_enter Tryd.func34, Tryd.ntmps34; go_wp2_with fail; go_ret; exact ⟨rfl, rfl⟩)
theorem args_2 (w : World) : ArgsSay w 2 := by (unfold ArgsSay; go_enter Tryd.func34, Tryd.ntmps34; go_wp2_with fail; go_ret; exact ⟨rfl, rfl⟩)
theorem args_3 (w : World) : ArgsSay w 3 := by (unfold ArgsSay; go_enter Tryd.func34, Tryd.ntmps34; go_wp2_with fail; go_ret; exact ⟨rfl, rfl⟩)
theorem args_4 (w : World) : ArgsSay w 4 := by (unfold ArgsSay; go_enter Tryd.func34, Tryd.ntmps34; go_wp2_with fail; go_ret; exact ⟨rfl, rfl⟩)
theorem args_5 (w : World) : ArgsSay w 5 := by (unfold ArgsSay; go_enter Tryd.func34, Tryd.ntmps34; go_wp2_with fail; go_ret; exact ⟨rfl, rfl⟩)
theorem args_6 (w : World) : ArgsSay w 6 := by (unfold ArgsSay; go_enter Tryd.func34, Tryd.ntmps34; go_wp2_with fail; go_ret; exact ⟨rfl, rfl⟩)
theorem args_7 (w : World) : ArgsSay w 7 := by (unfold ArgsSay; go_enter Tryd.func34, Tryd.ntmps34; go_wp2_with fail; go_ret; exact ⟨rfl, rfl⟩)
theorem args_8 (w : World) : ArgsSay w 8 := by (unfold ArgsSay; go_enter Tryd.func34, Tryd.ntmps34; go_wp2_with fail; go_ret; exact ⟨rfl, rfl⟩)
theorem args_9 (w : World) : ArgsSay w 9 := by (unfold ArgsSay; go_enter Tryd.func34, Tryd.ntmps34; go_wp2_with fail; go_ret; exact ⟨rfl, rfl⟩)
theorem args_10 (w : World) : ArgsSay w 10 := by (unfold ArgsSay; go_enter Tryd.func34, Tryd.ntmps34; go_wp2_with fail; go_ret; exact ⟨rfl, rfl⟩)
theorem args_11 (w : World) : ArgsSay w 11 := by (unfold ArgsSay; go_enter Tryd.func34, Tryd.ntmps34; go_wp2_with fail; go_ret; exact ⟨rfl, rfl⟩)
theorem args_12 (w : World) : ArgsSay w 12 := by (unfold ArgsSay; go_enter Tryd.func34, Tryd.ntmps34; go_wp2_with fail; go_ret; exact ⟨rfl, rfl⟩)
theorem args_13 (w : World) : ArgsSay w 13 := by (unfold ArgsSay; go_enter Tryd.func34, Tryd.ntmps34; go_wp2_with fail; go_ret; exact ⟨rfl, rfl⟩)
theorem args_14 (w : World) : ArgsSay w 14 := by (unfold ArgsSay; go_enter Tryd.func34, Tryd.ntmps34; go_wp2_with fail; go_ret; exact ⟨rfl, rfl⟩)
theorem args_15 (w : World) : ArgsSay w 15 := by (unfold ArgsSay; go_enter Tryd.func34, Tryd.ntmps34; go_wp2_with fail; go_ret; exact ⟨rfl, rfl⟩)
theorem argsN_other {k : Int} (h : k < 1 ∨ 15 < k) : argsN k = -2 := by unfold argsN; repeat rw [if_neg (by omega)]
theorem args_other (w : World) (k : Int) (h : k < 1 ∨ 15 < k) : ArgsSay w k := by
  unfold ArgsSay
  rw [argsN_other h]
  have h1 : k ≠ 1 := by omega
  have h2 : k ≠ 2 := by omega
  have h3 : k ≠ 3 := by omega
  have h4 : k ≠ 4 := by omega
  have h5 : k ≠ 5 := by omega
  have h6 : k ≠ 6 := by omega
  have h7 : k ≠ 7 := by omega
  have h8 : k ≠ 8 := by omega
  have h9 : k ≠ 9 := by omega
  have h10 : k ≠ 10 := by omega
  have h11 : k ≠ 11 := by omega
  have h12 : k ≠ 12 := by omega
  have h13 : k ≠ 13 := by omega
  have h14 : k ≠ 14 := by omega
  have h15 : k ≠ 15 := by omega
  clear h
  go_enter Tryd.func34, Tryd.ntmps34
  go_wp2_with fail
  go_ret
  exact ⟨rfl, rfl⟩
theorem kinds {k : Int} (h : ¬ (k < 1 ∨ 15 < k)) : k = 1 ∨ k = 2 ∨ k = 3 ∨ k = 4 ∨ k = 5 ∨ k = 6 ∨ k = 7 ∨ k = 8 ∨ k = 9 ∨ k = 10 ∨ k = 11 ∨ k = 12 ∨ k = 13 ∨ k = 14 ∨ k = 15 := by omega
theorem args_any (w : World) (k : Int) : ArgsSay w k := by
  by_cases h : k < 1 ∨ 15 < k
  · exact args_other w k h
  · rcases kinds h with rfl | rfl | rfl | rfl | rfl | rfl | rfl | rfl | rfl | rfl | rfl | rfl | rfl | rfl | rfl
    · exact args_1 w
    · exact args_2 w
    · exact args_3 w
    · exact args_4 w
    · exact args_5 w
    · exact args_6 w
    · exact args_7 w
    · exact args_8 w
    · exact args_9 w
    · exact args_10 w
    · exact args_11 w
    · exact args_12 w
    · exact args_13 w
    · exact args_14 w
    · exact args_15 w
theorem args_is (w : World) (k v : Int) (h : argsN k = v) : Calls Tryd.prog 34 #[.int .i64 k] w fun e w' => e = .returned (.int .i64 v) ∧ w' = w := by
  subst h; exact args_any w k
end Go.Proofs.YtlgnaopaeapbfaaDoor
