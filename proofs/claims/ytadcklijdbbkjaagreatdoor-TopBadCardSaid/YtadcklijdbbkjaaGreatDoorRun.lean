/- serve.Run: what it refuses at once, and a script of no acts; ran; Picked. -/
import Derived.Test.YtadcklijdbbkjaaGreatDoorBard1
import Derived.Deep.RegionLaw
namespace Go.Proofs.YtadcklijdbbkjaaGreatDoor
open Go.RowKit Go.ChangeShapes Go.WideShapes Go.Deep
set_option linter.unusedVariables false

theorem Picked_any (n many : Int) (hn : isI n) (hm : 0 < many) (hM : many ≤ 9223372036854775807) (w : World) : Calls Tryz.prog 6 #[.int .i64 n, .int .i64 many] w fun e w' => e = .returned (.int .i64 (pk n many)) ∧ w' = w := by
  have PK := Lib.hid (picked_any n many hn hm hM w)
  clear hn hm hM
  go_enter Tryz.func6, Tryz.ntmps6
  go_wp2_with fail
  refine PK.out.mono ?_
  rintro e w1 ⟨rfl, rfl⟩
  go_wp2_with fail
  go_ret
  exact ⟨rfl, rfl⟩

theorem results_tct {fn : Func} {q p u : Tmp} {ty : TypeId} (h : fn.results = #[.tmp q, .cell p ty, .tmp u]) (tmps : Array Value) (P : Program) (w : World) :
    (results fn tmps).run P w =
      ((asAddr (tmps.getD p undef)).run P w).andThen fun a w₁ => ((loadVar ty a).run P w₁).andThen fun v w₂ => .ok (.tuple #[tmps.getD q undef, v, tmps.getD u undef]) w₂ := by
  simp only [results, h]
  simp [Sem.run_bind, Result.andThen]

/-- A world with nothing in it. -/
def noW (n : Int) : Value := .agg #[.slice none 0 0, .slice none 0 0, .slice none 0 0, .slice none 0 0, .int .i64 n]
def RunIs (n c : Int) (w : World) (e : Ending) (w' : World) : Prop := e = .returned (.tuple #[.slice none 0 0, noW n, .int .i64 c]) ∧ Below w.heap.size w w'

set_option maxHeartbeats 4000000 in
set_option maxRecDepth 20000 in
theorem run_limit (n : Int) (A : Option Addr) (len cap : Nat) (hn : n < 50 ∨ 60000 < n) (w : World) : Calls Tryz.prog 5 #[.int .i64 n, .slice A len cap] w (RunIs 0 2 w) := by
  unfold RunIs noW
  rcases hn with hn | hn
  · go_enter Tryz.func5, Tryz.ntmps5
    go_wp2_with fail
    (try simp only [Exit.inBlock, Exit.then])
    refine bodyPost_ret (v := .tuple #[.slice none 0 0, .agg #[.slice none 0 0, .slice none 0 0, .slice none 0 0, .slice none 0 0, .int .i64 0], .int .i64 2]) ?_ rfl ⟨rfl, ?_⟩
    · rw [results_tct rfl]
      go_simp
    · (repeat' (first | exact Below.refl _ _ | refine Below.drew ?_ | refine Below.alloc ?_ (by simp <;> omega) _))
  · have h1 : ¬ n < 50 := by omega
    go_enter Tryz.func5, Tryz.ntmps5
    go_wp2_with fail
    (try simp only [Exit.inBlock, Exit.then])
    refine bodyPost_ret (v := .tuple #[.slice none 0 0, .agg #[.slice none 0 0, .slice none 0 0, .slice none 0 0, .slice none 0 0, .int .i64 0], .int .i64 2]) ?_ rfl ⟨rfl, ?_⟩
    · rw [results_tct rfl]
      go_simp
    · (repeat' (first | exact Below.refl _ _ | refine Below.drew ?_ | refine Below.alloc ?_ (by simp <;> omega) _))

set_option maxHeartbeats 4000000 in
set_option maxRecDepth 20000 in
theorem run_long (A : Option Addr) (w : World) : Calls Tryz.prog 5 #[.int .i64 1000, .slice A 201 201] w (RunIs 0 1 w) := by
  unfold RunIs noW
  go_enter Tryz.func5, Tryz.ntmps5
  go_wp2_with fail
  (try simp only [Exit.inBlock, Exit.then])
  refine bodyPost_ret (v := .tuple #[.slice none 0 0, .agg #[.slice none 0 0, .slice none 0 0, .slice none 0 0, .slice none 0 0, .int .i64 0], .int .i64 1]) ?_ rfl ⟨rfl, ?_⟩
  · rw [results_tct rfl]
    go_simp
  · (repeat' (first | exact Below.refl _ _ | refine Below.drew ?_ | refine Below.alloc ?_ (by simp <;> omega) _))

set_option maxHeartbeats 4000000 in
set_option maxRecDepth 20000 in
theorem run_none (w : World) : Calls Tryz.prog 5 #[.int .i64 1000, .slice none 0 0] w (RunIs 1000 0 w) := by
  unfold RunIs noW
  go_enter Tryz.func5, Tryz.ntmps5
  go_wp2_with fail
  go_loopg [8, 28] 1 (fun g x8 x wr => x8 = .slice none 0 0 ∧ x = .int .i64 0 ∧ wr = (w.alloc (.cells #[.slice none 0 0, .slice none 0 0, .slice none 0 0, .slice none 0 0, .int .i64 0] 33)).alloc (.cells #[.slice none 0 0, .slice none 0 0, .slice none 0 0, .slice none 0 0, .int .i64 1000] 33))
  case atStart => exact ⟨rfl, rfl, rfl⟩
  obtain ⟨rfl, rfl, rfl⟩ := hrel
  go_wp2_with fail
  go_region
  all_goals (try go_wp2)
  all_goals (try simp only [Exit.inBlock, Exit.then])
  all_goals refine bodyPost_ret (v := .tuple #[.slice none 0 0, .agg #[.slice none 0 0, .slice none 0 0, .slice none 0 0, .slice none 0 0, .int .i64 1000], .int .i64 0]) ?_ rfl ⟨rfl, ?_⟩
  all_goals first
    | (rw [results_tct rfl]; go_simp)
    | (repeat' (first | exact Below.refl _ _ | refine Below.drew ?_ | refine Below.alloc ?_ (by simp <;> omega) _))

def RanIs (w : World) (e : Ending) (w' : World) : Prop := e = .returned (.tuple #[.slice none 0 0, noW 1000, .bool true]) ∧ Below w.heap.size w w'
set_option maxHeartbeats 4000000 in
set_option maxRecDepth 20000 in
theorem ran_none (w : World) : Calls Tryz.prog 7 #[.int .i64 1000, .slice none 0 0] w (RanIs w) := by
  unfold RanIs noW
  go_enter Tryz.func7, Tryz.ntmps7
  go_wp2_with fail
  refine (run_none _).mono ?_
  unfold RunIs noW
  rintro e w1 ⟨rfl, hb⟩
  have HB := Lib.hid (show Below w.heap.size w w1 from ((Below.refl w.heap.size w).alloc (Nat.le_refl _) _).trans (hb.mono (by simp)))
  have c0 := (hb.cell (p := ⟨w.heap.size, 0, none⟩) (by simp)).trans (cell_new w _ _ 0)
  have c1 := (hb.cell (p := ⟨w.heap.size, 1, none⟩) (by simp)).trans (cell_new w _ _ 1)
  have c2 := (hb.cell (p := ⟨w.heap.size, 2, none⟩) (by simp)).trans (cell_new w _ _ 2)
  have c3 := (hb.cell (p := ⟨w.heap.size, 3, none⟩) (by simp)).trans (cell_new w _ _ 3)
  have c4 := (hb.cell (p := ⟨w.heap.size, 4, none⟩) (by simp)).trans (cell_new w _ _ 4)
  have f0 := (hb.frozen (p := ⟨w.heap.size, 0, none⟩) (by simp)).trans (frozen_new _ _ _ _)
  have f1 := (hb.frozen (p := ⟨w.heap.size, 1, none⟩) (by simp)).trans (frozen_new _ _ _ _)
  have f2 := (hb.frozen (p := ⟨w.heap.size, 2, none⟩) (by simp)).trans (frozen_new _ _ _ _)
  have f3 := (hb.frozen (p := ⟨w.heap.size, 3, none⟩) (by simp)).trans (frozen_new _ _ _ _)
  have f4 := (hb.frozen (p := ⟨w.heap.size, 4, none⟩) (by simp)).trans (frozen_new _ _ _ _)
  have hlt : w.heap.size < w1.heap.size := Nat.lt_of_lt_of_le (by simp) hb.size
  simp only [List.getElem?_toArray, List.getElem?_cons_zero, List.getElem?_cons_succ] at c0 c1 c2 c3 c4
  clear hb
  go_wp2_with fail
  go_region
  all_goals (try go_wp2)
  all_goals (try simp only [Exit.inBlock, Exit.then])
  all_goals refine bodyPost_ret (v := .tuple #[.slice none 0 0, .agg #[.slice none 0 0, .slice none 0 0, .slice none 0 0, .slice none 0 0, .int .i64 1000], .bool true]) ?_ rfl ⟨rfl, ?_⟩
  case refine_1 => rw [results_tct rfl]; go_simp
  case refine_2 =>
    have h5 := ((((HB.out.setCell (p := ⟨w.heap.size, 0, none⟩) (Nat.le_refl _) (.slice none 0 0)).setCell (p := ⟨w.heap.size, 1, none⟩) (Nat.le_refl _) (.slice none 0 0)).setCell (p := ⟨w.heap.size, 2, none⟩) (Nat.le_refl _) (.slice none 0 0)).setCell (p := ⟨w.heap.size, 3, none⟩) (Nat.le_refl _) (.slice none 0 0)).setCell (p := ⟨w.heap.size, 4, none⟩) (Nat.le_refl _) (.int .i64 1000)
    exact (h5.alloc (by simpa using HB.out.size) _).drew
end Go.Proofs.YtadcklijdbbkjaaGreatDoor
