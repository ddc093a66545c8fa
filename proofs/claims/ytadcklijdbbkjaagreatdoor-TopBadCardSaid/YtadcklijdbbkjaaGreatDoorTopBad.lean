/- Walk of grafterytop.TopBad: true of every input. -/
import Derived.Test.YtadcklijdbbkjaaGreatDoorScript
import Derived.Test.YtadcklijdbbkjaaGreatDoorExAll
import Derived.Test.YtadcklijdbbkjaaGreatDoorRun
namespace Go.Proofs.YtadcklijdbbkjaaGreatDoor
open Go.RowKit Go.ChangeShapes Go.WideShapes Go.Deep
set_option linter.unusedVariables false

theorem make_acts : ∃ mk : Array Value, ∀ w : World, (Instr.makeSlice 23 (.int .i64 201) (.int .i64 201)).run Tryz.prog w = .ok (.slice (some ⟨w.heap.size, 0, none⟩) 201 201) (w.alloc (.cells mk 44)) := by
  obtain ⟨z, hi, h1, h2, h3⟩ := info_parts infoAct
  exact ⟨_, fun w => run_make w 23 44 _ _ Tryz.underlying23 hi h1 .i64 .i64 201 201 (by omega) (by omega) (by rw [h3]; decide) (by omega)⟩
def TopIs (w : World) (e : Ending) (w' : World) : Prop := e = .returned (.bool true) ∧ Below w.heap.size w w'
set_option maxHeartbeats 4000000 in
set_option maxRecDepth 20000 in
theorem topBad_walk {w : World} {A : Option Addr} {len cap : Nat} (hr : RawsN w.heap.size w A len cap) (ht : TabB w.heap.size w) (n : Int) (hn : isI n) :
    Calls Tryz.prog 3 #[.slice A len cap, .int .i64 n] w (TopIs w) := by
  have hX : TextOk w.heap.size := fun w A len cap h1 h2 h3 => text_any (expr_all _) h1 h2 h3
  have KS := Lib.hid (script_any hX hr ht (Nat.le_refl _))
  have KP := Lib.hid (fun w => Picked_any n 40 hn (by omega) (by omega) w)
  obtain ⟨mk, hmk⟩ := make_acts
  obtain ⟨p0, p1⟩ := pk_in n (show (0 : Int) < 40 by omega)
  obtain ⟨p, hp⟩ : ∃ p, pk n 40 = p := ⟨_, rfl⟩
  rw [hp] at p0 p1
  have HP := Lib.hid hp
  have i1 : IntKind.i64.wrap (49 - p) = 49 - p := IntWalk.i64_in _ (by omega)
  have i2 : IntKind.i64.wrap (60001 + p) = 60001 + p := IntWalk.i64_in _ (by omega)
  clear hX hr ht hn hp
  unfold TopIs
  go_enter Tryz.func3, Tryz.ntmps3
  go_wp2_with fail
  refine KS.out.mono ?_
  rintro e w1 ⟨A1, n1, c1, rfl, hb1⟩
  have HB1 := Lib.hid hb1
  clear hb1
  go_wp2_with fail
  refine (KP.out _).mono ?_
  rintro e w1' ⟨rfl, rfl⟩
  rw [HP.out]
  go_wp2_with fail
  refine (run_limit _ _ _ _ (by omega) _).mono ?_
  unfold RunIs noW
  rintro e w2 ⟨rfl, hb2⟩
  have HB2 := Lib.hid (HB1.out.trans (hb2.mono HB1.out.size))
  clear hb2
  go_wp2_with fail
  refine (KP.out _).mono ?_
  rintro e w2' ⟨rfl, rfl⟩
  rw [HP.out]
  go_wp2_with fail
  refine (run_limit _ _ _ _ (by omega) _).mono ?_
  unfold RunIs noW
  rintro e w3 ⟨rfl, hb3⟩
  have HB3 := Lib.hid ((HB2.out.alloc HB2.out.size _).trans (hb3.mono (by simpa using Nat.le_succ_of_le HB2.out.size)))
  clear hb3
  go_wp2_with fail
  refine (run_long _ _).mono ?_
  unfold RunIs noW
  rintro e w4 ⟨rfl, hb4⟩
  have HB4 := Lib.hid (((HB3.out.alloc HB3.out.size _).alloc (by simpa using Nat.le_succ_of_le HB3.out.size) _).trans (hb4.mono (by have := HB3.out.size; simp; omega)))
  clear hb4
  go_wp2_with fail
  refine (ran_none _).mono ?_
  unfold RanIs noW
  rintro e w5 ⟨rfl, hb5⟩
  have HB5 := Lib.hid ((HB4.out.alloc HB4.out.size _).trans (hb5.mono (by simpa using Nat.le_succ_of_le HB4.out.size)))
  clear hb5
  go_wp2_with fail
  go_ret
  exact ⟨rfl, HB5.out.alloc HB5.out.size _⟩
end Go.Proofs.YtadcklijdbbkjaaGreatDoor
