/- Proved: the tied card of grafterylaw.UnitShapes: it returns true for every shape (unit.CheckShape answers what the reference answers). Conditions: none beyond the given row's own (the two listed maps, tied to the program's text). -/
import Derived.Test.YtlgnaopaeapbfaaDoorShape
import Derived.Test.YtlgnaopaeapbfaaDoorCards
import Derived.Test.YtlgnaopaeapbfaaDoorTie
namespace Go.Proofs.YtlgnaopaeapbfaaDoor
open Go.RowKit Go.ChangeShapes Go.WideShapes Go.Deep Go.ChangeAt
set_option linter.unusedVariables false

set_option maxHeartbeats 400000 in
theorem unitShapes_walk (w : World) (name : ByteArray) (A : Option Addr) (len cap : Nat) (ss : List ByteArray) (hA : ShapeAt w [.string name, .slice A len cap] name A len cap ss) (hm : UMaps w) :
    Calls Tryd.prog 3 #[.agg #[.string name, .slice A len cap]] w fun e w' => e = .returned (.bool true) ∧ Below w.heap.size w w' := by
  have hw0 : Below w.heap.size w (w.alloc (.cells #[.string name, .slice A len cap] 24)) := (Below.refl _ _).alloc (Nat.le_refl _) _
  have HW0 := Lib.hid hw0
  have HA := Lib.hid hA
  have HM := Lib.hid hm
  clear hA hm hw0
  go_enter Tryd.func3, Tryd.ntmps3
  go_wp2_with fail
  refine (checkShape_any _ name A len cap ss (HA.out.below HW0.out) (HM.out.below HW0.out)).mono ?_
  rintro e w1 ⟨rfl, hb1⟩
  have c0 : w1.cell? ⟨w.heap.size, 0, none⟩ = some (.string name) := box_cell hb1 rfl
  have c1 : w1.cell? ⟨w.heap.size, 1, none⟩ = some (.slice A len cap) := box_cell hb1 rfl
  have HB := Lib.hid (HW0.out.trans (hb1.mono (by simp)))
  clear hb1
  go_wp2_with fail
  refine (shapeFault_any _ name A len cap ss (HA.out.below HB.out)).mono ?_
  rintro e w2 ⟨rfl, hb2⟩
  have HB2 := Lib.hid (HB.out.trans (hb2.mono HB.out.size))
  clear hb2
  generalize shapeF name ss = f
  go_wp2_with fail
  go_ret
  exact ⟨ret_bool (by simp), HB2.out⟩

namespace unitShapes
theorem own : ownKnob Tryd.prog.godebug = none := by kernel_rfl

theorem maps {W : World} (h : laidMetH Tryd.prog Rows.unitShapesRow.laid W) : UMaps W := by
  rw [MakeChecks.laidMetH_plain _ _ _ (by kernel_rfl)] at h
  obtain ⟨ps, ⟨g0, t0, cs0, f0, p0, q0, hg0, ht0, hv0, hd0, ⟨g1, t1, cs1, f1, p1, q1, hg1, ht1, hv1, hd1, _, _⟩, _⟩, _, _⟩ := h
  exact ⟨kw_of hg0 ht0 hv0 hd0, ar_of (by kernel_rfl) (by kernel_rfl) hg1 ht1 hv1 hd1⟩

theorem contract (H : Type) (enc : TypeId × Value → H) (W : World) (base : Nat) (args : Array Value) (ds gs : List (DataW H)) (before : List MemPlace)
    (hval : ∀ (j : Nat) t v, Tryd.f3.params[j]? = some t → args[j]? = some v → Value.okWide Tryd.prog W .any base t v)
    (hW : DataW.Whole enc Tryd.prog Tryd.f3.params.toList Rows.unitShapesSpec.vars false W args.toList ds gs before) (hL : laidMetH Tryd.prog Rows.unitShapesRow.laid W) :
    Calls Tryd.prog 3 args W fun e W' => ∃ v, e = .returned v ∧ Rows.unitShapesSpec.post enc Tryd.prog Tryd.f3 false true false false W args v W' := by
  have hW' := hW
  obtain ⟨p, q, hA0, hV, rfl, hfz, hnd⟩ := hW
  have hA : DataW.TrodAll enc Tryd.prog W 0 (fun _ => true) true Tryd.f3.params.toList args.toList ds p := hA0
  rw [Tryd.params3] at hA hval
  obtain ⟨v0, vs0, d0, ds0, p0, q0, hargs, rfl, rfl, h0, r0⟩ := trodAll_cons hA
  obtain ⟨rfl, rfl, rfl⟩ := trodAll_nil r0
  obtain rfl : args = #[v0] := by cases args; simp_all
  obtain ⟨rfl, rfl⟩ := trodVars_none hV
  obtain ⟨cs, rfl, hsz⟩ := okWide_struct Tryd.underlying24 (hval 0 _ _ rfl rfl)
  obtain ⟨fu, h0⟩ := h0
  obtain ⟨name, A, len, cap, ss, hS⟩ := Rd.shape (enc := enc) (cs := cs.toList) (d := d0) ⟨fu, _, h0⟩
  have hcs : cs = #[.string name, .slice A len cap] := by
    have := hS.cells
    obtain ⟨l⟩ := cs
    exact congrArg List.toArray this
  have hS' : ShapeAt W [.string name, .slice A len cap] name A len cap ss := ⟨rfl, hS.wide, hS.strs, hS.each, hS.le, hS.cap_⟩
  rw [hcs] at hW' ⊢
  refine (unitShapes_walk W name A len cap ss hS' (maps hL)).mono fun e W' ⟨he, hb⟩ => ⟨_, he, ?_⟩
  refine law_post (by kernel_rfl) rfl ⟨rfl, rfl, rfl⟩ ?_ hW' hb
  intro t ht
  rw [Tryd.params3] at ht
  simp at ht
  subst ht
  exact ⟨readableShape, rowShape⟩

/-- The door's own heap meets the condition. -/
theorem door_met (os : Os) (args : Array Value) : laidMetH Tryd.prog Rows.unitShapesRow.laid ((World.doorLaid Tryd.prog 224 os).forCall (fun _ _ => 0) ⟨#[], args, []⟩).memory :=
  laidMetH_of_parts3 (fuel := 8) (laidMet_of_run' 8 (by kernel_rfl) (by kernel_rfl)) (by kernel_rfl) (by kernel_rfl)

set_option maxRecDepth 100000 in
theorem lifted (os : Os) (started : os.Started) (H : Type) (enc : TypeId × Value → H) :
    ReturnsInHanded {} Tryd.checked os 3 .any (fun w args => (Rows.unitShapesSpec.pre enc Tryd.prog Tryd.f3 [] false w args ∧ laidMetH Tryd.prog Rows.unitShapesRow.laid w) ∧ sizedMet enc Tryd.prog Tryd.f3 (OpenSpec.ofChange Rows.unitShapesSpec) false w args)
      (Rows.unitShapesSpec.post enc Tryd.prog Tryd.f3 false true false false) := by
  refine returnsInHanded_of_change_and (C := Tryd.checked) (X := fun w _ => laidMetH Tryd.prog Rows.unitShapesRow.laid w) (fun _ _ _ hh h => h.of_heap hh) own started (by kernel_rfl) Tryd.func3
    (ChangeSpec.witness_shaped (enc := enc) (C := Tryd.checked) (os := os) (X := fun w _ => laidMetH Tryd.prog Rows.unitShapesRow.laid w) false (World.doorLaid Tryd.prog 224 os) #[.agg #[.string ByteArray.empty, .slice none 0 0]] 8 rfl (World.shaped_of_RefB (by kernel_rfl) (by kernel_rfl)) (by kernel_rfl) (by kernel_rfl) (by kernel_rfl) (door_met os _)) ?_
  intro W base args ds gs before hval hW _ _ hL _
  exact contract H enc W base args ds gs before hval hW hL

theorem said : Rows.UnitShapesSaid :=
  OpenClaim.holds_of_wide 3 Tryd.f3 rfl rfl rfl rfl rfl rfl rfl ⟨rfl, rfl, rfl, rfl, rfl⟩ rfl rfl rfl rfl rfl (by kernel_rfl) Tryd.func3 (by kernel_rfl)
    (of_decide_eq_true (by kernel_rfl)) (by unfold Func.isWrapper; first | (rw [if_pos (by decide +kernel)]; kernel_rfl) | (rw [if_neg (by decide +kernel)]; exact ⟨rfl, rfl⟩))
    (fun os started H enc _ => lifted os started H enc)

theorem plain (f : FuncId) (fn : Func) (hf : Tryd.pinned.checked.prog.funcNamed "graftery/grafterylaw.UnitShapes" = some f) (hfn : Tryd.pinned.checked.prog.funcs[f]? = some fn) :
    false = Tryd.pinned.checked.prog.looks [] ∧ ∀ (j : Nat) t, fn.params[j]? = some t → Tryd.pinned.checked.prog.wantsStandIn t = false := by
  obtain rfl : f = 3 := Option.some.inj ((show Tryd.prog.funcNamed "graftery/grafterylaw.UnitShapes" = some 3 by kernel_rfl).symm.trans hf) |>.symm
  obtain rfl : fn = Tryd.f3 := (Option.some.inj (Tryd.func3.symm.trans hfn)).symm
  refine ⟨by kernel_rfl, fun j t ht => ?_⟩
  rw [Tryd.params3] at ht
  obtain rfl : t = 24 := by simpa using Array.mem_of_getElem? ht
  exact (show Tryd.prog.wantsStandIn 24 = false by kernel_rfl)
end unitShapes

/-- The card. -/
theorem unitShapes_card : Rows.UnitShapesCardSaid :=
  Claim7.holds_tied_plain_at .later [] _ _ _ _ unitShapes.said (fun _ h => by cases h) (by kernel_rfl) (fun _ h => by cases h) unitShapes_row_tie rfl ⟨rfl, rfl⟩ (by kernel_rfl) rfl unitShapes.plain (by kernel_rfl)
end Go.Proofs.YtlgnaopaeapbfaaDoor
