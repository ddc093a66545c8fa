/- Proved: the tied card of grafterylaw.CodeMoveChecks: it returns true for every expression and every number of old fields (code.CheckMove answers what the reference answers). Conditions: none beyond the given row's own (the three listed maps, tied to the program's text). -/
import Derived.Test.YtlgnaopaeapbfaaDoorXfAny
import Derived.Test.YtlgnaopaeapbfaaDoorCards
import Derived.Test.YtlgnaopaeapbfaaDoorTie
namespace Go.Proofs.YtlgnaopaeapbfaaDoor
open Go.RowKit Go.ChangeShapes Go.WideShapes Go.Deep Go.ChangeAt
set_option linter.unusedVariables false

section
variable {H : Type} {enc : TypeId × Value → H}
set_option maxHeartbeats 400000 in
theorem codeMoveChecks_walk {n : Nat} {w : World} {cs : List Value} {x : Tr n} (hx : ExAt enc w n cs x) (hm : CMaps w) (olds : Int) (ho : -9223372036854775808 ≤ olds ∧ olds ≤ 9223372036854775807) :
    Calls Tryd.prog 6 #[.agg cs.toArray, .int .i64 olds] w fun e w' => e = .returned (.bool true) ∧ Below w.heap.size w w' := by
  obtain ⟨k, dk, dn, ds, dA, dl, dc, S, N, An, nl, nc, Aa, al, ac, rfl⟩ := hx.cells
  have hw0 : Below w.heap.size w (w.alloc (.cells #[.int .i64 k, .int .i64 dk, .int .i64 dn, .string ds, .slice dA dl dc, .string S, .int .i64 N, .slice An nl nc, .slice Aa al ac] 38)) := (Below.refl _ _).alloc (Nat.le_refl _) _
  have HW0 := Lib.hid hw0
  have HX := Lib.hid hx
  have HM := Lib.hid hm
  clear hx hm hw0
  obtain ⟨f, hf⟩ : ∃ f, (if olds < 0 ∨ 6 < olds then 2 else exprF n x [] olds) = f := ⟨_, rfl⟩
  have HF := Lib.hid hf
  clear hf
  go_enter Tryd.func6, Tryd.ntmps6
  go_wp2_with fail
  refine (codeCheckMove_any (HX.out.below HW0.out) (HM.out.below HW0.out) olds ho).mono ?_
  rintro e w1 ⟨rfl, hb1⟩
  rw [HF.out]
  have c0 : w1.cell? ⟨w.heap.size, 0, none⟩ = some (.int .i64 k) := box_cell hb1 rfl
  have c1 : w1.cell? ⟨w.heap.size, 1, none⟩ = some (.int .i64 dk) := box_cell hb1 rfl
  have c2 : w1.cell? ⟨w.heap.size, 2, none⟩ = some (.int .i64 dn) := box_cell hb1 rfl
  have c3 : w1.cell? ⟨w.heap.size, 3, none⟩ = some (.string ds) := box_cell hb1 rfl
  have c4 : w1.cell? ⟨w.heap.size, 4, none⟩ = some (.slice dA dl dc) := box_cell hb1 rfl
  have c5 : w1.cell? ⟨w.heap.size, 5, none⟩ = some (.string S) := box_cell hb1 rfl
  have c6 : w1.cell? ⟨w.heap.size, 6, none⟩ = some (.int .i64 N) := box_cell hb1 rfl
  have c7 : w1.cell? ⟨w.heap.size, 7, none⟩ = some (.slice An nl nc) := box_cell hb1 rfl
  have c8 : w1.cell? ⟨w.heap.size, 8, none⟩ = some (.slice Aa al ac) := box_cell hb1 rfl
  have HB := Lib.hid (HW0.out.trans (hb1.mono (by simp)))
  clear hb1
  go_wp2_with fail
  refine (moveFault_any (HX.out.below HB.out) olds).mono ?_
  rintro e w2 ⟨rfl, hb2⟩
  have HB2 := Lib.hid (HB.out.trans (hb2.mono HB.out.size))
  clear hb2
  rw [HF.out]
  go_wp2_with fail
  go_ret
  exact ⟨ret_bool (by simp), HB2.out⟩
end

namespace codeMoveChecks
theorem own : ownKnob Tryd.prog.godebug = none := by kernel_rfl

theorem maps {W : World} (h : laidMetH Tryd.prog Rows.codeMoveChecksRow.laid W) : CMaps W := by
  rw [MakeChecks.laidMetH_plain _ _ _ (by kernel_rfl)] at h
  obtain ⟨ps, ⟨g0, t0, cs0, f0, p0, q0, hg0, ht0, hv0, hd0, ⟨g1, t1, cs1, f1, p1, q1, hg1, ht1, hv1, hd1, ⟨g2, t2, cs2, f2, p2, q2, hg2, ht2, hv2, hd2, _, _⟩, _⟩, _⟩, _, _⟩ := h
  exact ⟨⟨kw_of hg0 ht0 hv0 hd0, ar_of (by kernel_rfl) (by kernel_rfl) hg1 ht1 hv1 hd1⟩, ar_of (by kernel_rfl) (by kernel_rfl) hg2 ht2 hv2 hd2⟩

theorem contract (H : Type) (enc : TypeId × Value → H) (W : World) (base : Nat) (args : Array Value) (ds gs : List (DataW H)) (before : List MemPlace)
    (hval : ∀ (j : Nat) t v, Tryd.f6.params[j]? = some t → args[j]? = some v → Value.okWide Tryd.prog W .any base t v)
    (hW : DataW.Whole enc Tryd.prog Tryd.f6.params.toList Rows.codeMoveChecksSpec.vars false W args.toList ds gs before) (hL : laidMetH Tryd.prog Rows.codeMoveChecksRow.laid W) :
    Calls Tryd.prog 6 args W fun e W' => ∃ v, e = .returned v ∧ Rows.codeMoveChecksSpec.post enc Tryd.prog Tryd.f6 false true false false W args v W' := by
  have hW' := hW
  obtain ⟨p, q, hA0, hV, rfl, hfz, hnd⟩ := hW
  have hA : DataW.TrodAll enc Tryd.prog W 0 (fun _ => true) true Tryd.f6.params.toList args.toList ds p := hA0
  rw [Tryd.params6] at hA hval
  obtain ⟨v0, vs0, d0, ds0, p0, q0, hargs, rfl, rfl, h0, r0⟩ := trodAll_cons hA
  obtain ⟨v1, vs1, d1, ds1, p1, q1, rfl, rfl, rfl, h1, r1⟩ := trodAll_cons r0
  obtain ⟨rfl, rfl, rfl⟩ := trodAll_nil r1
  obtain rfl : args = #[v0, v1] := by cases args; simp_all
  obtain ⟨rfl, rfl⟩ := trodVars_none hV
  obtain ⟨cs, rfl, hsz⟩ := okWide_struct Tryd.underlying38 (hval 0 _ _ rfl rfl)
  obtain ⟨fu, h0⟩ := h0
  obtain ⟨fu1, h1⟩ := h1
  obtain ⟨olds, e1, _, ho1, ho2⟩ := Rd.int (enc := enc) (w := W) (cs := v1.cells.toList) (d := d1) Tryd.underlying3 ⟨fu1, _, h1⟩
  obtain ⟨ov, rfl⟩ : ∃ ov, v1 = .int .i64 ov := okWide_int Tryd.underlying3 (hval 1 _ _ rfl rfl)
  obtain rfl : ov = olds := by simpa [Value.cells] using e1
  obtain ⟨x, hx⟩ := Rd.expr (enc := enc) (w := W) _ (Nat.le_refl _) ⟨fu, _, h0⟩
  refine (codeMoveChecks_walk hx (maps hL) ov ⟨ho1, ho2⟩).mono fun e W' ⟨he, hb⟩ => ⟨_, he, ?_⟩
  refine law_post (by kernel_rfl) rfl ⟨rfl, rfl, rfl⟩ ?_ hW' hb
  intro t ht
  rw [Tryd.params6] at ht
  simp at ht
  rcases ht with rfl | rfl
  · exact ⟨readableExpr, rowExpr⟩
  · exact ⟨by kernel_rfl, of_decide_eq_true (by kernel_rfl)⟩

/-- The door's own heap meets the condition. -/
theorem door_met (os : Os) (args : Array Value) : laidMetH Tryd.prog Rows.codeMoveChecksRow.laid ((World.doorLaid Tryd.prog 224 os).forCall (fun _ _ => 0) ⟨#[], args, []⟩).memory :=
  laidMetH_of_parts3 (fuel := 8) (laidMet_of_run' 8 (by kernel_rfl) (by kernel_rfl)) (by kernel_rfl) (by kernel_rfl)

set_option maxRecDepth 100000 in
theorem lifted (os : Os) (started : os.Started) (H : Type) (enc : TypeId × Value → H) :
    ReturnsInHanded {} Tryd.checked os 6 .any (fun w args => (Rows.codeMoveChecksSpec.pre enc Tryd.prog Tryd.f6 [] false w args ∧ laidMetH Tryd.prog Rows.codeMoveChecksRow.laid w) ∧ sizedMet enc Tryd.prog Tryd.f6 (OpenSpec.ofChange Rows.codeMoveChecksSpec) false w args)
      (Rows.codeMoveChecksSpec.post enc Tryd.prog Tryd.f6 false true false false) := by
  refine returnsInHanded_of_change_and (C := Tryd.checked) (X := fun w _ => laidMetH Tryd.prog Rows.codeMoveChecksRow.laid w) (fun _ _ _ hh h => h.of_heap hh) own started (by kernel_rfl) Tryd.func6
    (ChangeSpec.witness_shaped (enc := enc) (C := Tryd.checked) (os := os) (X := fun w _ => laidMetH Tryd.prog Rows.codeMoveChecksRow.laid w) false (World.doorLaid Tryd.prog 224 os) #[.agg #[.int .i64 0, .int .i64 0, .int .i64 0, .string ByteArray.empty, .slice none 0 0, .string ByteArray.empty, .int .i64 0, .slice none 0 0, .slice none 0 0], .int .i64 0] 8 rfl (World.shaped_of_RefB (by kernel_rfl) (by kernel_rfl)) (by kernel_rfl) (by kernel_rfl) (by kernel_rfl) (door_met os _)) ?_
  intro W base args ds gs before hval hW _ _ hL _
  exact contract H enc W base args ds gs before hval hW hL

theorem said : Rows.CodeMoveChecksSaid :=
  OpenClaim.holds_of_wide 6 Tryd.f6 rfl rfl rfl rfl rfl rfl rfl ⟨rfl, rfl, rfl, rfl, rfl⟩ rfl rfl rfl rfl rfl (by kernel_rfl) Tryd.func6 (by kernel_rfl)
    (of_decide_eq_true (by kernel_rfl)) (by unfold Func.isWrapper; first | (rw [if_pos (by decide +kernel)]; kernel_rfl) | (rw [if_neg (by decide +kernel)]; exact ⟨rfl, rfl⟩))
    (fun os started H enc _ => lifted os started H enc)

theorem plain (f : FuncId) (fn : Func) (hf : Tryd.pinned.checked.prog.funcNamed "graftery/grafterylaw.CodeMoveChecks" = some f) (hfn : Tryd.pinned.checked.prog.funcs[f]? = some fn) :
    false = Tryd.pinned.checked.prog.looks [] ∧ ∀ (j : Nat) t, fn.params[j]? = some t → Tryd.pinned.checked.prog.wantsStandIn t = false := by
  obtain rfl : f = 6 := Option.some.inj ((show Tryd.prog.funcNamed "graftery/grafterylaw.CodeMoveChecks" = some 6 by kernel_rfl).symm.trans hf) |>.symm
  obtain rfl : fn = Tryd.f6 := (Option.some.inj (Tryd.func6.symm.trans hfn)).symm
  refine ⟨by kernel_rfl, fun j t ht => ?_⟩
  rw [Tryd.params6] at ht
  have ht2 : t = 38 ∨ t = 3 := by simpa using Array.mem_of_getElem? ht
  rcases ht2 with rfl | rfl
  · exact (show Tryd.prog.wantsStandIn 38 = false by kernel_rfl)
  · exact (show Tryd.prog.wantsStandIn 3 = false by kernel_rfl)
end codeMoveChecks

/-- The card. -/
theorem codeMoveChecks_card : Rows.CodeMoveChecksCardSaid :=
  Claim7.holds_tied_plain_at .later [] _ _ _ _ codeMoveChecks.said (fun _ h => by cases h) (by kernel_rfl) (fun _ h => by cases h) codeMoveChecks_row_tie rfl ⟨rfl, rfl⟩ (by kernel_rfl) rfl codeMoveChecks.plain (by kernel_rfl)
end Go.Proofs.YtlgnaopaeapbfaaDoor
