/- Proved: the tied card of grafterylaw.UnitChecks: it returns true for every environment (unit.Check answers what the reference answers). Conditions: none beyond the given row's own (the two listed maps, tied to the program's text). -/
import Derived.Test.YtlgnaopaeapbfaaDoorEnvFault
import Derived.Test.YtlgnaopaeapbfaaDoorCards
import Derived.Test.YtlgnaopaeapbfaaDoorTie
namespace Go.Proofs.YtlgnaopaeapbfaaDoor
open Go.RowKit Go.ChangeShapes Go.WideShapes Go.Deep Go.ChangeAt
set_option linter.unusedVariables false

theorem readableEnv : Tryd.prog.readableRec 30 = true := by kernel_rfl
theorem rowEnv : 30 < Tryd.prog.types.size := of_decide_eq_true (by kernel_rfl)
theorem cellsEnv : Tryd.prog.cellsOf 30 = 2 := by kernel_rfl
theorem cellsSlShape : Tryd.prog.cellsOf 28 = 1 := by kernel_rfl

theorem Rd.env {H : Type} {enc : TypeId × Value → H} {w : World} {cs : List Value} {d : DataW H} (h : Rd enc w 30 cs d) : ∃ G gl gc gs S sl sc L, cs = [.slice G gl gc, .slice S sl sc] ∧ EnvAt w G gl gc gs S sl sc L := by
  obtain ⟨f, ps, h⟩ := h
  obtain ⟨xs, m, _, hx, hl, hlen, hf⟩ := DataW.trod_struct Tryd.underlying30 h
  rw [cellsEnv] at hl
  match cs, hl, xs, hlen with
  | [c0, c1], _, [y0, y1], _ =>
    have h0 : Rd enc w 22 [c0] y0.1 := ⟨m, y0.2, by simpa [cellsSlString] using hf 0 _ rfl⟩
    have h1 : Rd enc w 28 [c1] y1.1 := ⟨m, y1.2, by simpa [cellsSlShape] using hf 1 _ rfl⟩
    obtain ⟨G, gl, gc, e0, hg⟩ := h0.slAt Tryd.underlying22 cellsString (by decide)
    obtain ⟨S, sl, sc, e1, hs⟩ := h1.slAt Tryd.underlying28 cellsShape (by decide)
    simp only [List.cons.injEq, and_true] at e0 e1
    subst e0 e1
    obtain ⟨gs, hgs, hev⟩ := slAt_strs hg
    obtain ⟨L, hL⟩ := slAt_shapes hs
    exact ⟨G, gl, gc, gs, S, sl, sc, L, rfl, hgs, hev, hg.le, hg.wide, hL, hs.le, hs.wide⟩

set_option maxHeartbeats 400000 in
theorem unitChecks_walk (w : World) (G S : Option Addr) (gl gc sl sc : Nat) (gs : List ByteArray) (L : List Shp) (hE : EnvAt w G gl gc gs S sl sc L) (hm : UMaps w) :
    Calls Tryd.prog 4 #[.agg #[.slice G gl gc, .slice S sl sc]] w fun e w' => e = .returned (.bool true) ∧ Below w.heap.size w w' := by
  have hw0 : Below w.heap.size w (w.alloc (.cells #[.slice G gl gc, .slice S sl sc] 30)) := (Below.refl _ _).alloc (Nat.le_refl _) _
  have HW0 := Lib.hid hw0
  have HE := Lib.hid hE
  have HM := Lib.hid hm
  clear hE hm hw0
  go_enter Tryd.func4, Tryd.ntmps4
  go_wp2_with fail
  refine (envCheck_any _ G S gl gc sl sc gs L (HE.out.below HW0.out) (HM.out.below HW0.out)).mono ?_
  rintro e w1 ⟨rfl, hb1⟩
  have c0 : w1.cell? ⟨w.heap.size, 0, none⟩ = some (.slice G gl gc) := box_cell hb1 rfl
  have c1 : w1.cell? ⟨w.heap.size, 1, none⟩ = some (.slice S sl sc) := box_cell hb1 rfl
  have HB := Lib.hid (HW0.out.trans (hb1.mono (by simp)))
  clear hb1
  go_wp2_with fail
  refine (envFault_any _ G S gl gc sl sc gs L (HE.out.below HB.out)).mono ?_
  rintro e w2 ⟨rfl, hb2⟩
  have HB2 := Lib.hid (HB.out.trans (hb2.mono HB.out.size))
  clear hb2
  generalize envF gs L = f
  go_wp2_with fail
  go_ret
  exact ⟨ret_bool (by simp), HB2.out⟩

namespace unitChecks
theorem own : ownKnob Tryd.prog.godebug = none := by kernel_rfl

theorem maps {W : World} (h : laidMetH Tryd.prog Rows.unitChecksRow.laid W) : UMaps W := by
  rw [MakeChecks.laidMetH_plain _ _ _ (by kernel_rfl)] at h
  obtain ⟨ps, ⟨g0, t0, cs0, f0, p0, q0, hg0, ht0, hv0, hd0, ⟨g1, t1, cs1, f1, p1, q1, hg1, ht1, hv1, hd1, _, _⟩, _⟩, _, _⟩ := h
  exact ⟨kw_of hg0 ht0 hv0 hd0, ar_of (by kernel_rfl) (by kernel_rfl) hg1 ht1 hv1 hd1⟩

theorem contract (H : Type) (enc : TypeId × Value → H) (W : World) (base : Nat) (args : Array Value) (ds gs : List (DataW H)) (before : List MemPlace)
    (hval : ∀ (j : Nat) t v, Tryd.f4.params[j]? = some t → args[j]? = some v → Value.okWide Tryd.prog W .any base t v)
    (hW : DataW.Whole enc Tryd.prog Tryd.f4.params.toList Rows.unitChecksSpec.vars false W args.toList ds gs before) (hL : laidMetH Tryd.prog Rows.unitChecksRow.laid W) :
    Calls Tryd.prog 4 args W fun e W' => ∃ v, e = .returned v ∧ Rows.unitChecksSpec.post enc Tryd.prog Tryd.f4 false true false false W args v W' := by
  have hW' := hW
  obtain ⟨p, q, hA0, hV, rfl, hfz, hnd⟩ := hW
  have hA : DataW.TrodAll enc Tryd.prog W 0 (fun _ => true) true Tryd.f4.params.toList args.toList ds p := hA0
  rw [Tryd.params4] at hA hval
  obtain ⟨v0, vs0, d0, ds0, p0, q0, hargs, rfl, rfl, h0, r0⟩ := trodAll_cons hA
  obtain ⟨rfl, rfl, rfl⟩ := trodAll_nil r0
  obtain rfl : args = #[v0] := by cases args; simp_all
  obtain ⟨rfl, rfl⟩ := trodVars_none hV
  obtain ⟨cs, rfl, hsz⟩ := okWide_struct Tryd.underlying30 (hval 0 _ _ rfl rfl)
  obtain ⟨fu, h0⟩ := h0
  obtain ⟨G, gl, gc, gs, S, sl, sc, L, hce, hE⟩ := Rd.env (enc := enc) (cs := cs.toList) (d := d0) ⟨fu, _, h0⟩
  have hcs : cs = #[.slice G gl gc, .slice S sl sc] := by
    obtain ⟨l⟩ := cs
    exact congrArg List.toArray hce
  rw [hcs] at hW' ⊢
  refine (unitChecks_walk W G S gl gc sl sc gs L hE (maps hL)).mono fun e W' ⟨he, hb⟩ => ⟨_, he, ?_⟩
  refine law_post (by kernel_rfl) rfl ⟨rfl, rfl, rfl⟩ ?_ hW' hb
  intro t ht
  rw [Tryd.params4] at ht
  simp at ht
  subst ht
  exact ⟨readableEnv, rowEnv⟩

/-- The door's own heap meets the condition. -/
theorem door_met (os : Os) (args : Array Value) : laidMetH Tryd.prog Rows.unitChecksRow.laid ((World.doorLaid Tryd.prog 224 os).forCall (fun _ _ => 0) ⟨#[], args, []⟩).memory :=
  laidMetH_of_parts3 (fuel := 8) (laidMet_of_run' 8 (by kernel_rfl) (by kernel_rfl)) (by kernel_rfl) (by kernel_rfl)

set_option maxRecDepth 100000 in
theorem lifted (os : Os) (started : os.Started) (H : Type) (enc : TypeId × Value → H) :
    ReturnsInHanded {} Tryd.checked os 4 .any (fun w args => (Rows.unitChecksSpec.pre enc Tryd.prog Tryd.f4 [] false w args ∧ laidMetH Tryd.prog Rows.unitChecksRow.laid w) ∧ sizedMet enc Tryd.prog Tryd.f4 (OpenSpec.ofChange Rows.unitChecksSpec) false w args)
      (Rows.unitChecksSpec.post enc Tryd.prog Tryd.f4 false true false false) := by
  refine returnsInHanded_of_change_and (C := Tryd.checked) (X := fun w _ => laidMetH Tryd.prog Rows.unitChecksRow.laid w) (fun _ _ _ hh h => h.of_heap hh) own started (by kernel_rfl) Tryd.func4
    (ChangeSpec.witness_shaped (enc := enc) (C := Tryd.checked) (os := os) (X := fun w _ => laidMetH Tryd.prog Rows.unitChecksRow.laid w) false (World.doorLaid Tryd.prog 224 os) #[.agg #[.slice none 0 0, .slice none 0 0]] 8 rfl (World.shaped_of_RefB (by kernel_rfl) (by kernel_rfl)) (by kernel_rfl) (by kernel_rfl) (by kernel_rfl) (door_met os _)) ?_
  intro W base args ds gs before hval hW _ _ hL _
  exact contract H enc W base args ds gs before hval hW hL

theorem said : Rows.UnitChecksSaid :=
  OpenClaim.holds_of_wide 4 Tryd.f4 rfl rfl rfl rfl rfl rfl rfl ⟨rfl, rfl, rfl, rfl, rfl⟩ rfl rfl rfl rfl rfl (by kernel_rfl) Tryd.func4 (by kernel_rfl)
    (of_decide_eq_true (by kernel_rfl)) (by unfold Func.isWrapper; first | (rw [if_pos (by decide +kernel)]; kernel_rfl) | (rw [if_neg (by decide +kernel)]; exact ⟨rfl, rfl⟩))
    (fun os started H enc _ => lifted os started H enc)

theorem plain (f : FuncId) (fn : Func) (hf : Tryd.pinned.checked.prog.funcNamed "graftery/grafterylaw.UnitChecks" = some f) (hfn : Tryd.pinned.checked.prog.funcs[f]? = some fn) :
    false = Tryd.pinned.checked.prog.looks [] ∧ ∀ (j : Nat) t, fn.params[j]? = some t → Tryd.pinned.checked.prog.wantsStandIn t = false := by
  obtain rfl : f = 4 := Option.some.inj ((show Tryd.prog.funcNamed "graftery/grafterylaw.UnitChecks" = some 4 by kernel_rfl).symm.trans hf) |>.symm
  obtain rfl : fn = Tryd.f4 := (Option.some.inj (Tryd.func4.symm.trans hfn)).symm
  refine ⟨by kernel_rfl, fun j t ht => ?_⟩
  rw [Tryd.params4] at ht
  obtain rfl : t = 30 := by simpa using Array.mem_of_getElem? ht
  exact (show Tryd.prog.wantsStandIn 30 = false by kernel_rfl)
end unitChecks

/-- The card. -/
theorem unitChecks_card : Rows.UnitChecksCardSaid :=
  Claim7.holds_tied_plain_at .later [] _ _ _ _ unitChecks.said (fun _ h => by cases h) (by kernel_rfl) (fun _ h => by cases h) unitChecks_row_tie rfl ⟨rfl, rfl⟩ (by kernel_rfl) rfl unitChecks.plain (by kernel_rfl)
end Go.Proofs.YtlgnaopaeapbfaaDoor
