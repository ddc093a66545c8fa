/- Proved: the tied card of grafterytop.TopBad: it returns true for every input (a heap that is too small, or too great, is refused, and a script that is too long). Conditions: none beyond the given row's own (the listed variables, tied to the program's text, over the seat's pruned copy). -/
import Derived.Test.YtadcklijdbbkjaaGreatDoorTopBad
import Derived.Test.YtadcklijdbbkjaaGreatDoorLaw
import Derived.Test.YtadcklijdbbkjaaGreatDoorCards
import Derived.Test.YtadcklijdbbkjaaGreatDoorTie
import Derived.Deep.DeepHandedRow
import Derived.Deep.DeepWitnessRowRef
import Derived.LaidMore
import Derived.LaidLaws
namespace Go.Proofs.YtadcklijdbbkjaaGreatDoor
open Go.RowKit Go.ChangeShapes Go.WideShapes Go.Deep
set_option linter.unusedVariables false
set_option maxRecDepth 100000

section
variable {H : Type} {enc : TypeId × Value → H}
theorem cellsRaw : Tryz.prog.cellsOf 46 = 4 := by kernel_rfl
theorem cellsInt : Tryz.prog.cellsOf 3 = 1 := by kernel_rfl
theorem Rd.raw {w : World} {cs : List Value} {d : DataW H} (h : Rd enc w 46 cs d) :
    ∃ k a b c : Int, cs = [.int .i64 k, .int .i64 a, .int .i64 b, .int .i64 c] ∧ isI k ∧ isI a ∧ isI b ∧ isI c := by
  obtain ⟨f, ps, h⟩ := h
  obtain ⟨xs, m, _, hx, hl, hlen, hf⟩ := DataW.trod_struct Tryz.underlying46 h
  rw [cellsRaw] at hl
  match cs, hl, xs, hlen with
  | [c0, c1, c2, c3], _, [y0, y1, y2, y3], _ =>
    have h0 : Rd enc w 3 [c0] y0.1 := ⟨m, y0.2, by simpa [cellsInt] using hf 0 _ rfl⟩
    have h1 : Rd enc w 3 [c1] y1.1 := ⟨m, y1.2, by simpa [cellsInt] using hf 1 _ rfl⟩
    have h2 : Rd enc w 3 [c2] y2.1 := ⟨m, y2.2, by simpa [cellsInt] using hf 2 _ rfl⟩
    have h3 : Rd enc w 3 [c3] y3.1 := ⟨m, y3.2, by simpa [cellsInt] using hf 3 _ rfl⟩
    obtain ⟨k, e0, _, k1, k2⟩ := h0.int Tryz.underlying3
    obtain ⟨a, e1, _, a1, a2⟩ := h1.int Tryz.underlying3
    obtain ⟨b, e2, _, b1, b2⟩ := h2.int Tryz.underlying3
    obtain ⟨c, e3, _, c1', c2'⟩ := h3.int Tryz.underlying3
    simp only [List.cons.injEq, and_true] at e0 e1 e2 e3
    subst e0 e1 e2 e3
    exact ⟨k, a, b, c, rfl, ⟨k1, k2⟩, ⟨a1, a2⟩, ⟨b1, b2⟩, ⟨c1', c2'⟩⟩
theorem Rd.raws {w : World} {cs : List Value} {d : DataW H} (h : Rd enc w 22 cs d) :
    ∃ (A : Option Addr) (len cap : Nat), cs = [.slice A len cap] ∧ RawsN w.heap.size w A len cap := by
  obtain ⟨A, len, cap, hcs, hle, hcap, hlen, _, hat⟩ := h.slice Tryz.underlying22 cellsRaw (by decide)
  refine ⟨A, len, cap, hcs, ⟨hle, hcap, fun h0 => ?_⟩, fun hn => ?_⟩
  · obtain ⟨b, o, rfl, hb, hr⟩ := hat h0
    refine ⟨b, o, rfl, hb, fun i hi => ?_⟩
    obtain ⟨cs', hl, hrow, hrd⟩ := hr i (by omega)
    obtain ⟨k, a, b', c, rfl, ik, ia, ib, ic⟩ := hrd.raw
    refine ⟨k, a, b', c, ik, ia, ib, ic, ?_, ?_, ?_, ?_⟩
    · simpa using hrow 0 (by simp)
    · simpa using hrow 1 (by simp)
    · simpa using hrow 2 (by simp)
    · simpa using hrow 3 (by simp)
  · subst hn
    obtain ⟨f, ps, h⟩ := h
    rcases open_slice Tryz.underlying22 h with ⟨hc, hx⟩ | ⟨a, len', cap', m, n, D, Pl, hc, _⟩
    · rw [hcs] at hc
      simp at hc
      exact hc
    · rw [hcs] at hc
      simp at hc
end

theorem readableRaws : Tryz.prog.readableRec 22 = true := by kernel_rfl
theorem rowRaws : 22 < Tryz.prog.types.size := of_decide_eq_true (by kernel_rfl)

namespace topBad
theorem own : ownKnob Tryz.prog.godebug = none := by kernel_rfl

theorem table {W : World} (h : laidMetH Tryz.prog Rows.topBadRow.laid W) : Tab W := by
  rw [MakeChecks.laidMetH_plain _ _ _ (by kernel_rfl)] at h
  obtain ⟨ps, ⟨g0, t0, cs0, f0, p0, q0, hg0, ht0, hv0, hd0, ⟨g1, t1, cs1, f1, p1, q1, hg1, ht1, hv1, hd1, ⟨g2, t2, cs2, f2, p2, q2, hg2, ht2, hv2, hd2, _, _⟩, _⟩, _⟩, _, _⟩ := h
  have hg : Tryz.prog.globalNamed "internal/strconv.uint64pow10" = some 4 := by kernel_rfl
  obtain rfl := Option.some.inj (hg.symm.trans hg2)
  have hty : (Tryz.prog.globals[4]?).map (·.type) = some 311 := by kernel_rfl
  obtain rfl := Option.some.inj (hty.symm.trans ht2)
  unfold Tab Lib.TabIs
  rw [hv2, ← Lib.cells_of_tab (k := .u64) (zs := Lib.pow10Tab) Tryz.underlying311 Tryz.underlying261 (by kernel_rfl) (by kernel_rfl) hd2]

theorem contract (H : Type) (enc : TypeId × Value → H) (W : World) (base : Nat) (args : Array Value) (ds gs : List (DataW H)) (before : List MemPlace)
    (hval : ∀ (j : Nat) t v, Tryz.f3.params[j]? = some t → args[j]? = some v → Value.okWide Tryz.prog W .any base t v)
    (hW : DataW.Whole enc Tryz.prog Tryz.f3.params.toList Rows.topBadSpec.vars false W args.toList ds gs before) (hL : laidMetH Tryz.prog Rows.topBadRow.laid W) :
    Calls Tryz.prog 3 args W fun e W' => ∃ v, e = .returned v ∧ Rows.topBadSpec.post enc Tryz.prog Tryz.f3 false true false false W args v W' := by
  have hW' := hW
  obtain ⟨p, q, hA0, hV, rfl, hfz, hnd⟩ := hW
  have hA : DataW.TrodAll enc Tryz.prog W 0 (fun _ => true) true Tryz.f3.params.toList args.toList ds p := hA0
  rw [Tryz.params3] at hA hval
  obtain ⟨v0, vs0, d0, ds0, p0, q0, hargs, rfl, rfl, h0, r0⟩ := trodAll_cons hA
  obtain ⟨v1, vs1, d1, ds1, p1, q1, rfl, rfl, rfl, h1, r1⟩ := trodAll_cons r0
  obtain ⟨rfl, rfl, rfl⟩ := trodAll_nil r1
  obtain rfl : args = #[v0, v1] := by cases args; simp_all
  obtain ⟨rfl, rfl⟩ := trodVars_none hV
  obtain ⟨A, len, cap, rfl⟩ := okWide_slice Tryz.underlying22 (hval 0 _ _ rfl rfl)
  obtain ⟨fu, h0⟩ := h0
  obtain ⟨fu1, h1⟩ := h1
  obtain ⟨olds, e1, _, ho1, ho2⟩ := Rd.int (enc := enc) (w := W) (cs := v1.cells.toList) (d := d1) Tryz.underlying3 ⟨fu1, _, h1⟩
  obtain ⟨ov, rfl⟩ : ∃ ov, v1 = .int .i64 ov := okWide_int Tryz.underlying3 (hval 1 _ _ rfl rfl)
  obtain rfl : ov = olds := by simpa [Value.cells] using e1
  obtain ⟨A', len', cap', e2, hR⟩ := Rd.raws (enc := enc) (w := W) (cs := (Value.slice A len cap).cells.toList) ⟨fu, _, h0⟩
  obtain ⟨rfl, rfl, rfl⟩ : A' = A ∧ len' = len ∧ cap' = cap := by simpa [Value.cells, eq_comm] using e2
  refine (topBad_walk hR ⟨W, table hL, Nat.le_refl _, Below.refl _ _⟩ ov ⟨ho1, ho2⟩).mono fun e W' ⟨he, hb⟩ => ⟨_, he, ?_⟩
  refine law_post (by kernel_rfl) rfl ⟨rfl, rfl, rfl⟩ ?_ hW' hb
  intro t ht
  rw [Tryz.params3] at ht
  simp at ht
  rcases ht with rfl | rfl
  · exact ⟨readableRaws, rowRaws⟩
  · exact ⟨by kernel_rfl, of_decide_eq_true (by kernel_rfl)⟩

/-- The door's own heap meets the condition. -/
theorem door_met (os : Os) (args : Array Value) : laidMetH Tryz.prog Rows.topBadRow.laid ((World.doorLaid Tryz.prog 379 os).forCall (fun _ _ => 0) ⟨#[], args, []⟩).memory :=
  laidMetH_of_parts3 (fuel := 8) (laidMet_of_run' 8 (by kernel_rfl) (by kernel_rfl)) (by kernel_rfl) (by kernel_rfl)

set_option maxRecDepth 100000 in
theorem lifted (os : Os) (started : os.Started) (H : Type) (enc : TypeId × Value → H) :
    ReturnsInHanded {} Tryz.checked os 3 .any (fun w args => (Rows.topBadSpec.pre enc Tryz.prog Tryz.f3 [] false w args ∧ laidMetH Tryz.prog Rows.topBadRow.laid w) ∧ sizedMet enc Tryz.prog Tryz.f3 (OpenSpec.ofChange Rows.topBadSpec) false w args)
      (Rows.topBadSpec.post enc Tryz.prog Tryz.f3 false true false false) := by
  refine returnsInHanded_of_change_and (C := Tryz.checked) (X := fun w _ => laidMetH Tryz.prog Rows.topBadRow.laid w) (fun _ _ _ hh h => h.of_heap hh) own started (by kernel_rfl) Tryz.func3
    (ChangeSpec.witness_shaped (enc := enc) (C := Tryz.checked) (os := os) (X := fun w _ => laidMetH Tryz.prog Rows.topBadRow.laid w) false (World.doorLaid Tryz.prog 379 os) #[.slice none 0 0, .int .i64 0] 8 rfl (World.shaped_of_RefB (by kernel_rfl) (by kernel_rfl)) (by kernel_rfl) (by kernel_rfl) (by kernel_rfl) (door_met os _)) ?_
  intro W base args ds gs before hval hW _ _ hL _
  exact contract H enc W base args ds gs before hval hW hL

theorem said : Rows.TopBadSaid :=
  OpenClaim.holds_of_wide 3 Tryz.f3 rfl rfl rfl rfl rfl rfl rfl ⟨rfl, rfl, rfl, rfl, rfl⟩ rfl rfl rfl rfl rfl (by kernel_rfl) Tryz.func3 (by kernel_rfl)
    (of_decide_eq_true (by kernel_rfl)) (by unfold Func.isWrapper; first | (rw [if_pos (by decide +kernel)]; kernel_rfl) | (rw [if_neg (by decide +kernel)]; exact ⟨rfl, rfl⟩))
    (fun os started H enc _ => lifted os started H enc)

theorem plain (f : FuncId) (fn : Func) (hf : Tryz.pinned.checked.prog.funcNamed "graftery/grafterytop.TopBad" = some f) (hfn : Tryz.pinned.checked.prog.funcs[f]? = some fn) :
    true = Tryz.pinned.checked.prog.looks [] ∧ ∀ (j : Nat) t, fn.params[j]? = some t → Tryz.pinned.checked.prog.wantsStandIn t = false := by
  obtain rfl : f = 3 := Option.some.inj ((show Tryz.prog.funcNamed "graftery/grafterytop.TopBad" = some 3 by kernel_rfl).symm.trans hf) |>.symm
  obtain rfl : fn = Tryz.f3 := (Option.some.inj (Tryz.func3.symm.trans hfn)).symm
  refine ⟨by kernel_rfl, fun j t ht => ?_⟩
  rw [Tryz.params3] at ht
  have ht2 : t = 22 ∨ t = 3 := by simpa using Array.mem_of_getElem? ht
  rcases ht2 with rfl | rfl
  · exact (show Tryz.prog.wantsStandIn 22 = false by kernel_rfl)
  · exact (show Tryz.prog.wantsStandIn 3 = false by kernel_rfl)
end topBad

/-- The card. -/
theorem topBad_card : Rows.TopBadCardSaid :=
  Claim7.holds_tied_plain_at .later [] _ _ _ _ topBad.said (fun _ h => by cases h) (by kernel_rfl) (fun _ h => by cases h) topBad_row_tie rfl ⟨rfl, rfl⟩ (by kernel_rfl) rfl topBad.plain (by kernel_rfl)
end Go.Proofs.YtadcklijdbbkjaaGreatDoor
