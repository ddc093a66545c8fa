/- Proved: the tied card of grafterylaw.ReadReads: it returns true for every text (read.Read answers what the reference's DataOf answers). Conditions: none beyond the given row's own (the five listed variables, tied to the program's text). -/
import Derived.Test.YtbkagjngckfonaaDoorSame
import Derived.Test.YtbkagjngckfonaaDoorDataOf
import Derived.Test.YtbkagjngckfonaaDoorLaw
import Derived.Test.YtbkagjngckfonaaDoorCards
import Derived.Test.YtbkagjngckfonaaDoorTie
import Derived.Deep.DeepHandedRow
import Derived.Deep.DeepWitnessRowRef
import Derived.LaidMore
import Derived.LaidLaws
namespace Go.Proofs.YtbkagjngckfonaaDoor
open Go.RowKit Go.ChangeShapes Go.WideShapes Go.Deep Go.ChangeAt
set_option linter.unusedVariables false

theorem sameNil_any (w : World) : Calls Tryd.prog 9 #[.slice none 0 0, .slice none 0 0] w (Alike w) :=
  sameData_of [] (fun t ht => by cases ht) w 0 0 0 0 none none 0 0 [] [] ⟨rfl, Nat.le_refl _, by unfold maxLen; omega, fun h => absurd h (by simp), fun i h => absurd h (by simp)⟩ ⟨rfl, Nat.le_refl _, by unfold maxLen; omega, fun h => absurd h (by simp), fun i h => absurd h (by simp)⟩

set_option maxHeartbeats 4000000 in
set_option maxRecDepth 20000 in
theorem readReads_walk (s : ByteArray) (w : World) (hT : Tab w) (hE : Errs w) : Calls Tryd.prog 4 #[.string s] w (Alike w) := by
  obtain ⟨R, hR⟩ : ∃ R, topR s = R := ⟨_, rfl⟩
  have HR := Lib.hid hR
  have H1 := Lib.hid (read_any s w hT hE)
  clear hT hE hR
  go_enter Tryd.func4, Tryd.ntmps4
  go_wp2_with fail
  refine H1.out.mono ?_
  rintro e w1 ⟨hb1, h1⟩
  rw [HR.out] at h1
  have HB1 := Lib.hid hb1
  clear hb1
  cases R with
  | bad p er =>
    simp only at h1
    subst h1
    go_wp2_with fail
    refine (dataOf_any s w1).mono ?_
    rintro e w2 ⟨hb2, h2⟩
    rw [HR.out] at h2
    simp only at h2
    subst h2
    have HB2 := Lib.hid (HB1.out.trans (hb2.mono HB1.out.size))
    clear hb2
    go_wp2_with fail
    refine (sameNil_any _).mono ?_
    rintro e w3 ⟨rfl, hb3⟩
    have HB3 := Lib.hid (HB2.out.trans (hb3.mono HB2.out.size))
    clear hb3
    go_wp2_with fail
    go_ret
    exact ⟨rfl, HB3.out⟩
  | good l =>
    simp only at h1
    obtain ⟨A, cap, rfl, d1⟩ := h1
    have D1 := Lib.hid d1
    clear d1
    go_wp2_with fail
    refine (dataOf_any s w1).mono ?_
    rintro e w2 ⟨hb2, h2⟩
    rw [HR.out] at h2
    simp only at h2
    obtain ⟨A', cap', rfl, d2⟩ := h2
    have D2 := Lib.hid d2
    have D1' := Lib.hid (D1.out.keep hb2)
    have HB2 := Lib.hid (HB1.out.trans (hb2.mono HB1.out.size))
    clear hb2 d2
    go_wp2_with fail
    refine (sameData_any l _ _ _ _ _ A A' cap cap' _ _ _ _ _ _ D1'.out D2.out).mono ?_
    rintro e w3 ⟨rfl, hb3⟩
    have HB3 := Lib.hid (HB2.out.trans (hb3.mono HB2.out.size))
    clear hb3
    go_wp2_with fail
    go_ret
    exact ⟨rfl, HB3.out⟩

theorem readableStr : Tryd.prog.readableRec 9 = true := by kernel_rfl
theorem rowStr : 9 < Tryd.prog.types.size := of_decide_eq_true (by kernel_rfl)

namespace readReads
theorem own : ownKnob Tryd.prog.godebug = none := by kernel_rfl

theorem table {W : World} (h : laidMetH Tryd.prog Rows.readReadsRow.laid W) : Tab W ∧ Errs W := by
  rw [MakeChecks.laidMetH_plain _ _ _ (by kernel_rfl)] at h
  obtain ⟨ps, ⟨g0, t0, cs0, f0, p0, q0, hg0, ht0, hv0, hd0, ⟨g1, t1, cs1, f1, p1, q1, hg1, ht1, hv1, hd1, ⟨g2, t2, cs2, f2, p2, q2, hg2, ht2, hv2, hd2, ⟨g3, t3, cs3, f3, p3, q3, hg3, ht3, hv3, hd3, ⟨g4, t4, cs4, f4, p4, q4, hg4, ht4, hv4, hd4, _, _⟩, _⟩, _⟩, _⟩, _⟩, _, _⟩ := h
  constructor
  · have hg : Tryd.prog.globalNamed "internal/strconv.uint64pow10" = some 0 := by kernel_rfl
    obtain rfl := Option.some.inj (hg.symm.trans hg2)
    have hty : (Tryd.prog.globals[0]?).map (·.type) = some 83 := by kernel_rfl
    obtain rfl := Option.some.inj (hty.symm.trans ht2)
    unfold Tab Lib.TabIs
    rw [hv2, ← Lib.cells_of_tab (k := .u64) (zs := Lib.pow10Tab) Tryd.underlying83 Tryd.underlying70 (by kernel_rfl) (by kernel_rfl) hd2]
  · have hg3' : Tryd.prog.globalNamed "strconv.ErrRange" = some 3 := by kernel_rfl
    obtain rfl := Option.some.inj (hg3'.symm.trans hg3)
    have hty3 : (Tryd.prog.globals[3]?).map (·.type) = some 52 := by kernel_rfl
    obtain rfl := Option.some.inj (hty3.symm.trans ht3)
    have hg4' : Tryd.prog.globalNamed "strconv.ErrSyntax" = some 2 := by kernel_rfl
    obtain rfl := Option.some.inj (hg4'.symm.trans hg4)
    have hty4 : (Tryd.prog.globals[2]?).map (·.type) = some 52 := by kernel_rfl
    obtain rfl := Option.some.inj (hty4.symm.trans ht4)
    obtain ⟨_, u3, v3, e3, _⟩ := iface_of_trod Tryd.underlying52 hd3
    obtain ⟨_, u4, v4, e4, _⟩ := iface_of_trod Tryd.underlying52 hd4
    have c3 : cs3 = #[.iface u3 v3] := by
      obtain ⟨x⟩ := cs3
      exact congrArg List.toArray e3
    have c4 : cs4 = #[.iface u4 v4] := by
      obtain ⟨x⟩ := cs4
      exact congrArg List.toArray e4
    exact ⟨u4, v4, u3, v3, by rw [hv4, c4], by rw [hv3, c3]⟩

theorem contract (H : Type) (enc : TypeId × Value → H) (W : World) (base : Nat) (args : Array Value) (ds gs : List (DataW H)) (before : List MemPlace)
    (hval : ∀ (j : Nat) t v, Tryd.f4.params[j]? = some t → args[j]? = some v → Value.okWide Tryd.prog W .any base t v)
    (hW : DataW.Whole enc Tryd.prog Tryd.f4.params.toList Rows.readReadsSpec.vars false W args.toList ds gs before) (hL : laidMetH Tryd.prog Rows.readReadsRow.laid W) :
    Calls Tryd.prog 4 args W fun e W' => ∃ v, e = .returned v ∧ Rows.readReadsSpec.post enc Tryd.prog Tryd.f4 false true false false W args v W' := by
  have hW' := hW
  obtain ⟨p, q, hA0, hV, rfl, hfz, hnd⟩ := hW
  have hA : DataW.TrodAll enc Tryd.prog W 0 (fun _ => true) true Tryd.f4.params.toList args.toList ds p := hA0
  rw [Tryd.params4] at hA hval
  obtain ⟨v0, vs0, d0, ds0, p0, q0, hargs, rfl, rfl, h0, r0⟩ := trodAll_cons hA
  obtain ⟨rfl, rfl, rfl⟩ := trodAll_nil r0
  obtain rfl : args = #[v0] := by cases args; simp_all
  obtain ⟨rfl, rfl⟩ := trodVars_none hV
  obtain ⟨s, rfl⟩ := okWide_string Tryd.underlying9 (hval 0 _ _ rfl rfl)
  obtain ⟨hT, hE⟩ := table hL
  refine (readReads_walk s W hT hE).mono fun e W' ⟨he, hb⟩ => ⟨_, he, ?_⟩
  refine law_post (by kernel_rfl) rfl ⟨rfl, rfl, rfl⟩ ?_ hW' hb
  intro t ht
  rw [Tryd.params4] at ht
  simp at ht
  subst ht
  exact ⟨readableStr, rowStr⟩

/-- The door's own heap meets the condition. -/
theorem door_met (os : Os) (args : Array Value) : laidMetH Tryd.prog Rows.readReadsRow.laid ((World.doorLaid Tryd.prog 96 os).forCall (fun _ _ => 0) ⟨#[], args, []⟩).memory :=
  laidMetH_of_parts3 (fuel := 8) (laidMet_of_run' 8 (by kernel_rfl) (by kernel_rfl)) (by kernel_rfl) (by kernel_rfl)

set_option maxRecDepth 100000 in
theorem lifted (os : Os) (started : os.Started) (H : Type) (enc : TypeId × Value → H) :
    ReturnsInHanded {} Tryd.checked os 4 .any (fun w args => (Rows.readReadsSpec.pre enc Tryd.prog Tryd.f4 [] false w args ∧ laidMetH Tryd.prog Rows.readReadsRow.laid w) ∧ sizedMet enc Tryd.prog Tryd.f4 (OpenSpec.ofChange Rows.readReadsSpec) false w args)
      (Rows.readReadsSpec.post enc Tryd.prog Tryd.f4 false true false false) := by
  refine returnsInHanded_of_change_and (C := Tryd.checked) (X := fun w _ => laidMetH Tryd.prog Rows.readReadsRow.laid w) (fun _ _ _ hh h => h.of_heap hh) own started (by kernel_rfl) Tryd.func4
    (ChangeSpec.witness_shaped (enc := enc) (C := Tryd.checked) (os := os) (X := fun w _ => laidMetH Tryd.prog Rows.readReadsRow.laid w) false (World.doorLaid Tryd.prog 96 os) #[.string ByteArray.empty] 8 rfl (World.shaped_of_RefB (by kernel_rfl) (by kernel_rfl)) (by kernel_rfl) (by kernel_rfl) (by kernel_rfl) (door_met os _)) ?_
  intro W base args ds gs before hval hW _ _ hL _
  exact contract H enc W base args ds gs before hval hW hL

theorem said : Rows.ReadReadsSaid :=
  OpenClaim.holds_of_wide 4 Tryd.f4 rfl rfl rfl rfl rfl rfl rfl ⟨rfl, rfl, rfl, rfl, rfl⟩ rfl rfl rfl rfl rfl (by kernel_rfl) Tryd.func4 (by kernel_rfl)
    (of_decide_eq_true (by kernel_rfl)) (by unfold Func.isWrapper; first | (rw [if_pos (by decide +kernel)]; kernel_rfl) | (rw [if_neg (by decide +kernel)]; exact ⟨rfl, rfl⟩))
    (fun os started H enc _ => lifted os started H enc)

theorem plain (f : FuncId) (fn : Func) (hf : Tryd.pinned.checked.prog.funcNamed "graftery/grafterylaw.ReadReads" = some f) (hfn : Tryd.pinned.checked.prog.funcs[f]? = some fn) :
    true = Tryd.pinned.checked.prog.looks [] ∧ ∀ (j : Nat) t, fn.params[j]? = some t → Tryd.pinned.checked.prog.wantsStandIn t = false := by
  obtain rfl : f = 4 := Option.some.inj ((show Tryd.prog.funcNamed "graftery/grafterylaw.ReadReads" = some 4 by kernel_rfl).symm.trans hf) |>.symm
  obtain rfl : fn = Tryd.f4 := (Option.some.inj (Tryd.func4.symm.trans hfn)).symm
  refine ⟨by kernel_rfl, fun j t ht => ?_⟩
  rw [Tryd.params4] at ht
  obtain rfl : t = 9 := by simpa using Array.mem_of_getElem? ht
  exact (show Tryd.prog.wantsStandIn 9 = false by kernel_rfl)
end readReads

/-- The card. -/
theorem readReads_card : Rows.ReadReadsCardSaid :=
  Claim7.holds_tied_plain_at .later [] _ _ _ _ readReads.said (fun _ h => by cases h) (by kernel_rfl) (fun _ h => by cases h) readReads_row_tie rfl ⟨rfl, rfl⟩ (by kernel_rfl) rfl readReads.plain (by kernel_rfl)
end Go.Proofs.YtbkagjngckfonaaDoor
