/- Proved: grafterylaw.ReadChecks returns true for every datum (read.Check answers what the reference answers), and what was in memory stays. Conditions: none beyond the given row's own. -/
import Derived.Test.YtbkagjngckfonaaCheck
import Derived.Test.YtbkagjngckfonaaDFault
import Derived.Test.YtbkagjngckfonaaLaw
namespace Go.Proofs.Ytbkagjngckfonaa
open Go.RowKit Go.ChangeShapes Go.WideShapes Go.Deep Go.ChangeAt
set_option linter.unusedVariables false

section
variable {H : Type} {enc : TypeId × Value → H}

set_option maxHeartbeats 400000 in
theorem readCheck_any (w : World) (cs : List Value) (d : DataW H) (hd : Rd enc w 39 cs d) :
    Calls Try.prog 9 #[.agg cs.toArray] w fun e w' => e = .returned (.int .i64 (fault 40 d)) ∧ Below w.heap.size w w' := by
  obtain ⟨k, n, s, A, len, cap, it, rfl, hdd, hk, hn, hs, hA⟩ := hd.datum
  have HD := Lib.hid hd
  clear hd hdd hk hn hs hA
  go_enter Try.func9, Try.ntmps9
  go_wp2_with fail
  refine (check_any 40 1 _ [.int .i64 k, .int .i64 n, .string s, .slice A len cap] d (by omega) (by omega) (HD.out.below readableDatum rowDatum ?_)).mono ?_
  · exact (Below.refl _ _).alloc (Nat.le_refl _) _
  rintro e w1 ⟨rfl, hb1⟩
  go_wp2_with fail
  go_ret
  exact ⟨rfl, ((Below.refl _ _).alloc (Nat.le_refl _) _).trans (hb1.mono (by simp))⟩

set_option maxHeartbeats 400000 in
theorem datumFault_any (w : World) (cs : List Value) (d : DataW H) (hd : Rd enc w 39 cs d) :
    Calls Try.prog 10 #[.agg cs.toArray] w fun e w' => e = .returned (.int .i64 (fault 40 d)) ∧ Below w.heap.size w w' := by
  obtain ⟨k, n, s, A, len, cap, it, rfl, hdd, hk, hn, hs, hA⟩ := hd.datum
  have HD := Lib.hid hd
  clear hd hdd hk hn hs hA
  go_enter Try.func10, Try.ntmps10
  go_wp2_with fail
  refine (dfault_any 40 1 _ [.int .i64 k, .int .i64 n, .string s, .slice A len cap] d (by omega) (by omega) (HD.out.below readableDatum rowDatum ?_)).mono ?_
  · exact (Below.refl _ _).alloc (Nat.le_refl _) _
  rintro e w1 ⟨rfl, hb1⟩
  go_wp2_with fail
  go_ret
  exact ⟨rfl, ((Below.refl _ _).alloc (Nat.le_refl _) _).trans (hb1.mono (by simp))⟩

set_option maxHeartbeats 400000 in
theorem readChecks_walk (w : World) (cs : List Value) (d : DataW H) (hd : Rd enc w 39 cs d) :
    Calls Try.prog 5 #[.agg cs.toArray] w fun e w' => e = .returned (.bool true) ∧ Below w.heap.size w w' := by
  obtain ⟨k, n, s, A, len, cap, it, rfl, hdd, hk, hn, hs, hA⟩ := hd.datum
  have HD := Lib.hid hd
  clear hd hdd hk hn hs hA
  go_enter Try.func5, Try.ntmps5
  go_wp2_with fail
  have hw0 : Below w.heap.size w (w.alloc (.cells #[.int .i64 k, .int .i64 n, .string s, .slice A len cap] 39)) := (Below.refl _ _).alloc (Nat.le_refl _) _
  refine (readCheck_any _ [.int .i64 k, .int .i64 n, .string s, .slice A len cap] d (HD.out.below readableDatum rowDatum hw0)).mono ?_
  rintro e w1 ⟨rfl, hb1⟩
  have c0 : w1.cell? ⟨w.heap.size, 0, none⟩ = some (.int .i64 k) := box_cell hb1 rfl
  have c1 : w1.cell? ⟨w.heap.size, 1, none⟩ = some (.int .i64 n) := box_cell hb1 rfl
  have c2 : w1.cell? ⟨w.heap.size, 2, none⟩ = some (.string s) := box_cell hb1 rfl
  have c3 : w1.cell? ⟨w.heap.size, 3, none⟩ = some (.slice A len cap) := box_cell hb1 rfl
  have HB := Lib.hid (hw0.trans (hb1.mono (by simp)))
  clear hb1 hw0
  go_wp2_with fail
  refine (datumFault_any _ [.int .i64 k, .int .i64 n, .string s, .slice A len cap] d (HD.out.below readableDatum rowDatum HB.out)).mono ?_
  rintro e w2 ⟨rfl, hb2⟩
  have HB2 := Lib.hid (HB.out.trans (hb2.mono HB.out.size))
  clear hb2
  generalize fault 40 d = f
  go_wp2_with fail
  go_ret
  exact ⟨ret_bool (by simp), HB2.out⟩
end

namespace readChecks
theorem own : ownKnob Try.prog.godebug = none := by kernel_rfl

theorem contract (H : Type) (enc : TypeId × Value → H) (W : World) (base : Nat) (args : Array Value) (ds gs : List (DataW H)) (before : List MemPlace)
    (hval : ∀ (j : Nat) t v, Try.f5.params[j]? = some t → args[j]? = some v → Value.okWide Try.prog W .any base t v)
    (hW : DataW.Whole enc Try.prog Try.f5.params.toList Rows.readChecksSpec.vars false W args.toList ds gs before) :
    Calls Try.prog 5 args W fun e W' => ∃ v, e = .returned v ∧ Rows.readChecksSpec.post enc Try.prog Try.f5 false true false false W args v W' := by
  have hW' := hW
  obtain ⟨p, q, hA0, hV, rfl, hfz, hnd⟩ := hW
  have hA : DataW.TrodAll enc Try.prog W 0 (fun _ => true) true Try.f5.params.toList args.toList ds p := hA0
  rw [Try.params5] at hA hval
  obtain ⟨v0, vs0, d0, ds0, p0, q0, hargs, rfl, rfl, h0, r0⟩ := trodAll_cons hA
  obtain ⟨rfl, rfl, rfl⟩ := trodAll_nil r0
  obtain rfl : args = #[v0] := by cases args; simp_all
  obtain ⟨rfl, rfl⟩ := trodVars_none hV
  obtain ⟨cs, rfl, hsz⟩ := okWide_struct Try.underlying39 (hval 0 _ _ rfl rfl)
  obtain ⟨fu, h0⟩ := h0
  refine (readChecks_walk W cs.toList d0 ⟨fu, _, h0⟩).mono fun e W' ⟨he, hb⟩ => ⟨_, he, ?_⟩
  refine law_post (by kernel_rfl) rfl ⟨rfl, rfl, rfl⟩ ?_ hW' hb
  intro t ht
  rw [Try.params5] at ht
  simp at ht
  subst ht
  exact ⟨readableDatum, rowDatum⟩

set_option maxRecDepth 100000 in
theorem lifted (os : Os) (started : os.Started) (H : Type) (enc : TypeId × Value → H) :
    ReturnsInHanded {} Try.checked os 5 .any (Rows.readChecksSpec.pre6 enc Try.prog Try.f5 Rows.readChecksRow.domain false) (Rows.readChecksSpec.post enc Try.prog Try.f5 false true false false) := by
  refine returnsInHanded_of_change (C := Try.checked) own started (by kernel_rfl) Try.func5
    (ChangeSpec.witness6 (enc := enc) (C := Try.checked) false ⟨#[], #[.agg #[.int .i64 0, .int .i64 0, .string ByteArray.empty, .slice none 0 0]], []⟩ 8 (by kernel_rfl) (by kernel_rfl) (by kernel_rfl) (by kernel_rfl)) ?_
  intro W base args ds gs before hval hW _ _
  exact contract H enc W base args ds gs before hval hW

theorem over : Rows.readChecksRow.holds Try.pinned (OpenSpec.ofChange Rows.readChecksSpec) :=
  OpenClaim.holds_of_wide 5 Try.f5 rfl rfl rfl rfl rfl rfl rfl ⟨rfl, rfl, rfl, rfl, rfl⟩ rfl rfl rfl rfl rfl (by kernel_rfl) Try.func5 (by kernel_rfl)
    (of_decide_eq_true (by kernel_rfl)) (by unfold Func.isWrapper; first | (rw [if_pos (by decide +kernel)]; kernel_rfl) | (rw [if_neg (by decide +kernel)]; exact ⟨rfl, rfl⟩))
    (fun os started H enc _ => lifted os started H enc)
end readChecks

/-- The statement. -/
theorem readChecks_holds : Rows.ReadChecksSaid := readChecks.over
end Go.Proofs.Ytbkagjngckfonaa
