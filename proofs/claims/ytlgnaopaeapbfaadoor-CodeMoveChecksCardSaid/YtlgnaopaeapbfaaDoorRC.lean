/- Contracts of read.Check and grafteryref.DatumFault. -/
import Derived.Test.YtlgnaopaeapbfaaDoorCheck
import Derived.Test.YtlgnaopaeapbfaaDoorDFault
import Derived.Test.YtlgnaopaeapbfaaDoorLaw
namespace Go.Proofs.YtlgnaopaeapbfaaDoor
open Go.RowKit Go.ChangeShapes Go.WideShapes Go.Deep Go.ChangeAt
set_option linter.unusedVariables false
section
variable {H : Type} {enc : TypeId × Value → H}

set_option maxHeartbeats 400000 in
theorem readCheck_any (w : World) (cs : List Value) (d : DataW H) (hd : Rd enc w 35 cs d) :
    Calls Tryd.prog 16 #[.agg cs.toArray] w fun e w' => e = .returned (.int .i64 (fault 40 d)) ∧ Below w.heap.size w w' := by
  obtain ⟨k, n, s, A, len, cap, it, rfl, hdd, hk, hn, hs, hA⟩ := hd.datum
  have HD := Lib.hid hd
  clear hd hdd hk hn hs hA
  go_enter Tryd.func16, Tryd.ntmps16
  go_wp2_with fail
  refine (check_any 40 1 _ [.int .i64 k, .int .i64 n, .string s, .slice A len cap] d (by omega) (by omega) (HD.out.below readableDatum rowDatum ?_)).mono ?_
  · exact (Below.refl _ _).alloc (Nat.le_refl _) _
  rintro e w1 ⟨rfl, hb1⟩
  go_wp2_with fail
  go_ret
  exact ⟨rfl, ((Below.refl _ _).alloc (Nat.le_refl _) _).trans (hb1.mono (by simp))⟩

set_option maxHeartbeats 400000 in
theorem datumFault_any (w : World) (cs : List Value) (d : DataW H) (hd : Rd enc w 35 cs d) :
    Calls Tryd.prog 38 #[.agg cs.toArray] w fun e w' => e = .returned (.int .i64 (fault 40 d)) ∧ Below w.heap.size w w' := by
  obtain ⟨k, n, s, A, len, cap, it, rfl, hdd, hk, hn, hs, hA⟩ := hd.datum
  have HD := Lib.hid hd
  clear hd hdd hk hn hs hA
  go_enter Tryd.func38, Tryd.ntmps38
  go_wp2_with fail
  refine (dfault_any 40 1 _ [.int .i64 k, .int .i64 n, .string s, .slice A len cap] d (by omega) (by omega) (HD.out.below readableDatum rowDatum ?_)).mono ?_
  · exact (Below.refl _ _).alloc (Nat.le_refl _) _
  rintro e w1 ⟨rfl, hb1⟩
  go_wp2_with fail
  go_ret
  exact ⟨rfl, ((Below.refl _ _).alloc (Nat.le_refl _) _).trans (hb1.mono (by simp))⟩


/-- A name as a datum: what read.Check says of it. -/
theorem Rd.ofName (enc : TypeId × Value → H) (w : World) (s : ByteArray) (hs : s.size ≤ maxLen) :
    Rd enc w 35 [.int .i64 3, .int .i64 0, .string s, .slice none 0 0] (.agg [.lit (.int .i64 3), .lit (.int .i64 0), .lit (.string s.data.toList), .nil]) := by
  refine ⟨2, [], ?_⟩
  have e := trod_struct_mk (enc := enc) (P := Tryd.prog) (w := w) (base := 0) (spare := fun _ => true) (held := true) (n := 1) (cs := [.int .i64 3, .int .i64 0, .string s, .slice none 0 0])
    (xs := [(.lit (.int .i64 3), []), (.lit (.int .i64 0), []), (.lit (.string s.data.toList), []), (.nil, [])]) Tryd.underlying35 (by rw [cellsDatum]; rfl)
    (by simp [DataW.trod, cellsInt, cellsString, cellsSlDatum, Tryd.underlying3, Tryd.underlying9, Tryd.underlying33, hs, Lit.wf, IntKind.min, IntKind.max, IntKind.signed, IntKind.bits])
  simpa using e
theorem fault_name (s : List UInt8) : fault (H := H) 40 (.agg [.lit (.int .i64 3), .lit (.int .i64 0), .lit (.string s), .nil]) = if nameB s then 0 else 4 := by
  cases h : nameB s
  · exact fault_mk_bad (by omega) (hf4n rfl h) (by decide)
  · rw [fault_mk_ok (by omega) (hf0 (by omega) (fun _ => h) (by simp [elems]))]
    rfl
end
end Go.Proofs.YtlgnaopaeapbfaaDoor
