/- bard.expr at a level above 0: case 6, 7, 15. Printed by gen_expr.py. -/
import Derived.Test.YtadcklijdbbkjaaGreatDoorZip
namespace Go.Proofs.YtadcklijdbbkjaaGreatDoor
open Go.RowKit Go.ChangeShapes Go.WideShapes Go.Deep
set_option linter.unusedVariables false

set_option maxHeartbeats 8000000 in
set_option maxRecDepth 100000 in
theorem expr_6 {ty base d : Nat} (hE : ExprAt ty base d) {w : World} {b : Nat} {v : Value} {n : Nat} (h : Bard ty base w b v n) (hn : n + (d + 1) ≤ 10) {k a c e : Int} (ik : isI k) (ia : isI a) (ic : isI c) (ie : isI e)
    (hN : ∀ w', Below w.heap.size w w' → Calls Tryz.prog 69 #[.pointer (some ⟨b, 0, none⟩)] w' (NextIs ty base w' b v n k a c e)) (hp : pk k 20 = 6) :
    Calls Tryz.prog 27 #[.pointer (some ⟨b, 0, none⟩), .int .i64 ((d : Int) + 1)] w (BardPost ty base w b v n (Lb (d + 1))) := by
  have HE := Lib.hid hE
  have H := Lib.hid h
  have HN := Lib.hid hN
  have PK := Lib.hid (fun w => hp ▸ picked_any k 20 ik (by omega) (by omega) w)
  have hd0 : (d : Int) ≤ 10 := by omega
  have hd1 : (0 : Int) ≤ (d : Int) := Int.natCast_nonneg _
  have hq : ¬ ((d : Int) + 1 ≤ 0) := by omega
  have hbl := h.lt
  have HNN := Lib.hid (show n + d ≤ 10 by omega)
  have hn100 : n ≤ 100 := by omega
  have hLL := Lb_le d (by omega)
  clear hE h hN hp hn
  have hmf : ∀ (fn : Fn) (first cap : Array Value) (w : World), (Instr.makeFunc fn first cap).run Tryz.prog w = .ok (.func fn first cap) w := fun _ _ _ _ => rfl
  go_enter Tryz.func27, Tryz.ntmps27
  go_wp2_with fail
  refine (HN.out _ (below_a (below_a (Below.refl _ _) _) _)).mono ?_
  rintro q w1 ⟨rfl, h1, ht1⟩
  have S1 := Lib.hid (St.start (d := d) (k := k) (a := a) (c := c) (e := e) H.out 93 3 46 h1 ht1)
  obtain ⟨l1, l2, cb1, cd1⟩ := boxes H.out ht1
  clear h1 ht1
  go_wp2_with fail
  refine (PK.out _).mono ?_
  rintro q w5 ⟨rfl, rfl⟩
  go_wp2_with fail
  refine (S1.out.sub HE.out HNN.out).mono ?_
  rintro q w20 ⟨s0, v0, rfl, hs0, hst, _⟩
  have T0 := Lib.hid hst
  have HS0 := Lib.hid hs0
  have b0 : s0.size ≤ 100000000 := Nat.le_trans hs0 hLL
  clear hst hs0
  go_wp2_with fail
  refine (T0.out.sub HE.out HNN.out).mono ?_
  rintro q w21 ⟨s1, v1, rfl, hs1, hst, _⟩
  have T1 := Lib.hid hst
  have HS1 := Lib.hid hs1
  have b1 : s1.size ≤ 100000000 := Nat.le_trans hs1 hLL
  clear hst hs1
  go_wp2_with fail
  go_ret
  refine T1.out.post ?_
  have q0 := HS0.out
  have q1 := HS1.out
  simp only [size_add, size_lit, List.size_toArray, List.length_cons, List.length_nil]
  show _ ≤ 3 * Lb d + 100
  omega

set_option maxHeartbeats 8000000 in
set_option maxRecDepth 100000 in
theorem expr_7 {ty base d : Nat} (hE : ExprAt ty base d) {w : World} {b : Nat} {v : Value} {n : Nat} (h : Bard ty base w b v n) (hn : n + (d + 1) ≤ 10) {k a c e : Int} (ik : isI k) (ia : isI a) (ic : isI c) (ie : isI e)
    (hN : ∀ w', Below w.heap.size w w' → Calls Tryz.prog 69 #[.pointer (some ⟨b, 0, none⟩)] w' (NextIs ty base w' b v n k a c e)) (hp : pk k 20 = 7) :
    Calls Tryz.prog 27 #[.pointer (some ⟨b, 0, none⟩), .int .i64 ((d : Int) + 1)] w (BardPost ty base w b v n (Lb (d + 1))) := by
  have HE := Lib.hid hE
  have H := Lib.hid h
  have HN := Lib.hid hN
  have PK := Lib.hid (fun w => hp ▸ picked_any k 20 ik (by omega) (by omega) w)
  have hd0 : (d : Int) ≤ 10 := by omega
  have hd1 : (0 : Int) ≤ (d : Int) := Int.natCast_nonneg _
  have hq : ¬ ((d : Int) + 1 ≤ 0) := by omega
  have hbl := h.lt
  have HNN := Lib.hid (show n + d ≤ 10 by omega)
  have hn100 : n ≤ 100 := by omega
  have hLL := Lb_le d (by omega)
  clear hE h hN hp hn
  have hmf : ∀ (fn : Fn) (first cap : Array Value) (w : World), (Instr.makeFunc fn first cap).run Tryz.prog w = .ok (.func fn first cap) w := fun _ _ _ _ => rfl
  go_enter Tryz.func27, Tryz.ntmps27
  go_wp2_with fail
  refine (HN.out _ (below_a (below_a (Below.refl _ _) _) _)).mono ?_
  rintro q w1 ⟨rfl, h1, ht1⟩
  have S1 := Lib.hid (St.start (d := d) (k := k) (a := a) (c := c) (e := e) H.out 93 3 46 h1 ht1)
  obtain ⟨l1, l2, cb1, cd1⟩ := boxes H.out ht1
  clear h1 ht1
  go_wp2_with fail
  refine (PK.out _).mono ?_
  rintro q w5 ⟨rfl, rfl⟩
  go_wp2_with fail
  refine (S1.out.sub HE.out HNN.out).mono ?_
  rintro q w20 ⟨s0, v0, rfl, hs0, hst, _⟩
  have T0 := Lib.hid hst
  have HS0 := Lib.hid hs0
  have b0 : s0.size ≤ 100000000 := Nat.le_trans hs0 hLL
  clear hst hs0
  go_wp2_with fail
  refine (T0.out.sub HE.out HNN.out).mono ?_
  rintro q w21 ⟨s1, v1, rfl, hs1, hst, _⟩
  have T1 := Lib.hid hst
  have HS1 := Lib.hid hs1
  have b1 : s1.size ≤ 100000000 := Nat.le_trans hs1 hLL
  clear hst hs1
  go_wp2_with fail
  go_ret
  refine T1.out.post ?_
  have q0 := HS0.out
  have q1 := HS1.out
  simp only [size_add, size_lit, List.size_toArray, List.length_cons, List.length_nil]
  show _ ≤ 3 * Lb d + 100
  omega

set_option maxHeartbeats 8000000 in
set_option maxRecDepth 100000 in
theorem expr_15 {ty base d : Nat} (hE : ExprAt ty base d) {w : World} {b : Nat} {v : Value} {n : Nat} (h : Bard ty base w b v n) (hn : n + (d + 1) ≤ 10) {k a c e : Int} (ik : isI k) (ia : isI a) (ic : isI c) (ie : isI e)
    (hN : ∀ w', Below w.heap.size w w' → Calls Tryz.prog 69 #[.pointer (some ⟨b, 0, none⟩)] w' (NextIs ty base w' b v n k a c e)) (hp : pk k 20 = 15) :
    Calls Tryz.prog 27 #[.pointer (some ⟨b, 0, none⟩), .int .i64 ((d : Int) + 1)] w (BardPost ty base w b v n (Lb (d + 1))) := by
  have HE := Lib.hid hE
  have H := Lib.hid h
  have HN := Lib.hid hN
  have PK := Lib.hid (fun w => hp ▸ picked_any k 20 ik (by omega) (by omega) w)
  have hd0 : (d : Int) ≤ 10 := by omega
  have hd1 : (0 : Int) ≤ (d : Int) := Int.natCast_nonneg _
  have hq : ¬ ((d : Int) + 1 ≤ 0) := by omega
  have hbl := h.lt
  have HNN := Lib.hid (show n + d ≤ 10 by omega)
  have hn100 : n ≤ 100 := by omega
  have hLL := Lb_le d (by omega)
  clear hE h hN hp hn
  have hmf : ∀ (fn : Fn) (first cap : Array Value) (w : World), (Instr.makeFunc fn first cap).run Tryz.prog w = .ok (.func fn first cap) w := fun _ _ _ _ => rfl
  go_enter Tryz.func27, Tryz.ntmps27
  go_wp2_with fail
  refine (HN.out _ (below_a (below_a (Below.refl _ _) _) _)).mono ?_
  rintro q w1 ⟨rfl, h1, ht1⟩
  have S1 := Lib.hid (St.start (d := d) (k := k) (a := a) (c := c) (e := e) H.out 93 3 46 h1 ht1)
  obtain ⟨l1, l2, cb1, cd1⟩ := boxes H.out ht1
  clear h1 ht1
  go_wp2_with fail
  refine (PK.out _).mono ?_
  rintro q w5 ⟨rfl, rfl⟩
  go_wp2_with fail
  refine (S1.out.sub HE.out HNN.out).mono ?_
  rintro q w20 ⟨s0, v0, rfl, hs0, hst, _⟩
  have T0 := Lib.hid hst
  have HS0 := Lib.hid hs0
  have b0 : s0.size ≤ 100000000 := Nat.le_trans hs0 hLL
  clear hst hs0
  go_wp2_with fail
  refine (T0.out.sub HE.out HNN.out).mono ?_
  rintro q w21 ⟨s1, v1, rfl, hs1, hst, _⟩
  have T1 := Lib.hid hst
  have HS1 := Lib.hid hs1
  have b1 : s1.size ≤ 100000000 := Nat.le_trans hs1 hLL
  clear hst hs1
  go_wp2_with fail
  go_ret
  refine T1.out.post ?_
  have q0 := HS0.out
  have q1 := HS1.out
  simp only [size_add, size_lit, List.size_toArray, List.length_cons, List.length_nil]
  show _ ≤ 3 * Lb d + 100
  omega
end Go.Proofs.YtadcklijdbbkjaaGreatDoor
