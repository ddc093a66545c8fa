/- bard.expr at a level above 0: case 0, 1, 5, 8. Printed by gen_expr.py. -/
import Derived.Test.YtadcklijdbbkjaaGreatDoorZip
namespace Go.Proofs.YtadcklijdbbkjaaGreatDoor
open Go.RowKit Go.ChangeShapes Go.WideShapes Go.Deep
set_option linter.unusedVariables false

set_option maxHeartbeats 8000000 in
set_option maxRecDepth 100000 in
theorem expr_0 {ty base d : Nat} (hE : ExprAt ty base d) {w : World} {b : Nat} {v : Value} {n : Nat} (h : Bard ty base w b v n) (hn : n + (d + 1) ≤ 10) {k a c e : Int} (ik : isI k) (ia : isI a) (ic : isI c) (ie : isI e)
    (hN : ∀ w', Below w.heap.size w w' → Calls Tryz.prog 69 #[.pointer (some ⟨b, 0, none⟩)] w' (NextIs ty base w' b v n k a c e)) (hp : pk k 20 = 0) :
    Calls Tryz.prog 27 #[.pointer (some ⟨b, 0, none⟩), .int .i64 ((d : Int) + 1)] w (BardPost ty base w b v n (Lb (d + 1))) := by
  have HE := Lib.hid hE
  have H := Lib.hid h
  have HN := Lib.hid hN
  have PK := Lib.hid (fun w => hp ▸ picked_any k 20 ik (by omega) (by omega) w)
  have hd0 : (d : Int) ≤ 10 := by omega
  have hd1 : (0 : Int) ≤ (d : Int) := Int.natCast_nonneg _
  have hq : ¬ ((d : Int) + 1 ≤ 0) := by omega
  have hbl := h.lt
  have HNN := Lib.hid (show n + d ≤ 10 by omega)
  have hn100 : n ≤ 100 := by omega
  have hLL := Lb_le d (by omega)
  clear hE h hN hp hn
  have hmf : ∀ (fn : Fn) (first cap : Array Value) (w : World), (Instr.makeFunc fn first cap).run Tryz.prog w = .ok (.func fn first cap) w := fun _ _ _ _ => rfl
  go_enter Tryz.func27, Tryz.ntmps27
  go_wp2_with fail
  refine (HN.out _ (below_a (below_a (Below.refl _ _) _) _)).mono ?_
  rintro q w1 ⟨rfl, h1, ht1⟩
  have S1 := Lib.hid (St.start (d := d) (k := k) (a := a) (c := c) (e := e) H.out 93 3 46 h1 ht1)
  obtain ⟨l1, l2, cb1, cd1⟩ := boxes H.out ht1
  clear h1 ht1
  go_wp2_with fail
  refine (PK.out _).mono ?_
  rintro q w5 ⟨rfl, rfl⟩
  go_wp2_with fail
  refine region_zip (C := CB ty base ⟨b, n, d, w.heap.size, w.heap.size + 1, w1.heap.size, k, a, c, e, (d : Int) + 1, w, v⟩) (R := RB ty base ⟨b, n, d, w.heap.size, w.heap.size + 1, w1.heap.size, k, a, c, e, (d : Int) + 1, w, v⟩)
    (FX := [(5, .pointer (some ⟨w1.heap.size, 0, none⟩)), (6, .func (.func 71) #[] #[.pointer (some ⟨w.heap.size, 0, none⟩), .pointer (some ⟨w.heap.size + 1, 0, none⟩)]), (2, .pointer (some ⟨w.heap.size, 0, none⟩))])
    (sz := 377)
    [pLit ty base ⟨b, n, d, w.heap.size, w.heap.size + 1, w1.heap.size, k, a, c, e, (d : Int) + 1, w, v⟩ 7,
      pVal (.pointer (some ⟨w1.heap.size, 1, none⟩)),
      pVal (.int .i64 a),
      pPick 7,
      pElt ty base ⟨b, n, d, w.heap.size, w.heap.size + 1, w1.heap.size, k, a, c, e, (d : Int) + 1, w, v⟩,
      pStr 20,
      pStr (1 + 20),
      pStr ((1 + 20) + 1),
      pVal (.func (.func 71) #[] #[.pointer (some ⟨w.heap.size, 0, none⟩), .pointer (some ⟨w.heap.size + 1, 0, none⟩)]),
      pStr (Lb d),
      pStr (((1 + 20) + 1) + Lb d),
      pStr ((((1 + 20) + 1) + Lb d) + 1),
      pVal (.func (.func 71) #[] #[.pointer (some ⟨w.heap.size, 0, none⟩), .pointer (some ⟨w.heap.size + 1, 0, none⟩)]),
      pStr (Lb d),
      pStr (((((1 + 20) + 1) + Lb d) + 1) + Lb d),
      pStr ((((((1 + 20) + 1) + Lb d) + 1) + Lb d) + 1),
      pStr ((((((1 + 20) + 1) + Lb d) + 1) + Lb d) + 1)]
    (by kernel_rfl) (by kernel_rfl)
    (.cons (st_lit 7) (.cons (st_val _) (.cons (st_val _) (.cons (st_pick _) (.cons (st_elt) (.cons (st_str _) (.cons (st_str _) (.cons (st_str _) (.cons (st_val _) (.cons (st_str _) (.cons (st_str _) (.cons (st_str _) (.cons (st_val _) (.cons (st_str _) (.cons (st_str _) (.cons (st_str _) (.cons (st_str _) (.nil))))))))))))))))))
    (
      (.cons (ok_lit (fun a w hf hk => by exact ⟨_, by unfold execOp; simp [go_sem]; rfl, fun i hi => by rcases (show i = 0 ∨ i = 1 ∨ i = 2 ∨ i = 3 ∨ i = 4 ∨ i = 5 ∨ i = 6 by omega) with rfl | rfl | rfl | rfl | rfl | rfl | rfl <;> (first | exact ⟨_, rfl, by decide⟩)⟩))
      (.cons (ok_fld (F := ⟨b, n, d, w.heap.size, w.heap.size + 1, w1.heap.size, k, a, c, e, (d : Int) + 1, w, v⟩) (j := 1) (by decide) rfl (of_fixed (by simp)))
      (.cons (ok_ldI (F := ⟨b, n, d, w.heap.size, w.heap.size + 1, w1.heap.size, k, a, c, e, (d : Int) + 1, w, v⟩) (j := 1) rfl (of_dep' ⟨1, .data⟩ (by simp) rfl _ rfl rfl) rfl)
      (.cons (ok_pick (n := 7) rfl (of_dep' ⟨2, .data⟩ (by simp) rfl _ rfl rfl) ia (by decide) (by decide))
      (.cons (ok_idx (n := 7) rfl (of_dep' ⟨0, .data⟩ (by simp) rfl _ rfl rfl) (of_dep' ⟨3, .data⟩ (by simp) rfl _ rfl rfl))
      (.cons (ok_ldS rfl (of_dep' ⟨4, .data⟩ (by simp) rfl _ rfl rfl))
      (.cons (ok_add (A := 1) (B := 20) rfl (of_const (fun _ => ⟨_, rfl, by decide⟩)) (of_dep' ⟨5, .data⟩ (by simp) rfl _ rfl rfl) (Nat.le_refl _) (by omega))
      (.cons (ok_add (A := (1 + 20)) (B := 1) rfl (of_dep' ⟨6, .data⟩ (by simp) rfl _ rfl rfl) (of_const (fun _ => ⟨_, rfl, by decide⟩)) (Nat.le_refl _) (by omega))
      (.cons (ok_mov rfl (of_fixed (by simp)))
      (.cons (ok_sub (F := ⟨b, n, d, w.heap.size, w.heap.size + 1, w1.heap.size, k, a, c, e, (d : Int) + 1, w, v⟩) HE.out HNN.out rfl rfl (of_dep' ⟨8, .data⟩ (by simp) rfl _ rfl rfl))
      (.cons (ok_add (A := ((1 + 20) + 1)) (B := Lb d) rfl (of_dep' ⟨7, .data⟩ (by simp) rfl _ rfl rfl) (of_dep' ⟨9, .data⟩ (by simp) rfl _ rfl rfl) (Nat.le_refl _) (by omega))
      (.cons (ok_add (A := (((1 + 20) + 1) + Lb d)) (B := 1) rfl (of_dep' ⟨10, .data⟩ (by simp) rfl _ rfl rfl) (of_const (fun _ => ⟨_, rfl, by decide⟩)) (Nat.le_refl _) (by omega))
      (.cons (ok_mov rfl (of_fixed (by simp)))
      (.cons (ok_sub (F := ⟨b, n, d, w.heap.size, w.heap.size + 1, w1.heap.size, k, a, c, e, (d : Int) + 1, w, v⟩) HE.out HNN.out rfl rfl (of_dep' ⟨12, .data⟩ (by simp) rfl _ rfl rfl))
      (.cons (ok_add (A := ((((1 + 20) + 1) + Lb d) + 1)) (B := Lb d) rfl (of_dep' ⟨11, .data⟩ (by simp) rfl _ rfl rfl) (of_dep' ⟨13, .data⟩ (by simp) rfl _ rfl rfl) (Nat.le_refl _) (by omega))
      (.cons (ok_add (A := (((((1 + 20) + 1) + Lb d) + 1) + Lb d)) (B := 1) rfl (of_dep' ⟨14, .data⟩ (by simp) rfl _ rfl rfl) (of_const (fun _ => ⟨_, rfl, by decide⟩)) (Nat.le_refl _) (by omega))
      (.cons (ok_asg rfl (of_dep' ⟨15, .data⟩ (by simp) rfl _ rfl rfl)) .nil))))))))))))))))))
    ⟨v, S1.out.new (below_d (Below.refl _ _))⟩ rfl rfl
    (by intro p hp; simp only [List.mem_cons, List.not_mem_nil, or_false] at hp; rcases hp with rfl | rfl | rfl <;> rfl) ?_
  intro a2 w2 hC2 hsz2 hdf2 hfx2 hend2
  obtain ⟨s, hs, hs1⟩ := hend2 16 _ _ 4 rfl rfl rfl
  obtain ⟨v2, h2⟩ := hC2
  clear hend2 hfx2
  go_wp2_with fail
  exact fin_str hs hdf2 (h2.post (Nat.le_trans hs1 (by show _ ≤ 3 * Lb d + 100; omega)))

set_option maxHeartbeats 8000000 in
set_option maxRecDepth 100000 in
theorem expr_1 {ty base d : Nat} (hE : ExprAt ty base d) {w : World} {b : Nat} {v : Value} {n : Nat} (h : Bard ty base w b v n) (hn : n + (d + 1) ≤ 10) {k a c e : Int} (ik : isI k) (ia : isI a) (ic : isI c) (ie : isI e)
    (hN : ∀ w', Below w.heap.size w w' → Calls Tryz.prog 69 #[.pointer (some ⟨b, 0, none⟩)] w' (NextIs ty base w' b v n k a c e)) (hp : pk k 20 = 1) :
    Calls Tryz.prog 27 #[.pointer (some ⟨b, 0, none⟩), .int .i64 ((d : Int) + 1)] w (BardPost ty base w b v n (Lb (d + 1))) := by
  have HE := Lib.hid hE
  have H := Lib.hid h
  have HN := Lib.hid hN
  have PK := Lib.hid (fun w => hp ▸ picked_any k 20 ik (by omega) (by omega) w)
  have hd0 : (d : Int) ≤ 10 := by omega
  have hd1 : (0 : Int) ≤ (d : Int) := Int.natCast_nonneg _
  have hq : ¬ ((d : Int) + 1 ≤ 0) := by omega
  have hbl := h.lt
  have HNN := Lib.hid (show n + d ≤ 10 by omega)
  have hn100 : n ≤ 100 := by omega
  have hLL := Lb_le d (by omega)
  clear hE h hN hp hn
  have hmf : ∀ (fn : Fn) (first cap : Array Value) (w : World), (Instr.makeFunc fn first cap).run Tryz.prog w = .ok (.func fn first cap) w := fun _ _ _ _ => rfl
  go_enter Tryz.func27, Tryz.ntmps27
  go_wp2_with fail
  refine (HN.out _ (below_a (below_a (Below.refl _ _) _) _)).mono ?_
  rintro q w1 ⟨rfl, h1, ht1⟩
  have S1 := Lib.hid (St.start (d := d) (k := k) (a := a) (c := c) (e := e) H.out 93 3 46 h1 ht1)
  obtain ⟨l1, l2, cb1, cd1⟩ := boxes H.out ht1
  clear h1 ht1
  go_wp2_with fail
  refine (PK.out _).mono ?_
  rintro q w5 ⟨rfl, rfl⟩
  go_wp2_with fail
  refine region_zip (C := CB ty base ⟨b, n, d, w.heap.size, w.heap.size + 1, w1.heap.size, k, a, c, e, (d : Int) + 1, w, v⟩) (R := RB ty base ⟨b, n, d, w.heap.size, w.heap.size + 1, w1.heap.size, k, a, c, e, (d : Int) + 1, w, v⟩)
    (FX := [(5, .pointer (some ⟨w1.heap.size, 0, none⟩)), (6, .func (.func 71) #[] #[.pointer (some ⟨w.heap.size, 0, none⟩), .pointer (some ⟨w.heap.size + 1, 0, none⟩)]), (2, .pointer (some ⟨w.heap.size, 0, none⟩))])
    (sz := 377)
    [pLit ty base ⟨b, n, d, w.heap.size, w.heap.size + 1, w1.heap.size, k, a, c, e, (d : Int) + 1, w, v⟩ 7,
      pVal (.pointer (some ⟨w1.heap.size, 1, none⟩)),
      pVal (.int .i64 a),
      pPick 7,
      pElt ty base ⟨b, n, d, w.heap.size, w.heap.size + 1, w1.heap.size, k, a, c, e, (d : Int) + 1, w, v⟩,
      pStr 20,
      pStr (1 + 20),
      pStr ((1 + 20) + 1),
      pVal (.func (.func 71) #[] #[.pointer (some ⟨w.heap.size, 0, none⟩), .pointer (some ⟨w.heap.size + 1, 0, none⟩)]),
      pStr (Lb d),
      pStr (((1 + 20) + 1) + Lb d),
      pStr ((((1 + 20) + 1) + Lb d) + 1),
      pVal (.func (.func 71) #[] #[.pointer (some ⟨w.heap.size, 0, none⟩), .pointer (some ⟨w.heap.size + 1, 0, none⟩)]),
      pStr (Lb d),
      pStr (((((1 + 20) + 1) + Lb d) + 1) + Lb d),
      pStr ((((((1 + 20) + 1) + Lb d) + 1) + Lb d) + 1),
      pStr ((((((1 + 20) + 1) + Lb d) + 1) + Lb d) + 1)]
    (by kernel_rfl) (by kernel_rfl)
    (.cons (st_lit 7) (.cons (st_val _) (.cons (st_val _) (.cons (st_pick _) (.cons (st_elt) (.cons (st_str _) (.cons (st_str _) (.cons (st_str _) (.cons (st_val _) (.cons (st_str _) (.cons (st_str _) (.cons (st_str _) (.cons (st_val _) (.cons (st_str _) (.cons (st_str _) (.cons (st_str _) (.cons (st_str _) (.nil))))))))))))))))))
    (
      (.cons (ok_lit (fun a w hf hk => by exact ⟨_, by unfold execOp; simp [go_sem]; rfl, fun i hi => by rcases (show i = 0 ∨ i = 1 ∨ i = 2 ∨ i = 3 ∨ i = 4 ∨ i = 5 ∨ i = 6 by omega) with rfl | rfl | rfl | rfl | rfl | rfl | rfl <;> (first | exact ⟨_, rfl, by decide⟩)⟩))
      (.cons (ok_fld (F := ⟨b, n, d, w.heap.size, w.heap.size + 1, w1.heap.size, k, a, c, e, (d : Int) + 1, w, v⟩) (j := 1) (by decide) rfl (of_fixed (by simp)))
      (.cons (ok_ldI (F := ⟨b, n, d, w.heap.size, w.heap.size + 1, w1.heap.size, k, a, c, e, (d : Int) + 1, w, v⟩) (j := 1) rfl (of_dep' ⟨1, .data⟩ (by simp) rfl _ rfl rfl) rfl)
      (.cons (ok_pick (n := 7) rfl (of_dep' ⟨2, .data⟩ (by simp) rfl _ rfl rfl) ia (by decide) (by decide))
      (.cons (ok_idx (n := 7) rfl (of_dep' ⟨0, .data⟩ (by simp) rfl _ rfl rfl) (of_dep' ⟨3, .data⟩ (by simp) rfl _ rfl rfl))
      (.cons (ok_ldS rfl (of_dep' ⟨4, .data⟩ (by simp) rfl _ rfl rfl))
      (.cons (ok_add (A := 1) (B := 20) rfl (of_const (fun _ => ⟨_, rfl, by decide⟩)) (of_dep' ⟨5, .data⟩ (by simp) rfl _ rfl rfl) (Nat.le_refl _) (by omega))
      (.cons (ok_add (A := (1 + 20)) (B := 1) rfl (of_dep' ⟨6, .data⟩ (by simp) rfl _ rfl rfl) (of_const (fun _ => ⟨_, rfl, by decide⟩)) (Nat.le_refl _) (by omega))
      (.cons (ok_mov rfl (of_fixed (by simp)))
      (.cons (ok_sub (F := ⟨b, n, d, w.heap.size, w.heap.size + 1, w1.heap.size, k, a, c, e, (d : Int) + 1, w, v⟩) HE.out HNN.out rfl rfl (of_dep' ⟨8, .data⟩ (by simp) rfl _ rfl rfl))
      (.cons (ok_add (A := ((1 + 20) + 1)) (B := Lb d) rfl (of_dep' ⟨7, .data⟩ (by simp) rfl _ rfl rfl) (of_dep' ⟨9, .data⟩ (by simp) rfl _ rfl rfl) (Nat.le_refl _) (by omega))
      (.cons (ok_add (A := (((1 + 20) + 1) + Lb d)) (B := 1) rfl (of_dep' ⟨10, .data⟩ (by simp) rfl _ rfl rfl) (of_const (fun _ => ⟨_, rfl, by decide⟩)) (Nat.le_refl _) (by omega))
      (.cons (ok_mov rfl (of_fixed (by simp)))
      (.cons (ok_sub (F := ⟨b, n, d, w.heap.size, w.heap.size + 1, w1.heap.size, k, a, c, e, (d : Int) + 1, w, v⟩) HE.out HNN.out rfl rfl (of_dep' ⟨12, .data⟩ (by simp) rfl _ rfl rfl))
      (.cons (ok_add (A := ((((1 + 20) + 1) + Lb d) + 1)) (B := Lb d) rfl (of_dep' ⟨11, .data⟩ (by simp) rfl _ rfl rfl) (of_dep' ⟨13, .data⟩ (by simp) rfl _ rfl rfl) (Nat.le_refl _) (by omega))
      (.cons (ok_add (A := (((((1 + 20) + 1) + Lb d) + 1) + Lb d)) (B := 1) rfl (of_dep' ⟨14, .data⟩ (by simp) rfl _ rfl rfl) (of_const (fun _ => ⟨_, rfl, by decide⟩)) (Nat.le_refl _) (by omega))
      (.cons (ok_asg rfl (of_dep' ⟨15, .data⟩ (by simp) rfl _ rfl rfl)) .nil))))))))))))))))))
    ⟨v, S1.out.new (below_d (Below.refl _ _))⟩ rfl rfl
    (by intro p hp; simp only [List.mem_cons, List.not_mem_nil, or_false] at hp; rcases hp with rfl | rfl | rfl <;> rfl) ?_
  intro a2 w2 hC2 hsz2 hdf2 hfx2 hend2
  obtain ⟨s, hs, hs1⟩ := hend2 16 _ _ 4 rfl rfl rfl
  obtain ⟨v2, h2⟩ := hC2
  clear hend2 hfx2
  go_wp2_with fail
  exact fin_str hs hdf2 (h2.post (Nat.le_trans hs1 (by show _ ≤ 3 * Lb d + 100; omega)))

set_option maxHeartbeats 8000000 in
set_option maxRecDepth 100000 in
theorem expr_5 {ty base d : Nat} (hE : ExprAt ty base d) {w : World} {b : Nat} {v : Value} {n : Nat} (h : Bard ty base w b v n) (hn : n + (d + 1) ≤ 10) {k a c e : Int} (ik : isI k) (ia : isI a) (ic : isI c) (ie : isI e)
    (hN : ∀ w', Below w.heap.size w w' → Calls Tryz.prog 69 #[.pointer (some ⟨b, 0, none⟩)] w' (NextIs ty base w' b v n k a c e)) (hp : pk k 20 = 5) :
    Calls Tryz.prog 27 #[.pointer (some ⟨b, 0, none⟩), .int .i64 ((d : Int) + 1)] w (BardPost ty base w b v n (Lb (d + 1))) := by
  have HE := Lib.hid hE
  have H := Lib.hid h
  have HN := Lib.hid hN
  have PK := Lib.hid (fun w => hp ▸ picked_any k 20 ik (by omega) (by omega) w)
  have hd0 : (d : Int) ≤ 10 := by omega
  have hd1 : (0 : Int) ≤ (d : Int) := Int.natCast_nonneg _
  have hq : ¬ ((d : Int) + 1 ≤ 0) := by omega
  have hbl := h.lt
  have HNN := Lib.hid (show n + d ≤ 10 by omega)
  have hn100 : n ≤ 100 := by omega
  have hLL := Lb_le d (by omega)
  clear hE h hN hp hn
  have hmf : ∀ (fn : Fn) (first cap : Array Value) (w : World), (Instr.makeFunc fn first cap).run Tryz.prog w = .ok (.func fn first cap) w := fun _ _ _ _ => rfl
  go_enter Tryz.func27, Tryz.ntmps27
  go_wp2_with fail
  refine (HN.out _ (below_a (below_a (Below.refl _ _) _) _)).mono ?_
  rintro q w1 ⟨rfl, h1, ht1⟩
  have S1 := Lib.hid (St.start (d := d) (k := k) (a := a) (c := c) (e := e) H.out 93 3 46 h1 ht1)
  obtain ⟨l1, l2, cb1, cd1⟩ := boxes H.out ht1
  clear h1 ht1
  go_wp2_with fail
  refine (PK.out _).mono ?_
  rintro q w5 ⟨rfl, rfl⟩
  go_wp2_with fail
  refine region_zip (C := CB ty base ⟨b, n, d, w.heap.size, w.heap.size + 1, w1.heap.size, k, a, c, e, (d : Int) + 1, w, v⟩) (R := RB ty base ⟨b, n, d, w.heap.size, w.heap.size + 1, w1.heap.size, k, a, c, e, (d : Int) + 1, w, v⟩)
    (FX := [(5, .pointer (some ⟨w1.heap.size, 0, none⟩)), (6, .func (.func 71) #[] #[.pointer (some ⟨w.heap.size, 0, none⟩), .pointer (some ⟨w.heap.size + 1, 0, none⟩)]), (2, .pointer (some ⟨w.heap.size, 0, none⟩))])
    (sz := 377)
    [pLit ty base ⟨b, n, d, w.heap.size, w.heap.size + 1, w1.heap.size, k, a, c, e, (d : Int) + 1, w, v⟩ 5,
      pVal (.pointer (some ⟨w1.heap.size, 1, none⟩)),
      pVal (.int .i64 a),
      pPick 5,
      pElt ty base ⟨b, n, d, w.heap.size, w.heap.size + 1, w1.heap.size, k, a, c, e, (d : Int) + 1, w, v⟩,
      pStr 20,
      pStr (1 + 20),
      pStr ((1 + 20) + 1),
      pVal (.func (.func 71) #[] #[.pointer (some ⟨w.heap.size, 0, none⟩), .pointer (some ⟨w.heap.size + 1, 0, none⟩)]),
      pStr (Lb d),
      pStr (((1 + 20) + 1) + Lb d),
      pStr ((((1 + 20) + 1) + Lb d) + 1),
      pStr ((((1 + 20) + 1) + Lb d) + 1)]
    (by kernel_rfl) (by kernel_rfl)
    (.cons (st_lit 5) (.cons (st_val _) (.cons (st_val _) (.cons (st_pick _) (.cons (st_elt) (.cons (st_str _) (.cons (st_str _) (.cons (st_str _) (.cons (st_val _) (.cons (st_str _) (.cons (st_str _) (.cons (st_str _) (.cons (st_str _) (.nil))))))))))))))
    (
      (.cons (ok_lit (fun a w hf hk => by exact ⟨_, by unfold execOp; simp [go_sem]; rfl, fun i hi => by rcases (show i = 0 ∨ i = 1 ∨ i = 2 ∨ i = 3 ∨ i = 4 by omega) with rfl | rfl | rfl | rfl | rfl <;> (first | exact ⟨_, rfl, by decide⟩)⟩))
      (.cons (ok_fld (F := ⟨b, n, d, w.heap.size, w.heap.size + 1, w1.heap.size, k, a, c, e, (d : Int) + 1, w, v⟩) (j := 1) (by decide) rfl (of_fixed (by simp)))
      (.cons (ok_ldI (F := ⟨b, n, d, w.heap.size, w.heap.size + 1, w1.heap.size, k, a, c, e, (d : Int) + 1, w, v⟩) (j := 1) rfl (of_dep' ⟨1, .data⟩ (by simp) rfl _ rfl rfl) rfl)
      (.cons (ok_pick (n := 5) rfl (of_dep' ⟨2, .data⟩ (by simp) rfl _ rfl rfl) ia (by decide) (by decide))
      (.cons (ok_idx (n := 5) rfl (of_dep' ⟨0, .data⟩ (by simp) rfl _ rfl rfl) (of_dep' ⟨3, .data⟩ (by simp) rfl _ rfl rfl))
      (.cons (ok_ldS rfl (of_dep' ⟨4, .data⟩ (by simp) rfl _ rfl rfl))
      (.cons (ok_add (A := 1) (B := 20) rfl (of_const (fun _ => ⟨_, rfl, by decide⟩)) (of_dep' ⟨5, .data⟩ (by simp) rfl _ rfl rfl) (Nat.le_refl _) (by omega))
      (.cons (ok_add (A := (1 + 20)) (B := 1) rfl (of_dep' ⟨6, .data⟩ (by simp) rfl _ rfl rfl) (of_const (fun _ => ⟨_, rfl, by decide⟩)) (Nat.le_refl _) (by omega))
      (.cons (ok_mov rfl (of_fixed (by simp)))
      (.cons (ok_sub (F := ⟨b, n, d, w.heap.size, w.heap.size + 1, w1.heap.size, k, a, c, e, (d : Int) + 1, w, v⟩) HE.out HNN.out rfl rfl (of_dep' ⟨8, .data⟩ (by simp) rfl _ rfl rfl))
      (.cons (ok_add (A := ((1 + 20) + 1)) (B := Lb d) rfl (of_dep' ⟨7, .data⟩ (by simp) rfl _ rfl rfl) (of_dep' ⟨9, .data⟩ (by simp) rfl _ rfl rfl) (Nat.le_refl _) (by omega))
      (.cons (ok_add (A := (((1 + 20) + 1) + Lb d)) (B := 1) rfl (of_dep' ⟨10, .data⟩ (by simp) rfl _ rfl rfl) (of_const (fun _ => ⟨_, rfl, by decide⟩)) (Nat.le_refl _) (by omega))
      (.cons (ok_asg rfl (of_dep' ⟨11, .data⟩ (by simp) rfl _ rfl rfl)) .nil))))))))))))))
    ⟨v, S1.out.new (below_d (Below.refl _ _))⟩ rfl rfl
    (by intro p hp; simp only [List.mem_cons, List.not_mem_nil, or_false] at hp; rcases hp with rfl | rfl | rfl <;> rfl) ?_
  intro a2 w2 hC2 hsz2 hdf2 hfx2 hend2
  obtain ⟨s, hs, hs1⟩ := hend2 12 _ _ 4 rfl rfl rfl
  obtain ⟨v2, h2⟩ := hC2
  clear hend2 hfx2
  go_wp2_with fail
  exact fin_str hs hdf2 (h2.post (Nat.le_trans hs1 (by show _ ≤ 3 * Lb d + 100; omega)))

set_option maxHeartbeats 8000000 in
set_option maxRecDepth 100000 in
theorem expr_8 {ty base d : Nat} (hE : ExprAt ty base d) {w : World} {b : Nat} {v : Value} {n : Nat} (h : Bard ty base w b v n) (hn : n + (d + 1) ≤ 10) {k a c e : Int} (ik : isI k) (ia : isI a) (ic : isI c) (ie : isI e)
    (hN : ∀ w', Below w.heap.size w w' → Calls Tryz.prog 69 #[.pointer (some ⟨b, 0, none⟩)] w' (NextIs ty base w' b v n k a c e)) (hp : pk k 20 = 8) :
    Calls Tryz.prog 27 #[.pointer (some ⟨b, 0, none⟩), .int .i64 ((d : Int) + 1)] w (BardPost ty base w b v n (Lb (d + 1))) := by
  have HE := Lib.hid hE
  have H := Lib.hid h
  have HN := Lib.hid hN
  have PK := Lib.hid (fun w => hp ▸ picked_any k 20 ik (by omega) (by omega) w)
  have hd0 : (d : Int) ≤ 10 := by omega
  have hd1 : (0 : Int) ≤ (d : Int) := Int.natCast_nonneg _
  have hq : ¬ ((d : Int) + 1 ≤ 0) := by omega
  have hbl := h.lt
  have HNN := Lib.hid (show n + d ≤ 10 by omega)
  have hn100 : n ≤ 100 := by omega
  have hLL := Lb_le d (by omega)
  clear hE h hN hp hn
  have hmf : ∀ (fn : Fn) (first cap : Array Value) (w : World), (Instr.makeFunc fn first cap).run Tryz.prog w = .ok (.func fn first cap) w := fun _ _ _ _ => rfl
  go_enter Tryz.func27, Tryz.ntmps27
  go_wp2_with fail
  refine (HN.out _ (below_a (below_a (Below.refl _ _) _) _)).mono ?_
  rintro q w1 ⟨rfl, h1, ht1⟩
  have S1 := Lib.hid (St.start (d := d) (k := k) (a := a) (c := c) (e := e) H.out 93 3 46 h1 ht1)
  obtain ⟨l1, l2, cb1, cd1⟩ := boxes H.out ht1
  clear h1 ht1
  go_wp2_with fail
  refine (PK.out _).mono ?_
  rintro q w5 ⟨rfl, rfl⟩
  go_wp2_with fail
  refine region_zip (C := CB ty base ⟨b, n, d, w.heap.size, w.heap.size + 1, w1.heap.size, k, a, c, e, (d : Int) + 1, w, v⟩) (R := RB ty base ⟨b, n, d, w.heap.size, w.heap.size + 1, w1.heap.size, k, a, c, e, (d : Int) + 1, w, v⟩)
    (FX := [(5, .pointer (some ⟨w1.heap.size, 0, none⟩)), (6, .func (.func 71) #[] #[.pointer (some ⟨w.heap.size, 0, none⟩), .pointer (some ⟨w.heap.size + 1, 0, none⟩)]), (2, .pointer (some ⟨w.heap.size, 0, none⟩))])
    (sz := 377)
    [pLit ty base ⟨b, n, d, w.heap.size, w.heap.size + 1, w1.heap.size, k, a, c, e, (d : Int) + 1, w, v⟩ 2,
      pVal (.pointer (some ⟨w1.heap.size, 1, none⟩)),
      pVal (.int .i64 a),
      pPick 2,
      pElt ty base ⟨b, n, d, w.heap.size, w.heap.size + 1, w1.heap.size, k, a, c, e, (d : Int) + 1, w, v⟩,
      pStr 20,
      pStr (1 + 20),
      pStr ((1 + 20) + 4),
      pVal (.func (.func 71) #[] #[.pointer (some ⟨w.heap.size, 0, none⟩), .pointer (some ⟨w.heap.size + 1, 0, none⟩)]),
      pStr (Lb d),
      pStr (((1 + 20) + 4) + Lb d),
      pStr ((((1 + 20) + 4) + Lb d) + 1),
      pVal (.func (.func 71) #[] #[.pointer (some ⟨w.heap.size, 0, none⟩), .pointer (some ⟨w.heap.size + 1, 0, none⟩)]),
      pStr (Lb d),
      pStr (((((1 + 20) + 4) + Lb d) + 1) + Lb d),
      pStr ((((((1 + 20) + 4) + Lb d) + 1) + Lb d) + 2),
      pStr ((((((1 + 20) + 4) + Lb d) + 1) + Lb d) + 2)]
    (by kernel_rfl) (by kernel_rfl)
    (.cons (st_lit 2) (.cons (st_val _) (.cons (st_val _) (.cons (st_pick _) (.cons (st_elt) (.cons (st_str _) (.cons (st_str _) (.cons (st_str _) (.cons (st_val _) (.cons (st_str _) (.cons (st_str _) (.cons (st_str _) (.cons (st_val _) (.cons (st_str _) (.cons (st_str _) (.cons (st_str _) (.cons (st_str _) (.nil))))))))))))))))))
    (
      (.cons (ok_lit (fun a w hf hk => by exact ⟨_, by unfold execOp; simp [go_sem]; rfl, fun i hi => by rcases (show i = 0 ∨ i = 1 by omega) with rfl | rfl <;> (first | exact ⟨_, rfl, by decide⟩)⟩))
      (.cons (ok_fld (F := ⟨b, n, d, w.heap.size, w.heap.size + 1, w1.heap.size, k, a, c, e, (d : Int) + 1, w, v⟩) (j := 1) (by decide) rfl (of_fixed (by simp)))
      (.cons (ok_ldI (F := ⟨b, n, d, w.heap.size, w.heap.size + 1, w1.heap.size, k, a, c, e, (d : Int) + 1, w, v⟩) (j := 1) rfl (of_dep' ⟨1, .data⟩ (by simp) rfl _ rfl rfl) rfl)
      (.cons (ok_pick (n := 2) rfl (of_dep' ⟨2, .data⟩ (by simp) rfl _ rfl rfl) ia (by decide) (by decide))
      (.cons (ok_idx (n := 2) rfl (of_dep' ⟨0, .data⟩ (by simp) rfl _ rfl rfl) (of_dep' ⟨3, .data⟩ (by simp) rfl _ rfl rfl))
      (.cons (ok_ldS rfl (of_dep' ⟨4, .data⟩ (by simp) rfl _ rfl rfl))
      (.cons (ok_add (A := 1) (B := 20) rfl (of_const (fun _ => ⟨_, rfl, by decide⟩)) (of_dep' ⟨5, .data⟩ (by simp) rfl _ rfl rfl) (Nat.le_refl _) (by omega))
      (.cons (ok_add (A := (1 + 20)) (B := 4) rfl (of_dep' ⟨6, .data⟩ (by simp) rfl _ rfl rfl) (of_const (fun _ => ⟨_, rfl, by decide⟩)) (Nat.le_refl _) (by omega))
      (.cons (ok_mov rfl (of_fixed (by simp)))
      (.cons (ok_sub (F := ⟨b, n, d, w.heap.size, w.heap.size + 1, w1.heap.size, k, a, c, e, (d : Int) + 1, w, v⟩) HE.out HNN.out rfl rfl (of_dep' ⟨8, .data⟩ (by simp) rfl _ rfl rfl))
      (.cons (ok_add (A := ((1 + 20) + 4)) (B := Lb d) rfl (of_dep' ⟨7, .data⟩ (by simp) rfl _ rfl rfl) (of_dep' ⟨9, .data⟩ (by simp) rfl _ rfl rfl) (Nat.le_refl _) (by omega))
      (.cons (ok_add (A := (((1 + 20) + 4) + Lb d)) (B := 1) rfl (of_dep' ⟨10, .data⟩ (by simp) rfl _ rfl rfl) (of_const (fun _ => ⟨_, rfl, by decide⟩)) (Nat.le_refl _) (by omega))
      (.cons (ok_mov rfl (of_fixed (by simp)))
      (.cons (ok_sub (F := ⟨b, n, d, w.heap.size, w.heap.size + 1, w1.heap.size, k, a, c, e, (d : Int) + 1, w, v⟩) HE.out HNN.out rfl rfl (of_dep' ⟨12, .data⟩ (by simp) rfl _ rfl rfl))
      (.cons (ok_add (A := ((((1 + 20) + 4) + Lb d) + 1)) (B := Lb d) rfl (of_dep' ⟨11, .data⟩ (by simp) rfl _ rfl rfl) (of_dep' ⟨13, .data⟩ (by simp) rfl _ rfl rfl) (Nat.le_refl _) (by omega))
      (.cons (ok_add (A := (((((1 + 20) + 4) + Lb d) + 1) + Lb d)) (B := 2) rfl (of_dep' ⟨14, .data⟩ (by simp) rfl _ rfl rfl) (of_const (fun _ => ⟨_, rfl, by decide⟩)) (Nat.le_refl _) (by omega))
      (.cons (ok_asg rfl (of_dep' ⟨15, .data⟩ (by simp) rfl _ rfl rfl)) .nil))))))))))))))))))
    ⟨v, S1.out.new (below_d (Below.refl _ _))⟩ rfl rfl
    (by intro p hp; simp only [List.mem_cons, List.not_mem_nil, or_false] at hp; rcases hp with rfl | rfl | rfl <;> rfl) ?_
  intro a2 w2 hC2 hsz2 hdf2 hfx2 hend2
  obtain ⟨s, hs, hs1⟩ := hend2 16 _ _ 4 rfl rfl rfl
  obtain ⟨v2, h2⟩ := hC2
  clear hend2 hfx2
  go_wp2_with fail
  exact fin_str hs hdf2 (h2.post (Nat.le_trans hs1 (by show _ ≤ 3 * Lb d + 100; omega)))
end Go.Proofs.YtadcklijdbbkjaaGreatDoor
