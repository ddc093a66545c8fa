/- bard.expr at a level above 0: case 18. Printed by gen_expr.py. -/
import Derived.Test.YtadcklijdbbkjaaGreatDoorZip
import Derived.Deep.Cut
import Derived.Deep.CutRange
import Derived.Deep.RegionLaw
import Derived.Deep.RegionHeld3
import Derived.StillTailTactics
namespace Go.Proofs.YtadcklijdbbkjaaGreatDoor
open Go.RowKit Go.ChangeShapes Go.WideShapes Go.Deep
set_option linter.unusedVariables false

set_option maxHeartbeats 8000000 in
set_option maxRecDepth 100000 in
theorem expr_18 {base d : Nat} (hE : ExprAt 9 base d) {w : World} {b : Nat} {v : Value} {n : Nat} (h : Bard 9 base w b v n) (hn : n + (d + 1) ≤ 10) {k a c e : Int} (ik : isI k) (ia : isI a) (ic : isI c) (ie : isI e)
    (hN : ∀ w', Below w.heap.size w w' → Calls Tryz.prog 69 #[.pointer (some ⟨b, 0, none⟩)] w' (NextIs 9 base w' b v n k a c e)) (hp : pk k 20 = 18) :
    Calls Tryz.prog 27 #[.pointer (some ⟨b, 0, none⟩), .int .i64 ((d : Int) + 1)] w (BardPost 9 base w b v n (Lb (d + 1))) := by
  have HE := Lib.hid hE
  have H := Lib.hid h
  have HN := Lib.hid hN
  have PK := Lib.hid (fun w => hp ▸ picked_any k 20 ik (by omega) (by omega) w)
  have hd0 : (d : Int) ≤ 10 := by omega
  have hd1 : (0 : Int) ≤ (d : Int) := Int.natCast_nonneg _
  have hq : ¬ ((d : Int) + 1 ≤ 0) := by omega
  have hbl := h.lt
  have HNN := Lib.hid (show n + d ≤ 10 by omega)
  have hn100 : n ≤ 100 := by omega
  have hLL := Lb_le d (by omega)
  obtain ⟨i, hi5, PA0⟩ := pick_n a ia 5 (by decide) (by decide)
  have PA := Lib.hid PA0
  have j0 : (0 : Int) ≤ (i : Int) := Int.natCast_nonneg _
  have j1 : (i : Int) < 5 := by omega
  clear PA0
  obtain ⟨i0, hi, hz0, hz1, hz2⟩ := info_parts infoString
  have HI := Lib.hid hi
  have HI0 := Lib.hid hz0
  have HI1 := Lib.hid hz1
  have HI2 := Lib.hid hz2
  have hnp := h.pos
  have HNP := Lib.hid (show n + 1 + d ≤ 10 by omega)
  clear hi hz0 hz1 hz2
  clear hE h hN hp hn
  have hmf : ∀ (fn : Fn) (first cap : Array Value) (w : World), (Instr.makeFunc fn first cap).run Tryz.prog w = .ok (.func fn first cap) w := fun _ _ _ _ => rfl
  go_enter Tryz.func27, Tryz.ntmps27
  go_wp2_with fail
  refine (HN.out _ (below_a (below_a (Below.refl _ _) _) _)).mono ?_
  rintro q w1 ⟨rfl, h1, ht1⟩
  have S1 := Lib.hid (St.start (d := d) (k := k) (a := a) (c := c) (e := e) H.out 93 3 46 h1 ht1)
  obtain ⟨l1, l2, cb1, cd1⟩ := boxes H.out ht1
  clear h1 ht1
  go_wp2_with fail
  refine (PK.out _).mono ?_
  rintro q w5 ⟨rfl, rfl⟩
  go_upto_region 51 with fail
  obtain ⟨WW, hWW⟩ : ∃ WW, WW = w1.alloc (.cells #[.int .i64 k, .int .i64 a, .int .i64 c, .int .i64 e] 46) := ⟨_, rfl⟩
  have SW := Lib.hid (show St 9 base ⟨b, n, d, w.heap.size, w.heap.size + 1, w1.heap.size, k, a, c, e, (d : Int) + 1, w, v⟩ WW v from by rw [hWW]; exact S1.out)
  rw [← hWW]
  clear hWW
  obtain ⟨X, g, cap, hX, hv, hle, hcap, hO, hloc, hfr, hbw⟩ := SW.out.loc
  have hX' : X.length = n := hX
  have cbW : WW.cell? ⟨w.heap.size, 0, none⟩ = some (.pointer (some ⟨b, 0, none⟩)) := SW.out.cb
  have lbW : w.heap.size < WW.heap.size := SW.out.lB
  have locW : WW.cell? ⟨b, 1, none⟩ = some v := hloc
  have frW : WW.frozen? ⟨b, 1, none⟩ = false := hfr
  have lbb : b < WW.heap.size := hbw
  have HX := Lib.hid hX'
  have HO := Lib.hid (hO.new (below_d (Below.refl WW.heap.size WW)))
  have HYL := Lib.hid (show (X.length + 1) * 16 ≤ 140737488355328 ∧ X.length + 1 ≤ maxLen from by rw [hX']; unfold maxLen; omega)
  have HBASE := Lib.hid (show base ≤ WW.drew.heap.size from SW.out.bard.base_le)
  clear hX hX' hle hcap hO hloc hfr hbw
  rw [hv] at locW
  go_cut [335] from 327 to 335 (fun u wx => ∃ v', St 9 base ⟨b, n + 1, d, w.heap.size, w.heap.size + 1, w1.heap.size, k, a, c, e, (d : Int) + 1, w, v⟩ wx v')
  case first =>
    go_region_law (first
      | (refine step_own (by rfl) (.tmp 331) (.tmp 332) (by rfl) Tryz.underlying48 HI.out HI0.out HI1.out HI2.out rfl (by decide) HO.out ⟨#[107]⟩ _ rfl (by show _ ≤ 20; decide) (fun _ h => h.elim) (fun _ h => h.elim) (by first | rfl | exact hv.symm) (by rfl) HYL.out HBASE.out ?_; intro v7 w7 h7 hg7 hv7; obtain ⟨A7, c7, rfl, _⟩ := h7.form; obtain ⟨m1, m2, m3, m4, m5⟩ := (SW.out.new (below_d (Below.refl _ _))).mid hg7; have HPUSH := Lib.hid ((SW.out.new (below_d (Below.refl _ _))).push HX.out h7 hg7 hv7); clear h7 hg7 hv7))
    all_goals go_wp2_with fail
    all_goals go_meet
    all_goals (have h := HPUSH.out; simp only [List.length_append, List.length_cons, List.length_nil, Nat.zero_add] at h; exact ⟨_, h⟩)
  case rest =>
    obtain ⟨v8, hst⟩ := hcut
    have S8 := Lib.hid hst
    clear hst
    go_upto_region 52 with fail
    refine region_all (C := CB 9 base ⟨b, n + 1, d, w.heap.size, w.heap.size + 1, w1.heap.size, k, a, c, e, (d : Int) + 1, w, v⟩) (R := RB 9 base ⟨b, n + 1, d, w.heap.size, w.heap.size + 1, w1.heap.size, k, a, c, e, (d : Int) + 1, w, v⟩)
      (FX := [(5, .pointer (some ⟨w1.heap.size, 0, none⟩)), (2, .pointer (some ⟨w.heap.size, 0, none⟩)), (3, .pointer (some ⟨w.heap.size + 1, 0, none⟩))])
      (sz := 377)
      [pVal (.pointer (some ⟨w1.heap.size, 1, none⟩)),
          pVal (.int .i64 a),
          pPick 5,
          pStr 20,
          pStr (9 + 20),
          pStr ((9 + 20) + 39),
          pVal (.pointer (some ⟨b, 0, none⟩)),
          pVal (.int .i64 ((d : Int) + 1)),
          pVal (.int .i64 (d : Int)),
          pStr (Lb d),
          pStr (((9 + 20) + 39) + Lb d),
          pStr ((((9 + 20) + 39) + Lb d) + 4),
          pStr ((((9 + 20) + 39) + Lb d) + 4)]
      (by kernel_rfl) (by kernel_rfl)
      (.cons (st_val _) (.cons (st_val _) (.cons (st_pick _) (.cons (st_str _) (.cons (st_str _) (.cons (st_str _) (.cons (st_val _) (.cons (st_val _) (.cons (st_val _) (.cons (st_str _) (.cons (st_str _) (.cons (st_str _) (.cons (st_str _) (.nil))))))))))))))
      (
        (.cons (ok_fld (F := ⟨b, n + 1, d, w.heap.size, w.heap.size + 1, w1.heap.size, k, a, c, e, (d : Int) + 1, w, v⟩) (j := 1) (by decide) rfl (of_fixed (by simp)))
          (.cons (ok_ldI (F := ⟨b, n + 1, d, w.heap.size, w.heap.size + 1, w1.heap.size, k, a, c, e, (d : Int) + 1, w, v⟩) (j := 1) rfl (of_dep' ⟨0, .data⟩ (by simp) rfl _ rfl rfl) rfl)
          (.cons (ok_pick (n := 5) rfl (of_dep' ⟨1, .data⟩ (by simp) rfl _ rfl rfl) ia (by decide) (by decide))
          (.cons (ok_itoa rfl (of_rng (n := 5) (of_dep' ⟨2, .data⟩ (by simp) rfl _ rfl rfl)) (by decide) (by decide))
          (.cons (ok_add (A := 9) (B := 20) rfl (of_const (fun _ => ⟨_, rfl, by decide⟩)) (of_dep' ⟨3, .data⟩ (by simp) rfl _ rfl rfl) (Nat.le_refl _) (by omega))
          (.cons (ok_add (A := (9 + 20)) (B := 39) rfl (of_dep' ⟨4, .data⟩ (by simp) rfl _ rfl rfl) (of_const (fun _ => ⟨_, rfl, by decide⟩)) (Nat.le_refl _) (by omega))
          (.cons (ok_ldB (F := ⟨b, n + 1, d, w.heap.size, w.heap.size + 1, w1.heap.size, k, a, c, e, (d : Int) + 1, w, v⟩) rfl (of_fixed (by simp)))
          (.cons (ok_ldD (F := ⟨b, n + 1, d, w.heap.size, w.heap.size + 1, w1.heap.size, k, a, c, e, (d : Int) + 1, w, v⟩) rfl (of_fixed (by simp)))
          (.cons (ok_dec (m := d) (by omega) rfl (of_dep' ⟨7, .data⟩ (by simp) rfl _ rfl rfl))
          (.cons (ok_expr (F := ⟨b, n + 1, d, w.heap.size, w.heap.size + 1, w1.heap.size, k, a, c, e, (d : Int) + 1, w, v⟩) HE.out HNP.out rfl (of_dep' ⟨6, .data⟩ (by simp) rfl _ rfl rfl) (of_dep' ⟨8, .data⟩ (by simp) rfl _ rfl rfl))
          (.cons (ok_add (A := ((9 + 20) + 39)) (B := Lb d) rfl (of_dep' ⟨5, .data⟩ (by simp) rfl _ rfl rfl) (of_dep' ⟨9, .data⟩ (by simp) rfl _ rfl rfl) (Nat.le_refl _) (by omega))
          (.cons (ok_add (A := (((9 + 20) + 39) + Lb d)) (B := 4) rfl (of_dep' ⟨10, .data⟩ (by simp) rfl _ rfl rfl) (of_const (fun _ => ⟨_, rfl, by decide⟩)) (Nat.le_refl _) (by omega))
          (.cons (ok_asg rfl (of_dep' ⟨11, .data⟩ (by simp) rfl _ rfl rfl)) .nil))))))))))))))
      ⟨v8, S8.out.new (below_d (Below.refl _ _))⟩ rfl rfl
      (by intro p hp; simp only [List.mem_cons, List.not_mem_nil, or_false] at hp; rcases hp with rfl | rfl | rfl <;> rfl) ?_
    intro f w9 hC9 hend9
    obtain ⟨s1, hs1e, hs1⟩ := hend9 12 _ _ 12 rfl rfl rfl
    obtain ⟨v9, hst⟩ := hC9
    clear hend9
    simp only [List.filterMap_cons, List.filterMap_nil, putAll, hs1e]
    have S9 := Lib.hid hst
    have HS1 := Lib.hid hs1
    have b1 : s1.size ≤ 200000000 := by omega
    have cb9 : w9.cell? ⟨w.heap.size, 0, none⟩ = some (.pointer (some ⟨b, 0, none⟩)) := hst.cb
    obtain ⟨X9, g9, cap9, _, hv9, hle9, hcap9, _, loc9, fr9, bl9⟩ := hst.loc
    have hv9' : v9 = .slice (some ⟨g9, 0, none⟩) (n + 1) cap9 := hv9
    have loc9' : w9.cell? ⟨b, 1, none⟩ = some (.slice (some ⟨g9, 0, none⟩) (n + 1) cap9) := by rw [← hv9']; exact loc9
    have fr9' : w9.frozen? ⟨b, 1, none⟩ = false := fr9
    have hle9' : n + 1 ≤ cap9 := hle9
    have bl9' : b < w9.heap.size := bl9
    unfold maxLen at hcap9
    rw [hv9'] at S9
    have SC := Lib.hid (show St 9 base ⟨b, n, d, w.heap.size, w.heap.size + 1, w1.heap.size, k, a, c, e, (d : Int) + 1, w, v⟩ (w9.drew.setCell ⟨b, 1, none⟩ (.slice (some ⟨g9, 0, none⟩) n cap9)) (.slice (some ⟨g9, 0, none⟩) n cap9) from (S9.out.new (below_d (Below.refl _ _))).cut (m := n) rfl hnp)
    obtain ⟨m, hm⟩ : ∃ m, m = n + 1 := ⟨_, rfl⟩
    rw [← hm] at loc9' hle9'
    have hmn : (m : Int) - 1 = (n : Int) := by omega
    have hmw : IntKind.i64.wrap (n : Int) = (n : Int) := IntWalk.i64_in _ (by omega)
    have hn0 : (0 : Int) ≤ (n : Int) := Int.natCast_nonneg _
    have hnc : (n : Int) ≤ (cap9 : Int) := by omega
    have hnc' : n ≤ cap9 := by omega
    have hnc2 : ¬ cap9 < n := by omega
    clear hst hs1 hv9 hv9' hle9 loc9 fr9 bl9
    go_wp2_with fail
    go_still_tail 12, (by kernel_rfl)
    change wpList _ _ _ _ _ w9.drew
    obtain ⟨wd, hwd⟩ : ∃ wd, wd = w9.drew := ⟨_, rfl⟩
    have locd : wd.cell? ⟨b, 1, none⟩ = some (.slice (some ⟨g9, 0, none⟩) m cap9) := by rw [hwd]; simpa using loc9'
    have frd : wd.frozen? ⟨b, 1, none⟩ = false := by rw [hwd]; simpa using fr9'
    rw [← hwd] at SC ⊢
    clear hwd
    go_wp2_with fail
    go_ret
    refine SC.out.post ?_
    have q1 := HS1.out
    show _ ≤ 3 * Lb d + 100
    omega
end Go.Proofs.YtadcklijdbbkjaaGreatDoor
