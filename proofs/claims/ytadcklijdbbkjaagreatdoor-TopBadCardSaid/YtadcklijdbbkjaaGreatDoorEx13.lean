/- bard.expr at a level above 0: case 13. Printed by gen_expr.py. -/
import Derived.Test.YtadcklijdbbkjaaGreatDoorZip
import Derived.Deep.Cut
import Derived.Deep.CutRange
import Derived.Deep.RegionLaw
import Derived.Deep.RegionHeld3
import Derived.StillTailTactics
namespace Go.Proofs.YtadcklijdbbkjaaGreatDoor
open Go.RowKit Go.ChangeShapes Go.WideShapes Go.Deep
set_option linter.unusedVariables false

set_option maxHeartbeats 8000000 in
set_option maxRecDepth 100000 in
theorem expr_13 {base d : Nat} (hE : ExprAt 9 base d) {w : World} {b : Nat} {v : Value} {n : Nat} (h : Bard 9 base w b v n) (hn : n + (d + 1) ≤ 10) {k a c e : Int} (ik : isI k) (ia : isI a) (ic : isI c) (ie : isI e)
    (hN : ∀ w', Below w.heap.size w w' → Calls Tryz.prog 69 #[.pointer (some ⟨b, 0, none⟩)] w' (NextIs 9 base w' b v n k a c e)) (hp : pk k 20 = 13) :
    Calls Tryz.prog 27 #[.pointer (some ⟨b, 0, none⟩), .int .i64 ((d : Int) + 1)] w (BardPost 9 base w b v n (Lb (d + 1))) := by
  have HE := Lib.hid hE
  have H := Lib.hid h
  have HN := Lib.hid hN
  have PK := Lib.hid (fun w => hp ▸ picked_any k 20 ik (by omega) (by omega) w)
  have hd0 : (d : Int) ≤ 10 := by omega
  have hd1 : (0 : Int) ≤ (d : Int) := Int.natCast_nonneg _
  have hq : ¬ ((d : Int) + 1 ≤ 0) := by omega
  have hbl := h.lt
  have HNN := Lib.hid (show n + d ≤ 10 by omega)
  have hn100 : n ≤ 100 := by omega
  have hLL := Lb_le d (by omega)
  obtain ⟨i, sA, hi5, PA0, hlit0, hsA⟩ := pick_lit a ia #[.string ⟨#[117]⟩, .string ⟨#[118]⟩, .string ⟨#[119]⟩] (by decide) (by decide) (by intro j hj; simp at hj; rcases (show j = 0 ∨ j = 1 ∨ j = 2 by omega) with rfl | rfl | rfl <;> exact ⟨_, rfl, by decide⟩)
  have PA := Lib.hid PA0
  have hlit := lit_cell #[.string ⟨#[117]⟩, .string ⟨#[118]⟩, .string ⟨#[119]⟩] 9 i _ hlit0
  have hli : ([.string ⟨#[117]⟩, .string ⟨#[118]⟩, .string ⟨#[119]⟩] : List Value)[i]? = some (.string sA) := (by simpa using hlit0)
  have HSA := Lib.hid hsA
  have bA : sA.size ≤ 100 := by omega
  have j0 : (0 : Int) ≤ (i : Int) := Int.natCast_nonneg _
  have j1 : (i : Int) < 3 := by simp at hi5; omega
  clear PA0 hlit0 hsA hi5
  obtain ⟨i0, hi, hz0, hz1, hz2⟩ := info_parts infoString
  have HI := Lib.hid hi
  have HI0 := Lib.hid hz0
  have HI1 := Lib.hid hz1
  have HI2 := Lib.hid hz2
  have hnp := h.pos
  have HNP := Lib.hid (show n + 1 + d ≤ 10 by omega)
  clear hi hz0 hz1 hz2
  clear hE h hN hp hn
  have hmf : ∀ (fn : Fn) (first cap : Array Value) (w : World), (Instr.makeFunc fn first cap).run Tryz.prog w = .ok (.func fn first cap) w := fun _ _ _ _ => rfl
  go_enter Tryz.func27, Tryz.ntmps27
  go_wp2_with fail
  refine (HN.out _ (below_a (below_a (Below.refl _ _) _) _)).mono ?_
  rintro q w1 ⟨rfl, h1, ht1⟩
  have S1 := Lib.hid (St.start (d := d) (k := k) (a := a) (c := c) (e := e) H.out 93 3 46 h1 ht1)
  obtain ⟨l1, l2, cb1, cd1⟩ := boxes H.out ht1
  clear h1 ht1
  go_wp2_with fail
  refine (PK.out _).mono ?_
  rintro q w5 ⟨rfl, rfl⟩
  go_wp2_with fail
  refine (S1.out.sub HE.out HNN.out).mono ?_
  rintro q w12 ⟨s0, v12, rfl, hs0, hst, _⟩
  have S12 := Lib.hid hst
  have HS0 := Lib.hid hs0
  have b0 : s0.size ≤ 100000000 := Nat.le_trans hs0 hLL
  have lR12 : w1.heap.size < w12.heap.size := hst.lR
  have r12 : w12.cell? ⟨w1.heap.size, 1, none⟩ = some (.int .i64 a) := hst.r1
  clear hst hs0
  go_wp2_with fail
  refine (PA.out _).mono ?_
  rintro q w5 ⟨rfl, rfl⟩
  go_upto_region 32 with fail
  obtain ⟨WW, hWW⟩ : ∃ WW, WW = w12.alloc (.cells #[.string ⟨#[117]⟩, .string ⟨#[118]⟩, .string ⟨#[119]⟩] 9) := ⟨_, rfl⟩
  have SW := Lib.hid (show St 9 base ⟨b, n, d, w.heap.size, w.heap.size + 1, w1.heap.size, k, a, c, e, (d : Int) + 1, w, v⟩ WW v12 from by rw [hWW]; exact S12.out.new (below_a (Below.refl _ _) _))
  rw [← hWW]
  clear hWW
  obtain ⟨X, g, cap, hX, hv, hle, hcap, hO, hloc, hfr, hbw⟩ := SW.out.loc
  have hX' : X.length = n := hX
  have cbW : WW.cell? ⟨w.heap.size, 0, none⟩ = some (.pointer (some ⟨b, 0, none⟩)) := SW.out.cb
  have lbW : w.heap.size < WW.heap.size := SW.out.lB
  have locW : WW.cell? ⟨b, 1, none⟩ = some v12 := hloc
  have frW : WW.frozen? ⟨b, 1, none⟩ = false := hfr
  have lbb : b < WW.heap.size := hbw
  have HX := Lib.hid hX'
  have HO := Lib.hid (hO.new (below_d (Below.refl WW.heap.size WW)))
  have HYL := Lib.hid (show (X.length + 1) * 16 ≤ 140737488355328 ∧ X.length + 1 ≤ maxLen from by rw [hX']; unfold maxLen; omega)
  have HBASE := Lib.hid (show base ≤ WW.drew.heap.size from SW.out.bard.base_le)
  clear hX hX' hle hcap hO hloc hfr hbw
  rw [hv] at locW
  go_cut [198] from 189 to 198 (fun u wx => ∃ v', St 9 base ⟨b, n + 1, d, w.heap.size, w.heap.size + 1, w1.heap.size, k, a, c, e, (d : Int) + 1, w, v⟩ wx v')
  case first =>
    go_region_law (first
      | (refine step_own (by rfl) (.tmp 193) (.tmp 195) (by rfl) Tryz.underlying48 HI.out HI0.out HI1.out HI2.out rfl (by decide) HO.out sA _ rfl HSA.out (fun _ h => h.elim) (fun _ h => h.elim) (by first | rfl | exact hv.symm) (by rfl) HYL.out HBASE.out ?_; intro v7 w7 h7 hg7 hv7; obtain ⟨A7, c7, rfl, _⟩ := h7.form; obtain ⟨m1, m2, m3, m4, m5⟩ := (SW.out.new (below_d (Below.refl _ _))).mid hg7; have HPUSH := Lib.hid ((SW.out.new (below_d (Below.refl _ _))).push HX.out h7 hg7 hv7); clear h7 hg7 hv7))
    all_goals go_wp2_with fail
    all_goals go_meet
    all_goals (have h := HPUSH.out; simp only [List.length_append, List.length_cons, List.length_nil, Nat.zero_add] at h; exact ⟨_, h⟩)
  case rest =>
    obtain ⟨v8, hst⟩ := hcut
    have S8 := Lib.hid hst
    have cb8 : wc.cell? ⟨w.heap.size, 0, none⟩ = some (.pointer (some ⟨b, 0, none⟩)) := hst.cb
    have cd8 : wc.cell? ⟨w.heap.size + 1, 0, none⟩ = some (.int .i64 ((d : Int) + 1)) := hst.cd
    clear hst
    go_wp2_with fail
    refine (S8.out.expr HE.out HNP.out).mono ?_
    rintro q w9 ⟨s1, v9, rfl, hs1, hst, _⟩
    have S9 := Lib.hid hst
    have HS1 := Lib.hid hs1
    have b1 : s1.size ≤ 100000000 := Nat.le_trans hs1 hLL
    have cb9 : w9.cell? ⟨w.heap.size, 0, none⟩ = some (.pointer (some ⟨b, 0, none⟩)) := hst.cb
    obtain ⟨X9, g9, cap9, _, hv9, hle9, hcap9, _, loc9, fr9, bl9⟩ := hst.loc
    have hv9' : v9 = .slice (some ⟨g9, 0, none⟩) (n + 1) cap9 := hv9
    have loc9' : w9.cell? ⟨b, 1, none⟩ = some (.slice (some ⟨g9, 0, none⟩) (n + 1) cap9) := by rw [← hv9']; exact loc9
    have fr9' : w9.frozen? ⟨b, 1, none⟩ = false := fr9
    have hle9' : n + 1 ≤ cap9 := hle9
    have bl9' : b < w9.heap.size := bl9
    unfold maxLen at hcap9
    rw [hv9'] at S9
    have SC := Lib.hid (show St 9 base ⟨b, n, d, w.heap.size, w.heap.size + 1, w1.heap.size, k, a, c, e, (d : Int) + 1, w, v⟩ (w9.drew.setCell ⟨b, 1, none⟩ (.slice (some ⟨g9, 0, none⟩) n cap9)) (.slice (some ⟨g9, 0, none⟩) n cap9) from (S9.out.new (below_d (Below.refl _ _))).cut (m := n) rfl hnp)
    obtain ⟨m, hm⟩ : ∃ m, m = n + 1 := ⟨_, rfl⟩
    rw [← hm] at loc9' hle9'
    have hmn : (m : Int) - 1 = (n : Int) := by omega
    have hmw : IntKind.i64.wrap (n : Int) = (n : Int) := IntWalk.i64_in _ (by omega)
    have hn0 : (0 : Int) ≤ (n : Int) := Int.natCast_nonneg _
    have hnc : (n : Int) ≤ (cap9 : Int) := by omega
    have hnc' : n ≤ cap9 := by omega
    have hnc2 : ¬ cap9 < n := by omega
    clear hst hs1 hv9 hv9' hle9 loc9 fr9 bl9
    go_wp2_with fail
    go_still_tail 12, (by kernel_rfl)
    change wpList _ _ _ _ _ w9.drew
    obtain ⟨wd, hwd⟩ : ∃ wd, wd = w9.drew := ⟨_, rfl⟩
    have locd : wd.cell? ⟨b, 1, none⟩ = some (.slice (some ⟨g9, 0, none⟩) m cap9) := by rw [hwd]; simpa using loc9'
    have frd : wd.frozen? ⟨b, 1, none⟩ = false := by rw [hwd]; simpa using fr9'
    rw [← hwd] at SC ⊢
    clear hwd
    go_wp2_with fail
    go_ret
    refine SC.out.post ?_
    have q0 := HS0.out
    have q1 := HS1.out
    have q3 := HSA.out
    simp only [size_add, size_lit, List.size_toArray, List.length_cons, List.length_nil]
    show _ ≤ 3 * Lb d + 100
    omega
end Go.Proofs.YtadcklijdbbkjaaGreatDoor
