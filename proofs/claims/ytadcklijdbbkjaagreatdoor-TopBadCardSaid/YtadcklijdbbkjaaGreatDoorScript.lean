/- Contract of grafterykeep.Script: it comes to an end, in new memory alone. Printed by gen_script.py. -/
import Derived.Test.YtadcklijdbbkjaaGreatDoorScr1
import Derived.Deep.LoopGhost
namespace Go.Proofs.YtadcklijdbbkjaaGreatDoor
open Go.RowKit Go.ChangeShapes Go.WideShapes Go.Deep
set_option linter.unusedVariables false

def ScriptIs (w : World) (e : Ending) (w' : World) : Prop := ∃ (A : Option Addr) (n c : Nat), e = .returned (.slice A n c) ∧ Below w.heap.size w w'
set_option maxHeartbeats 8000000 in
set_option maxRecDepth 20000 in
theorem script_any {base : Nat} (hX : TextOk base) {w : World} {A : Option Addr} {len cap : Nat} (hr : RawsN base w A len cap) (ht : TabB base w) (hb : base ≤ w.heap.size) :
    Calls Tryz.prog 4 #[.slice A len cap, .int .i64 5] w (ScriptIs w) := by
  obtain ⟨m, hm⟩ : ∃ m, min len 10 = m := ⟨_, rfl⟩
  have hle := hr.raws.le
  have hwd := hr.raws.wide
  unfold maxLen at hwd
  have hmin : min (len : Int) 10 = (m : Int) := by omega
  have hm0 : (0 : Int) ≤ (m : Int) := Int.natCast_nonneg _
  have hml : m ≤ len := by omega
  have hmc : m ≤ cap := by omega
  obtain ⟨z0, hi, hz0, hz1, hz2⟩ := info_parts infoAct
  have HI := Lib.hid hi
  have HI0 := Lib.hid hz0
  have HI1 := Lib.hid hz1
  have HI2 := Lib.hid hz2
  have HX := Lib.hid hX
  have HT := Lib.hid ht
  have HB := Lib.hid hb
  have HR := Lib.hid hr
  clear hr ht hb hX hi hz0 hz1 hz2 hm
  go_enter Tryz.func4, Tryz.ntmps4
  go_upto_region 2 with fail
  go_cut [6] from 9 to 17 (fun u wx => ∃ x, OwnAt kitAct 44 w.heap.size wx u [x] ∧ Below w.heap.size w wx)
  case first =>
    cases A with
    | none =>
      obtain ⟨rfl, rfl⟩ := HR.out.nil_ rfl
      obtain rfl : m = 0 := by omega
      have KF := Lib.hid (first_any HX.out HR.out HT.out HB.out)
      go_wp2_with fail
      refine KF.out.mono ?_
      rintro q w1 ⟨s, rfl, hs, hbl⟩
      have HOF := Lib.hid (start_act hbl.size ⟨1, s, ⟨#[]⟩, none, 0, 0, 0⟩)
      have HBF := Lib.hid hbl
      clear hs hbl
      go_wp2_with fail
      go_meet
      exact ⟨_, HOF.out, below_a HBF.out _⟩
    | some a =>
      have HRM := Lib.hid (show RawsN base w (some a) m cap from ⟨by
        by_cases h0 : len = 0
        · obtain rfl : m = 0 := by omega
          exact Raws.zero _ _ _ HR.out.raws.wide
        · obtain ⟨g, o, e, _⟩ := HR.out.raws.at_ (by omega)
          cases e
          exact HR.out.raws.upto (by omega) hml, fun h => by cases h⟩)
      have KF := Lib.hid (first_any HX.out HRM.out HT.out HB.out)
      go_wp2_with fail
      refine KF.out.mono ?_
      rintro q w1 ⟨s, rfl, hs, hbl⟩
      have HOF := Lib.hid (start_act hbl.size ⟨1, s, ⟨#[]⟩, none, 0, 0, 0⟩)
      have HBF := Lib.hid hbl
      clear hs hbl
      go_wp2_with fail
      go_meet
      exact ⟨_, HOF.out, below_a HBF.out _⟩
  case rest =>
    obtain ⟨x0, hO0, hB0⟩ := hcut
    have HO0 := Lib.hid hO0
    have HB0 := Lib.hid hB0
    clear hO0 hB0
    go_wp2_with fail
    go_loopg [6, 7, 8] 5 (fun g x6 x7 x8 wr => ∃ (i : Nat) (X : List ActV) (v0 : Value), v0 = x6 ∧ g = 5 - i ∧ i ≤ 5 ∧ i ≤ len ∧ X.length = i + 1 ∧ x7 = .int .i64 i ∧ OwnAt kitAct 44 w.heap.size wr v0 X ∧ Below w.heap.size w wr)
    case atStart => exact ⟨0, [x0], _, rfl, rfl, by omega, by omega, rfl, rfl, HO0.out, HB0.out⟩
    case round =>
      obtain ⟨i, X, v0, rfl, hg, hi5, hil, hXl, rfl, hO, hBl⟩ := hrel
      have HG := Lib.hid hg
      have HXL := Lib.hid hXl
      have HO := Lib.hid hO
      have HBL := Lib.hid hBl
      have hi0 : (0 : Int) ≤ (i : Int) := Int.natCast_nonneg _
      clear hg hO hBl
      by_cases hlt : i < len
      · have hlt' : (i : Int) < (len : Int) := by omega
        by_cases hlt5 : i < 5
        · have hlt5' : (i : Int) < 5 := by omega
          have hlp : 0 < len := by omega
          obtain ⟨g, o, rfl, hgb, hcs⟩ := HR.out.raws.at_ hlp
          obtain ⟨k, a, c, e, ik, ia, ic, ie, e0, e1, e2, e3⟩ := hcs i hlt
          have hgw : g < w.heap.size := Nat.lt_of_lt_of_le hgb HB.out
          have m0 := (HBL.out.cell (p := ⟨g, o + i * 4, none⟩) hgw).trans e0
          have m1 := (HBL.out.cell (p := ⟨g, o + i * 4 + 1, none⟩) hgw).trans e1
          have m2 := (HBL.out.cell (p := ⟨g, o + i * 4 + 2, none⟩) hgw).trans e2
          have m3 := (HBL.out.cell (p := ⟨g, o + i * 4 + 3, none⟩) hgw).trans e3
          obtain ⟨p0, p1⟩ := pk_in k (show (0 : Int) < 9 by omega)
          obtain ⟨p, hp⟩ : ∃ p, pk k 9 = p := ⟨_, rfl⟩
          rw [hp] at p0 p1
          have PK := Lib.hid (fun w => hp ▸ picked_any k 9 ik (by omega) (by omega) w)
          have HP := Lib.hid (And.intro p0 p1)
          have HYL := Lib.hid (show (X.length + 1) * 72 ≤ 140737488355328 ∧ X.length + 1 ≤ maxLen from by rw [hXl]; unfold maxLen; omega)
          clear hcs e0 e1 e2 e3 hp p0 p1 hXl
          go_upto_region 7 with fail
          obtain ⟨W, hW⟩ : ∃ W, W = wr.alloc (.cells #[.int .i64 k, .int .i64 a, .int .i64 c, .int .i64 e] 46) := ⟨_, rfl⟩
          rw [← hW]
          have hbW : Below wr.heap.size wr W := by rw [hW]; exact below_a (Below.refl _ _) _
          have hlW : wr.heap.size < W.heap.size := by rw [hW]; simp
          have hcW : ∀ j, W.cell? ⟨wr.heap.size, j, none⟩ = (#[.int .i64 k, .int .i64 a, .int .i64 c, .int .i64 e] : Array Value)[j]? := fun j => by rw [hW]; exact cell_new _ _ _ j
          obtain ⟨RR, hRR⟩ : ∃ RR, RR = wr.heap.size := ⟨_, rfl⟩
          rw [← hRR] at hlW hcW ⊢
          have c0 : W.cell? ⟨RR, 0, none⟩ = some (.int .i64 k) := hcW 0
          have c1 : W.cell? ⟨RR, 1, none⟩ = some (.int .i64 a) := hcW 1
          have c2 : W.cell? ⟨RR, 2, none⟩ = some (.int .i64 c) := hcW 2
          have c3 : W.cell? ⟨RR, 3, none⟩ = some (.int .i64 e) := hcW 3
          have HBE := Lib.hid (HBL.out.trans (hbW.mono HBL.out.size))
          have HOW := Lib.hid (HO.out.new hbW)
          have HRW := Lib.hid (HR.out.raws.below (HBE.out.mono HB.out))
          have HTW := Lib.hid (HT.out.below (HBE.out.mono HB.out))
          have HBW := Lib.hid (Nat.le_trans HB.out HBE.out.size)
          have HC1 := Lib.hid (And.intro hlW c1)
          have HC2 := Lib.hid (And.intro hlW c2)
          have HC3 := Lib.hid (And.intro hlW c3)
          clear hW hcW hbW HO m0 m1 m2 m3 hRR
          have HO := HOW
          clear HOW
          go_wp2_with fail
          refine (PK.out _).mono ?_
          rintro q w5 ⟨rfl, hw5⟩
          obtain rfl : W = w5 := hw5.symm
          obtain ⟨p0, p1⟩ := HP.out
          obtain ⟨qi, hqi⟩ : ∃ qi, i / 2 = qi := ⟨_, rfl⟩
          rcases (show p = 0 ∨ p = 1 ∨ p = 2 ∨ 3 ≤ p by omega) with rfl | rfl | rfl | hp3
          · clear p0 p1
            have hq0 : (0 : Int) ≤ (qi : Int) := Int.natCast_nonneg _
            have hq1 : (qi : Int) ≤ (len : Int) := by omega
            have hqw : IntKind.i64.wrap (qi : Int) = (qi : Int) := IntWalk.i64_in _ (by have := HR.out.raws.le; have := HR.out.raws.wide; unfold maxLen at this; omega)
            have hqc : ¬ cap = qi := by have := HR.out.raws.le; omega
            have hq2 : (i : Int).tdiv 2 = (qi : Int) := by rw [Int.tdiv_eq_ediv_of_nonneg (by omega)]; omega
            have KL := Lib.hid (show ∀ w', Below W.heap.size W w' → Calls Tryz.prog 10 #[.slice (some ⟨g, o + qi * 4, none⟩) (len - qi) (cap - qi), .agg #[.int .i64 k, .int .i64 a, .int .i64 c, .int .i64 e]] w' (TextIs 2000 w') from fun w' hbl => later_any HX.out ((HRW.out.below (hbl.mono HBW.out)).from_ hlp (by omega) (by omega) (by unfold maxLen; omega)) (HTW.out.below (hbl.mono HBW.out)) (Nat.le_trans HBW.out hbl.size) ik ia ic)
            go_wp2_with fail
            go_region_law (first
              | (refine step_own (by rfl) (.tmp 56) (.tmp 64) (by rfl) Tryz.underlying23 HI.out HI0.out HI1.out HI2.out rfl (by decide) HO1.out ⟨1, s1, ⟨#[]⟩, none, 0, 0, 0⟩ _ rfl trivial (fun _ h => h.elim) (fun _ h => h.elim) (by rfl) (by rfl) HYL.out HBS1.out ?_; intro v7 w7 h7 hg7 hv7; have HO7 := Lib.hid h7; have HB7 := Lib.hid (HO1.out.below HBS1.out HBE1.out hg7); clear h7 hg7 hv7)
              | (go_simp; go_at_call 10; (with_reducible refine (KL.out _ (below_d (Below.refl _ _))).mono ?_); rintro q w1 ⟨s1, rfl, hs1, hb1⟩; have hb1' := below_t (below_d (Below.refl W.heap.size W)) hb1; have HO1 := Lib.hid (HO.out.new hb1'); have HBE1 := Lib.hid (HBE.out.trans (hb1'.mono HBE.out.size)); have HBS1 := Lib.hid (Nat.le_trans HBE.out.size hb1'.size); clear hs1 hb1 hb1'))
            all_goals
              go_wp2_with fail
              go_roundg (5 - (i + 1))
              case measure => have := HG.out; omega
              case rel => exact ⟨i + 1, _, _, rfl, rfl, by omega, by omega, by rw [List.length_append, HXL.out]; rfl, by go_num, HO7.out, HB7.out⟩
          · clear p0 p1
            have HO1 := HO
            have HBE1 := HBE
            have HBS1 := Lib.hid HBE.out.size
            go_wp2_with (at_builtin; refine wpList_own rfl (.tmp 68) (.tmp 70) rfl Tryz.underlying23 HI.out HI0.out HI1.out HI2.out rfl (by decide) HO1.out ⟨3, ⟨#[]⟩, ⟨#[]⟩, none, 0, 0, 0⟩ _ rfl trivial (fun _ h => h.elim) (fun _ h => h.elim) rfl rfl HYL.out HBS1.out ?_; intro v7 w7 h7 hg7 hv7; have HO7 := Lib.hid h7; have HB7 := Lib.hid (HO1.out.below HBS1.out HBE1.out hg7); clear h7 hg7 hv7)
            go_wp2_with fail
            go_roundg (5 - (i + 1))
            case measure => have := HG.out; omega
            case rel => exact ⟨i + 1, _, _, rfl, rfl, by omega, by omega, by rw [List.length_append, HXL.out]; rfl, by go_num, HO7.out, HB7.out⟩
          · clear p0 p1
            obtain ⟨j, hj, PA0⟩ := pick_n a ia 4 (by decide) (by decide)
            have PA := Lib.hid PA0
            clear PA0
            go_wp2_with fail
            refine (PA.out _).mono ?_
            rintro q w5 ⟨rfl, hw5⟩
            subst hw5
            rcases (show j = 0 ∨ j = 1 ∨ j = 2 ∨ j = 3 by omega) with rfl | rfl | rfl | rfl
            all_goals
              have hz : (((0 : Nat) : Int) = 0) ∧ (((1 : Nat) : Int) = 1) ∧ (((2 : Nat) : Int) = 2) ∧ (((3 : Nat) : Int) = 3) := ⟨rfl, rfl, rfl, rfl⟩
              clear hj
              go_wp2_with (at_builtin; refine wpList_own rfl (.tmp 74) (.tmp 82) rfl Tryz.underlying23 HI.out HI0.out HI1.out HI2.out rfl (by decide) (HO.out.new (below_a (Below.refl W.heap.size W) _)) ⟨1, _, ⟨#[]⟩, none, 0, 0, 0⟩ _ rfl trivial (fun _ h => h.elim) (fun _ h => h.elim) rfl (by rw [World.size_alloc]; rfl) HYL.out (Nat.le_trans HBE.out.size (below_a (Below.refl W.heap.size W) _).size) ?_; intro v7 w7 h7 hg7 hv7; have HO7 := Lib.hid h7; have HB7 := Lib.hid ((HO.out.new (below_a (Below.refl W.heap.size W) _)).below (Nat.le_trans HBE.out.size (below_a (Below.refl W.heap.size W) _).size) (HBE.out.trans ((below_a (Below.refl W.heap.size W) _).mono HBE.out.size)) hg7); clear h7 hg7 hv7)
              go_wp2_with fail
              go_roundg (5 - (i + 1))
              case measure => have := HG.out; omega
              case rel => exact ⟨i + 1, _, _, rfl, rfl, by omega, by omega, by rw [List.length_append, HXL.out]; rfl, by go_num, HO7.out, HB7.out⟩
          · have hn0 : ¬ p = 0 := by omega
            have hn1 : ¬ p = 1 := by omega
            have hn2 : ¬ p = 2 := by omega
            have hb0 : (p == 0) = false := by simp [hn0]
            have hb1 : (p == 1) = false := by simp [hn1]
            have hb2 : (p == 2) = false := by simp [hn2]
            go_wp2_with fail
            refine region_tail (n := 17) (g := 2) (C := CS 44 w.heap.size W v0 X) (R := RS)
              (FX := [(6, v0), (8, .pointer (some ⟨RR, 0, none⟩))])
              (sz := 85)
              [pVal v0,
                sLit 6,
                pVal (.pointer (some ⟨RR, 1, none⟩)),
                pVal (.int .i64 a),
                pPick 6,
                sElt,
                sStr,
                pVal (.pointer (some ⟨RR, 2, none⟩)),
                pVal (.int .i64 c),
                pPick 12,
                sDat,
                sOne,
                pVal (.pointer (some ⟨RR, 3, none⟩)),
                pVal (.int .i64 e),
                pPick 400,
                sAct,
                sActs]
              (by kernel_rfl) rfl (by decide) (by kernel_rfl) (by kernel_rfl) (by kernel_rfl) (by kernel_rfl)
              (.cons (fun _ _ _ h _ => h) (.cons (sLit_st _) (.cons (fun _ _ _ h _ => h) (.cons (fun _ _ _ h _ => h) (.cons (fun _ _ _ h _ => h) (.cons sElt_st (.cons (fun _ _ _ h _ => h) (.cons (fun _ _ _ h _ => h) (.cons (fun _ _ _ h _ => h) (.cons (fun _ _ _ h _ => h) (.cons (fun _ _ _ h _ => h) (.cons (fun _ _ _ h _ => h) (.cons (fun _ _ _ h _ => h) (.cons (fun _ _ _ h _ => h) (.cons (fun _ _ _ h _ => h) (.cons (fun _ _ _ h _ => h) (.cons sActs_st (.nil))))))))))))))))))
              (
                (.cons (okv RS.refl (fun a w _ hf hk => ⟨_, run_mov rfl rfl, (of_fixed (by simp) : Of _ _ _ (.tmp 6) (pVal v0)) a w hf hk⟩))
                (.cons (ok_litS (fun a w hf hk => ⟨_, by unfold execOp; simp [go_sem]; rfl, fun i hi => by rcases (show i = 0 ∨ i = 1 ∨ i = 2 ∨ i = 3 ∨ i = 4 ∨ i = 5 by omega) with rfl | rfl | rfl | rfl | rfl | rfl <;> exact ⟨_, rfl⟩⟩))
                (.cons (ok_fldS (j := 1) (by decide) rfl (of_fixed (by simp)))
                (.cons (ok_ldIS (j := 1) rfl (of_dep' ⟨2, .data⟩ (by simp) rfl _ rfl rfl) rfl HC1.out)
                (.cons (ok_pickS (n := 6) rfl (of_dep' ⟨3, .data⟩ (by simp) rfl _ rfl rfl) ia (by decide) (by decide))
                (.cons (ok_idxS (n := 6) rfl (of_dep' ⟨1, .data⟩ (by simp) rfl _ rfl rfl) (of_dep' ⟨4, .data⟩ (by simp) rfl _ rfl rfl))
                (.cons (ok_ldSS rfl (of_dep' ⟨5, .data⟩ (by simp) rfl _ rfl rfl))
                (.cons (ok_fldS (j := 2) (by decide) rfl (of_fixed (by simp)))
                (.cons (ok_ldIS (j := 2) rfl (of_dep' ⟨7, .data⟩ (by simp) rfl _ rfl rfl) rfl HC2.out)
                (.cons (ok_pickS (n := 12) rfl (of_dep' ⟨8, .data⟩ (by simp) rfl _ rfl rfl) ic (by decide) (by decide))
                (.cons (ok_dat rfl (of_dep' ⟨9, .data⟩ (by simp) rfl _ rfl rfl))
                (.cons (ok_dats rfl (of_dep' ⟨10, .data⟩ (by simp) rfl _ rfl rfl))
                (.cons (ok_fldS (j := 3) (by decide) rfl (of_fixed (by simp)))
                (.cons (ok_ldIS (j := 3) rfl (of_dep' ⟨12, .data⟩ (by simp) rfl _ rfl rfl) rfl HC3.out)
                (.cons (ok_pickS (n := 400) rfl (of_dep' ⟨13, .data⟩ (by simp) rfl _ rfl rfl) ie (by decide) (by decide))
                (.cons (ok_act rfl (of_dep' ⟨6, .data⟩ (by simp) rfl _ rfl rfl) (of_dep' ⟨11, .data⟩ (by simp) rfl _ rfl rfl) (of_dep' ⟨14, .data⟩ (by simp) rfl _ rfl rfl))
                (.cons (ok_acts rfl (of_dep' ⟨15, .data⟩ (by simp) rfl _ rfl rfl)) .nil))))))))))))))))))
              ⟨HO.out.new (below_d (Below.refl _ _)), below_d (Below.refl _ _)⟩ rfl rfl
              (by intro p hp; simp only [List.mem_cons, List.not_mem_nil, or_false] at hp; rcases hp with rfl | rfl <;> rfl) ?_
            intro f w2 hC2 hend2
            obtain ⟨hO2, hB2⟩ := hC2
            have e36 : f 36 = v0 := hend2 0 _ _ 36 rfl rfl rfl
            obtain ⟨gl, x, e52, hgl, hcl⟩ := hend2 16 _ _ 52 rfl rfl rfl
            clear hend2
            have HO2 := Lib.hid hO2
            have HB2 := Lib.hid hB2
            have HCL := Lib.hid hcl
            have HBS2 := Lib.hid (Nat.le_trans HBE.out.size hB2.size)
            have HBE2 := Lib.hid (HBE.out.trans (hB2.mono HBE.out.size))
            clear hO2 hB2 hcl
            simp only [List.take_succ_cons, List.take_zero, List.drop_succ_cons, List.drop_zero, List.filterMap_cons, List.filterMap_nil]
            refine wpList_ownG rfl (.tmp 36) (.tmp 52) rfl Tryz.underlying23 HI.out HI0.out HI1.out HI2.out rfl (by decide) HO2.out x trivial (fun _ h => h.elim) (fun _ h => h.elim) (by rw [eval_tmp, putAll_slot _ _ _ _ (show 36 < 85 from by decide)]; exact (if_pos (by decide)).trans e36) ⟨gl, 0, none⟩ (by rw [eval_tmp, putAll_slot _ _ _ _ (show 52 < 85 from by decide)]; exact (if_pos (by decide)).trans e52) HCL.out HYL.out HBS2.out ?_
            intro v7 w7 h7 hg7
            have HO7 := Lib.hid h7
            have HB7 := Lib.hid (HO2.out.below HBS2.out HBE2.out hg7)
            clear h7 hg7
            simp only [putAll, e36, e52]
            go_wp2_with fail
            go_roundg (5 - (i + 1))
            case measure => have := HG.out; omega
            case rel => exact ⟨i + 1, _, _, rfl, rfl, by omega, by omega, by rw [List.length_append, HXL.out]; rfl, by go_num, HO7.out, HB7.out⟩
        · obtain rfl : i = 5 := by omega
          go_wp2_with fail
          obtain ⟨A', c', e', _⟩ := HO.out.form
          subst e'
          go_ret
          exact ⟨_, _, _, rfl, HBL.out⟩
      · obtain rfl : i = len := by omega
        have hnl : ¬ ((i : Int) < (i : Int)) := by omega
        go_wp2_with fail
        obtain ⟨A', c', e', _⟩ := HO.out.form
        subst e'
        go_ret
        exact ⟨_, _, _, rfl, HBL.out⟩
end Go.Proofs.YtadcklijdbbkjaaGreatDoor
