/- Contract of code.check, the kinds with an inner scope (printed by gen_codecheck2.py). -/
import Derived.Test.YtlgnaopaeapbfaaDoorCodeCheck
namespace Go.Proofs.YtlgnaopaeapbfaaDoor
open Go.RowKit Go.ChangeShapes Go.WideShapes Go.Deep Go.ChangeAt
set_option linter.unusedVariables false

section
variable {H : Type} {enc : TypeId × Value → H}

set_option maxHeartbeats 2000000 in
theorem check_6 {w : World} {cs : List Value} {h : ExHead} {dk dn : Int} {ds : ByteArray} {dA : Option Addr} {dl dc : Nat} {An : Option Addr} {nl nc : Nat} {Aa : Option Addr} {al ac : Nat} {As : Option Addr} {sl sc : Nat} {scope : List ByteArray} {olds : Int} {n : Nat} {args : List (Tr n)} (hx : ExC enc w cs h dk dn ds dA dl dc An nl nc Aa al ac) (hm : CMaps w) (hs : StrsAt w As sl scope) (hsl : sl ≤ sc) (hsc : sc ≤ maxLen) (ho : -9223372036854775808 ≤ olds ∧ olds ≤ 9223372036854775807) (hxa : args.length = al) (f : Fine (n := n) (h, args) scope) (hk0 : h.kind = 6) (hrow : 0 < al → ∃ b o, Aa = some ⟨b, o, none⟩ ∧ b < w.heap.size ∧ ∀ i, (hi : i < args.length) → ∃ cs', cs'.length = 9 ∧ RowAt w b (o + i * 9) cs' ∧ ExAt enc w n cs' args[i]) (ih : CheckSays enc n) (h40 : sl ≤ 40) : CheckIs w cs As sl sc olds (exprF (n + 1) (h, args) scope olds) := by
  have HF := Lib.hid f
  have HNL := Lib.hid (show nl ≤ 6 from by have h1 := f.count; rw [← hx.names.size]; simp only [hxa, hk0] at h1; have h2 : al = 1 ∧ h.names.length ≤ 6 := (by simpa [countB] using h1); exact h2.2)
  have HROW := Lib.hid hrow
  have HIH := Lib.hid ih
  clear hrow ih
  have hal : al ≤ 9223372036854775807 := by have := hx.ale; have := hx.acap; unfold maxLen at this; omega
  obtain ⟨k, df, S, N, names⟩ := h
  simp only at hk0
  subst hk0
  have hcb := f.count
  have hnb := f.named
  have hk : ¬ ((6 : Int) < 1 ∨ 15 < (6 : Int)) := by decide
  simp only [hxa] at hcb hnb
  have HNB := Lib.hid hnb
  clear hnb
  have hx0 := hx
  obtain ⟨rfl, hkr, hnr, hS, hdf, hns, hes, hn1, hn2, ha1, ha2⟩ := hx
  obtain ⟨v, hv⟩ : ∃ v, argsN 6 = v := ⟨_, rfl⟩
  have hv2 : v ≠ -2 := by rw [← hv]; exact argsN_ne hk
  have HX := Lib.hid hx0
  have HV := Lib.hid hv
  have HK := Lib.hid hk
  have HM := Lib.hid hm
  have HS := Lib.hid hs
  have HCB := Lib.hid hcb
  clear hk hm hs hns hes hdf hx0 hv hcb
  (unfold CheckIs; go_enter Tryd.func24, Tryd.ntmps24; go_wp2_with fail)
  refine (args_is _ _ v HV.out).mono ?_
  rintro e w1 ⟨rfl, rfl⟩
  go_wp2_with fail
  refine (counted_any (HX.out.below ((Below.refl _ _).alloc (Nat.le_refl _) _)) (HM.out.below ((Below.refl _ _).alloc (Nat.le_refl _) _)) HK.out).mono ?_
  rintro e w1 ⟨rfl, hb1⟩
  rw [HCB.out]
  have HB1 := Lib.hid (box_below hb1)
  have hs1 : w.heap.size < w1.heap.size := Nat.lt_of_lt_of_le (by simp) hb1.size
  have c0 : w1.cell? ⟨w.heap.size, 0, none⟩ = some (.int .i64 6) := box_cell hb1 rfl
  have c1 : w1.cell? ⟨w.heap.size, 1, none⟩ = some (.int .i64 dk) := box_cell hb1 rfl
  have c2 : w1.cell? ⟨w.heap.size, 2, none⟩ = some (.int .i64 dn) := box_cell hb1 rfl
  have c3 : w1.cell? ⟨w.heap.size, 3, none⟩ = some (.string ds) := box_cell hb1 rfl
  have c4 : w1.cell? ⟨w.heap.size, 4, none⟩ = some (.slice dA dl dc) := box_cell hb1 rfl
  have c5 : w1.cell? ⟨w.heap.size, 5, none⟩ = some (.string S) := box_cell hb1 rfl
  have c6 : w1.cell? ⟨w.heap.size, 6, none⟩ = some (.int .i64 N) := box_cell hb1 rfl
  have c7 : w1.cell? ⟨w.heap.size, 7, none⟩ = some (.slice An nl nc) := box_cell hb1 rfl
  have c8 : w1.cell? ⟨w.heap.size, 8, none⟩ = some (.slice Aa al ac) := box_cell hb1 rfl
  clear hb1
  go_wp2_with fail
  refine (named_any (HX.out.below HB1.out) (HM.out.below HB1.out) (HS.out.below HB1.out) hsl hsc HK.out).mono ?_
  rintro e w2 ⟨rfl, hb2⟩
  rw [HNB.out]
  have HB2 := Lib.hid (HB1.out.trans (hb2.mono HB1.out.size))
  have hs2 : w.heap.size < w2.heap.size := Nat.lt_of_lt_of_le hs1 hb2.size
  have d0 : w2.cell? ⟨w.heap.size, 0, none⟩ = some (.int .i64 6) := (hb2.cell (p := ⟨w.heap.size, 0, none⟩) hs1).trans c0
  have d1 : w2.cell? ⟨w.heap.size, 1, none⟩ = some (.int .i64 dk) := (hb2.cell (p := ⟨w.heap.size, 1, none⟩) hs1).trans c1
  have d2 : w2.cell? ⟨w.heap.size, 2, none⟩ = some (.int .i64 dn) := (hb2.cell (p := ⟨w.heap.size, 2, none⟩) hs1).trans c2
  have d3 : w2.cell? ⟨w.heap.size, 3, none⟩ = some (.string ds) := (hb2.cell (p := ⟨w.heap.size, 3, none⟩) hs1).trans c3
  have d4 : w2.cell? ⟨w.heap.size, 4, none⟩ = some (.slice dA dl dc) := (hb2.cell (p := ⟨w.heap.size, 4, none⟩) hs1).trans c4
  have d5 : w2.cell? ⟨w.heap.size, 5, none⟩ = some (.string S) := (hb2.cell (p := ⟨w.heap.size, 5, none⟩) hs1).trans c5
  have d6 : w2.cell? ⟨w.heap.size, 6, none⟩ = some (.int .i64 N) := (hb2.cell (p := ⟨w.heap.size, 6, none⟩) hs1).trans c6
  have d7 : w2.cell? ⟨w.heap.size, 7, none⟩ = some (.slice An nl nc) := (hb2.cell (p := ⟨w.heap.size, 7, none⟩) hs1).trans c7
  have d8 : w2.cell? ⟨w.heap.size, 8, none⟩ = some (.slice Aa al ac) := (hb2.cell (p := ⟨w.heap.size, 8, none⟩) hs1).trans c8
  clear hb2 c0 c1 c2 c3 c4 c5 c6 c7 c8
  by_cases ho0 : 0 ≤ olds
  · have HE := Lib.hid (exprF_pure (n := n) (o := olds) f ⟨ho0, by simp⟩)
    clear f
    go_wp2_with fail
    go_ret
    exact ⟨ret_i HE.out.symm, HB2.out⟩
  · have OWN := Lib.hid (show Own (n := n) (⟨6, df, S, N, names⟩, args) scope olds from ⟨f, by simp, by simp; omega⟩)
    clear f
    go_wp2_with fail
    go_loopg [72] al (fun g i wr => ∃ j : Nat, g = al - j ∧ j ≤ al ∧ i = .int .i64 j ∧ wr.cell? ⟨w.heap.size, 0, none⟩ = some (.int .i64 6) ∧ wr.cell? ⟨w.heap.size, 8, none⟩ = some (.slice Aa al ac) ∧ wr.cell? ⟨w.heap.size, 7, none⟩ = some (.slice An nl nc) ∧ w.heap.size < wr.heap.size ∧ Below w.heap.size w wr ∧ ∀ i, (hi : i < args.length) → i < j → argF (n := n) (⟨6, df, S, N, names⟩, args) scope olds i hi = 0)
    case atStart => exact ⟨0, by omega, by omega, rfl, d0, d8, d7, hs2, HB2.out, fun i hi h => absurd h (by omega)⟩
    case round =>
      obtain ⟨j, hg, hj, rfl, e0, e8, e7, hs3, hb, hall⟩ := hrel
      have HG := Lib.hid hg
      have HALL := Lib.hid hall
      have HB := Lib.hid hb
      have hsz := hb.size
      clear hg hall hb
      by_cases hlt : j < al
      · obtain ⟨b, o, rfl, hbw, hr⟩ := HROW.out (by omega)
        obtain ⟨cs', hl', hrj, hex⟩ := hr j (by rw [hxa]; exact hlt)
        obtain ⟨q0, q1, q2, q3, q4a, q4, q4c, q5, q6, q7a, q7, q7c, q8a, q8, q8c, rfl⟩ := hex.cells
        · have hex0 := hex
          have HEX := Lib.hid (hex.below HB.out)
          have r0 : wr.cell? ⟨b, o + j * 9, none⟩ = some (.int .i64 q0) := (HB.out.cell (p := ⟨b, o + j * 9, none⟩) hbw).trans (by simpa using hrj 0 (by simp))
          have r1 : wr.cell? ⟨b, o + j * 9 + 1, none⟩ = some (.int .i64 q1) := (HB.out.cell (p := ⟨b, o + j * 9 + 1, none⟩) hbw).trans (by simpa using hrj 1 (by simp))
          have r2 : wr.cell? ⟨b, o + j * 9 + 2, none⟩ = some (.int .i64 q2) := (HB.out.cell (p := ⟨b, o + j * 9 + 2, none⟩) hbw).trans (by simpa using hrj 2 (by simp))
          have r3 : wr.cell? ⟨b, o + j * 9 + 3, none⟩ = some (.string q3) := (HB.out.cell (p := ⟨b, o + j * 9 + 3, none⟩) hbw).trans (by simpa using hrj 3 (by simp))
          have r4 : wr.cell? ⟨b, o + j * 9 + 4, none⟩ = some (.slice q4a q4 q4c) := (HB.out.cell (p := ⟨b, o + j * 9 + 4, none⟩) hbw).trans (by simpa using hrj 4 (by simp))
          have r5 : wr.cell? ⟨b, o + j * 9 + 5, none⟩ = some (.string q5) := (HB.out.cell (p := ⟨b, o + j * 9 + 5, none⟩) hbw).trans (by simpa using hrj 5 (by simp))
          have r6 : wr.cell? ⟨b, o + j * 9 + 6, none⟩ = some (.int .i64 q6) := (HB.out.cell (p := ⟨b, o + j * 9 + 6, none⟩) hbw).trans (by simpa using hrj 6 (by simp))
          have r7 : wr.cell? ⟨b, o + j * 9 + 7, none⟩ = some (.slice q7a q7 q7c) := (HB.out.cell (p := ⟨b, o + j * 9 + 7, none⟩) hbw).trans (by simpa using hrj 7 (by simp))
          have r8 : wr.cell? ⟨b, o + j * 9 + 8, none⟩ = some (.slice q8a q8 q8c) := (HB.out.cell (p := ⟨b, o + j * 9 + 8, none⟩) hbw).trans (by simpa using hrj 8 (by simp))
          clear hrj hex hr
          have hjx : j < args.length := by rw [hxa]; exact hlt
          have HIN := Lib.hid (show inB2 6 j args.length = true from by simp [inB2])
          have hnn : sl + nl ≤ 1099511627776 := by have := HNL.out; omega
          have hx40 : 40 < sl + nl ↔ 40 < scope.length + names.length := by rw [HS.out.size, HX.out.names.size]
          have HEX0 := Lib.hid hex0
          clear hex0
          have hlenn : (scope ++ names).length = sl + nl := by rw [List.length_append, HS.out.size, HX.out.names.size]
          go_wp2_with fail
          obtain ⟨wb, hwb⟩ : ∃ wb : World, wb = wr.alloc (.cells #[.int .i64 q0, .int .i64 q1, .int .i64 q2, .string q3, .slice q4a q4 q4c, .string q5, .int .i64 q6, .slice q7a q7 q7c, .slice q8a q8 q8c] 38) := ⟨_, rfl⟩
          have hbx : Below w.heap.size w wb := by rw [hwb]; exact HB.out.alloc HB.out.size _
          have k0 : wb.cell? ⟨wr.heap.size, 0, none⟩ = some (.int .i64 q0) := by rw [hwb]; simp
          have k1 : wb.cell? ⟨wr.heap.size, 1, none⟩ = some (.int .i64 q1) := by rw [hwb]; simp
          have k2 : wb.cell? ⟨wr.heap.size, 2, none⟩ = some (.int .i64 q2) := by rw [hwb]; simp
          have k3 : wb.cell? ⟨wr.heap.size, 3, none⟩ = some (.string q3) := by rw [hwb]; simp
          have k4 : wb.cell? ⟨wr.heap.size, 4, none⟩ = some (.slice q4a q4 q4c) := by rw [hwb]; simp
          have k5 : wb.cell? ⟨wr.heap.size, 5, none⟩ = some (.string q5) := by rw [hwb]; simp
          have k6 : wb.cell? ⟨wr.heap.size, 6, none⟩ = some (.int .i64 q6) := by rw [hwb]; simp
          have k7 : wb.cell? ⟨wr.heap.size, 7, none⟩ = some (.slice q7a q7 q7c) := by rw [hwb]; simp
          have k8 : wb.cell? ⟨wr.heap.size, 8, none⟩ = some (.slice q8a q8 q8c) := by rw [hwb]; simp
          have f0 : wb.cell? ⟨w.heap.size, 0, none⟩ = some (.int .i64 6) := by rw [hwb, World.cell?_alloc_lt _ _ _ hs3]; exact e0
          have f7 : wb.cell? ⟨w.heap.size, 7, none⟩ = some (.slice An nl nc) := by rw [hwb, World.cell?_alloc_lt _ _ _ hs3]; exact e7
          have f8 : wb.cell? ⟨w.heap.size, 8, none⟩ = some (.slice (some ⟨b, o, none⟩) al ac) := by rw [hwb, World.cell?_alloc_lt _ _ _ hs3]; exact e8
          have hsb : wr.heap.size < wb.heap.size := by rw [hwb]; simp
          rw [← hwb]
          have HBX := Lib.hid hbx
          clear hwb hbx
          by_cases h41 : 40 < sl + nl
          · have HAV := Lib.hid (show argF (n := n) (⟨6, df, S, N, names⟩, args) scope olds j hjx = 1 from by unfold argF; rw [if_pos HIN.out, if_pos (hx40.mp h41)])
            go_region_held3 (fun w' => w'.cell? ⟨w.heap.size, 7, none⟩ = some (.slice An nl nc)) (go_keep)
              (first
                | (go_at_call 37; refine (clone_any As sl sc scope _ (HS.out.below HBX.out.drew) (by omega)).mono ?_; rintro e w3 ⟨vc, rfl, hown, hbc⟩; have HOWN := Lib.hid hown; have HBC := Lib.hid hbc; have x7 : w3.cell? ⟨w.heap.size, 7, none⟩ = some (.slice An nl nc) := (hbc.cell (p := ⟨w.heap.size, 7, none⟩) (Nat.lt_trans hs3 hsb)).trans f7; have HB4 := Lib.hid (HBX.out.drew.trans (hbc.mono HBX.out.size)); clear hown hbc)
                | (refine step_append_strs (by rfl) (.tmp 95) (.tmp 97) (by rfl) _ vc sl (scope.map Value.string) (by rfl) HOWN.out An nl nc names (by rfl) (HX.out.names.below HB4.out) hnn HBC.out.size ?_; intro v' w4 h1 h2; rw [← List.map_append] at h1; obtain ⟨A4, c4, hv4, hst, hl4, hm4⟩ := strsAt_owned h1; subst hv4; have HB5 := Lib.hid (HBX.out.drew.trans (HBC.out.trans h2 |>.mono HBX.out.size)); have HST := Lib.hid hst; have h2s : w.heap.size < w4.heap.size := Nat.lt_of_lt_of_le (Nat.lt_trans hs3 hsb) (Nat.le_trans HBC.out.size h2.size); have y0 : w4.cell? ⟨wr.heap.size, 0, none⟩ = some (.int .i64 q0) := ((HBC.out.trans h2).cell (p := ⟨wr.heap.size, 0, none⟩) hsb).trans k0; have y1 : w4.cell? ⟨wr.heap.size, 1, none⟩ = some (.int .i64 q1) := ((HBC.out.trans h2).cell (p := ⟨wr.heap.size, 1, none⟩) hsb).trans k1; have y2 : w4.cell? ⟨wr.heap.size, 2, none⟩ = some (.int .i64 q2) := ((HBC.out.trans h2).cell (p := ⟨wr.heap.size, 2, none⟩) hsb).trans k2; have y3 : w4.cell? ⟨wr.heap.size, 3, none⟩ = some (.string q3) := ((HBC.out.trans h2).cell (p := ⟨wr.heap.size, 3, none⟩) hsb).trans k3; have y4 : w4.cell? ⟨wr.heap.size, 4, none⟩ = some (.slice q4a q4 q4c) := ((HBC.out.trans h2).cell (p := ⟨wr.heap.size, 4, none⟩) hsb).trans k4; have y5 : w4.cell? ⟨wr.heap.size, 5, none⟩ = some (.string q5) := ((HBC.out.trans h2).cell (p := ⟨wr.heap.size, 5, none⟩) hsb).trans k5; have y6 : w4.cell? ⟨wr.heap.size, 6, none⟩ = some (.int .i64 q6) := ((HBC.out.trans h2).cell (p := ⟨wr.heap.size, 6, none⟩) hsb).trans k6; have y7 : w4.cell? ⟨wr.heap.size, 7, none⟩ = some (.slice q7a q7 q7c) := ((HBC.out.trans h2).cell (p := ⟨wr.heap.size, 7, none⟩) hsb).trans k7; have y8 : w4.cell? ⟨wr.heap.size, 8, none⟩ = some (.slice q8a q8 q8c) := ((HBC.out.trans h2).cell (p := ⟨wr.heap.size, 8, none⟩) hsb).trans k8; have z0 : w4.cell? ⟨w.heap.size, 0, none⟩ = some (.int .i64 6) := ((HBC.out.trans h2).cell (p := ⟨w.heap.size, 0, none⟩) (Nat.lt_trans hs3 hsb)).trans f0; have z7 : w4.cell? ⟨w.heap.size, 7, none⟩ = some (.slice An nl nc) := ((HBC.out.trans h2).cell (p := ⟨w.heap.size, 7, none⟩) (Nat.lt_trans hs3 hsb)).trans f7; have z8 : w4.cell? ⟨w.heap.size, 8, none⟩ = some (.slice (some ⟨b, o, none⟩) al ac) := ((HBC.out.trans h2).cell (p := ⟨w.heap.size, 8, none⟩) (Nat.lt_trans hs3 hsb)).trans f8; clear h1 h2 hst))
            go_wp2_with fail
            go_ret
            exact ⟨ret_i (by rw [exprF_at OWN.out hjx (fun i hi => HALL.out i _ hi) (by rw [HAV.out]; decide), HAV.out]), HB5.out⟩
          · obtain ⟨ev, hev⟩ : ∃ ev, exprF n args[j] (scope ++ names) olds = ev := ⟨_, rfl⟩
            have hav : argF (n := n) (⟨6, df, S, N, names⟩, args) scope olds j hjx = ev := by rw [← hev]; unfold argF; rw [if_pos HIN.out, if_neg (fun h => h41 (hx40.mpr h))]
            have HEV := Lib.hid hev
            have HAV := Lib.hid hav
            clear hev hav
            by_cases hz : ev = 0
            all_goals
              go_region_held3 (fun w' => w'.cell? ⟨w.heap.size, 7, none⟩ = some (.slice An nl nc)) (go_keep)
                (first
                  | (go_at_call 37; refine (clone_any As sl sc scope _ (HS.out.below HBX.out.drew) (by omega)).mono ?_; rintro e w3 ⟨vc, rfl, hown, hbc⟩; have HOWN := Lib.hid hown; have HBC := Lib.hid hbc; have x7 : w3.cell? ⟨w.heap.size, 7, none⟩ = some (.slice An nl nc) := (hbc.cell (p := ⟨w.heap.size, 7, none⟩) (Nat.lt_trans hs3 hsb)).trans f7; have HB4 := Lib.hid (HBX.out.drew.trans (hbc.mono HBX.out.size)); clear hown hbc)
                  | (refine step_append_strs (by rfl) (.tmp 95) (.tmp 97) (by rfl) _ vc sl (scope.map Value.string) (by rfl) HOWN.out An nl nc names (by rfl) (HX.out.names.below HB4.out) hnn HBC.out.size ?_; intro v' w4 h1 h2; rw [← List.map_append] at h1; obtain ⟨A4, c4, hv4, hst, hl4, hm4⟩ := strsAt_owned h1; subst hv4; have HB5 := Lib.hid (HBX.out.drew.trans (HBC.out.trans h2 |>.mono HBX.out.size)); have HST := Lib.hid hst; have h2s : w.heap.size < w4.heap.size := Nat.lt_of_lt_of_le (Nat.lt_trans hs3 hsb) (Nat.le_trans HBC.out.size h2.size); have y0 : w4.cell? ⟨wr.heap.size, 0, none⟩ = some (.int .i64 q0) := ((HBC.out.trans h2).cell (p := ⟨wr.heap.size, 0, none⟩) hsb).trans k0; have y1 : w4.cell? ⟨wr.heap.size, 1, none⟩ = some (.int .i64 q1) := ((HBC.out.trans h2).cell (p := ⟨wr.heap.size, 1, none⟩) hsb).trans k1; have y2 : w4.cell? ⟨wr.heap.size, 2, none⟩ = some (.int .i64 q2) := ((HBC.out.trans h2).cell (p := ⟨wr.heap.size, 2, none⟩) hsb).trans k2; have y3 : w4.cell? ⟨wr.heap.size, 3, none⟩ = some (.string q3) := ((HBC.out.trans h2).cell (p := ⟨wr.heap.size, 3, none⟩) hsb).trans k3; have y4 : w4.cell? ⟨wr.heap.size, 4, none⟩ = some (.slice q4a q4 q4c) := ((HBC.out.trans h2).cell (p := ⟨wr.heap.size, 4, none⟩) hsb).trans k4; have y5 : w4.cell? ⟨wr.heap.size, 5, none⟩ = some (.string q5) := ((HBC.out.trans h2).cell (p := ⟨wr.heap.size, 5, none⟩) hsb).trans k5; have y6 : w4.cell? ⟨wr.heap.size, 6, none⟩ = some (.int .i64 q6) := ((HBC.out.trans h2).cell (p := ⟨wr.heap.size, 6, none⟩) hsb).trans k6; have y7 : w4.cell? ⟨wr.heap.size, 7, none⟩ = some (.slice q7a q7 q7c) := ((HBC.out.trans h2).cell (p := ⟨wr.heap.size, 7, none⟩) hsb).trans k7; have y8 : w4.cell? ⟨wr.heap.size, 8, none⟩ = some (.slice q8a q8 q8c) := ((HBC.out.trans h2).cell (p := ⟨wr.heap.size, 8, none⟩) hsb).trans k8; have z0 : w4.cell? ⟨w.heap.size, 0, none⟩ = some (.int .i64 6) := ((HBC.out.trans h2).cell (p := ⟨w.heap.size, 0, none⟩) (Nat.lt_trans hs3 hsb)).trans f0; have z7 : w4.cell? ⟨w.heap.size, 7, none⟩ = some (.slice An nl nc) := ((HBC.out.trans h2).cell (p := ⟨w.heap.size, 7, none⟩) (Nat.lt_trans hs3 hsb)).trans f7; have z8 : w4.cell? ⟨w.heap.size, 8, none⟩ = some (.slice (some ⟨b, o, none⟩) al ac) := ((HBC.out.trans h2).cell (p := ⟨w.heap.size, 8, none⟩) (Nat.lt_trans hs3 hsb)).trans f8; clear h1 h2 hst))
              go_wp2_with fail
              refine (HIH.out _ _ _ A4 (sl + nl) c4 (scope ++ names) olds (HEX0.out.below HB5.out) (HM.out.below HB5.out) HST.out (by omega) hl4 hm4 ho).mono ?_
              rintro e w5 ⟨rfl, hb6⟩
              rw [HEV.out]
              have HB6 := Lib.hid (HB5.out.trans (hb6.mono (Nat.le_of_lt h2s)))
              have g0 : w5.cell? ⟨w.heap.size, 0, none⟩ = some (.int .i64 6) := (hb6.cell (p := ⟨w.heap.size, 0, none⟩) h2s).trans z0
              have g7 : w5.cell? ⟨w.heap.size, 7, none⟩ = some (.slice An nl nc) := (hb6.cell (p := ⟨w.heap.size, 7, none⟩) h2s).trans z7
              have g8 : w5.cell? ⟨w.heap.size, 8, none⟩ = some (.slice (some ⟨b, o, none⟩) al ac) := (hb6.cell (p := ⟨w.heap.size, 8, none⟩) h2s).trans z8
              have hs4 : w.heap.size < w5.heap.size := Nat.lt_of_lt_of_le h2s hb6.size
              clear hb6
              go_wp2_with fail
            · subst hz
              go_roundg (al - (j + 1))
              case measure => have := HG.out; omega
              case rel =>
                refine ⟨j + 1, rfl, hlt, rfl, g0, g8, g7, hs4, HB6.out, fun i hi hij => ?_⟩
                by_cases hji : i = j
                · subst hji; exact HAV.out
                · exact HALL.out i hi (by omega)
            · go_ret
              exact ⟨ret_i (by rw [exprF_at OWN.out hjx (fun i hi => HALL.out i _ hi) (by rw [HAV.out]; exact hz), HAV.out]), HB6.out⟩
      · obtain rfl : j = al := by omega
        go_wp2_with fail
        go_ret
        exact ⟨ret_i (exprF_zero OWN.out fun i hi => HALL.out i hi (by rw [← hxa]; exact hi)).symm, HB.out⟩

set_option maxHeartbeats 2000000 in
theorem check_5 {w : World} {cs : List Value} {h : ExHead} {dk dn : Int} {ds : ByteArray} {dA : Option Addr} {dl dc : Nat} {An : Option Addr} {nl nc : Nat} {Aa : Option Addr} {al ac : Nat} {As : Option Addr} {sl sc : Nat} {scope : List ByteArray} {olds : Int} {n : Nat} {args : List (Tr n)} (hx : ExC enc w cs h dk dn ds dA dl dc An nl nc Aa al ac) (hm : CMaps w) (hs : StrsAt w As sl scope) (hsl : sl ≤ sc) (hsc : sc ≤ maxLen) (ho : -9223372036854775808 ≤ olds ∧ olds ≤ 9223372036854775807) (hxa : args.length = al) (f : Fine (n := n) (h, args) scope) (hk0 : h.kind = 5) (hrow : 0 < al → ∃ b o, Aa = some ⟨b, o, none⟩ ∧ b < w.heap.size ∧ ∀ i, (hi : i < args.length) → ∃ cs', cs'.length = 9 ∧ RowAt w b (o + i * 9) cs' ∧ ExAt enc w n cs' args[i]) (ih : CheckSays enc n) (h40 : sl ≤ 40) : CheckIs w cs As sl sc olds (exprF (n + 1) (h, args) scope olds) := by
  have HF := Lib.hid f
  have HNL := Lib.hid (show nl ≤ 6 from by have h1 := f.count; rw [← hx.names.size]; simp only [hxa, hk0] at h1; have h2 : al = h.names.length + 1 ∧ al ≤ 7 := (by simpa [countB] using h1); omega)
  have HROW := Lib.hid hrow
  have HIH := Lib.hid ih
  clear hrow ih
  have hal : al ≤ 9223372036854775807 := by have := hx.ale; have := hx.acap; unfold maxLen at this; omega
  obtain ⟨k, df, S, N, names⟩ := h
  simp only at hk0
  subst hk0
  have hcb := f.count
  have hnb := f.named
  have hk : ¬ ((5 : Int) < 1 ∨ 15 < (5 : Int)) := by decide
  simp only [hxa] at hcb hnb
  have HNB := Lib.hid hnb
  clear hnb
  have hx0 := hx
  obtain ⟨rfl, hkr, hnr, hS, hdf, hns, hes, hn1, hn2, ha1, ha2⟩ := hx
  obtain ⟨v, hv⟩ : ∃ v, argsN 5 = v := ⟨_, rfl⟩
  have hv2 : v ≠ -2 := by rw [← hv]; exact argsN_ne hk
  have HX := Lib.hid hx0
  have HV := Lib.hid hv
  have HK := Lib.hid hk
  have HM := Lib.hid hm
  have HS := Lib.hid hs
  have HCB := Lib.hid hcb
  clear hk hm hs hns hes hdf hx0 hv hcb
  (unfold CheckIs; go_enter Tryd.func24, Tryd.ntmps24; go_wp2_with fail)
  refine (args_is _ _ v HV.out).mono ?_
  rintro e w1 ⟨rfl, rfl⟩
  go_wp2_with fail
  refine (counted_any (HX.out.below ((Below.refl _ _).alloc (Nat.le_refl _) _)) (HM.out.below ((Below.refl _ _).alloc (Nat.le_refl _) _)) HK.out).mono ?_
  rintro e w1 ⟨rfl, hb1⟩
  rw [HCB.out]
  have HB1 := Lib.hid (box_below hb1)
  have hs1 : w.heap.size < w1.heap.size := Nat.lt_of_lt_of_le (by simp) hb1.size
  have c0 : w1.cell? ⟨w.heap.size, 0, none⟩ = some (.int .i64 5) := box_cell hb1 rfl
  have c1 : w1.cell? ⟨w.heap.size, 1, none⟩ = some (.int .i64 dk) := box_cell hb1 rfl
  have c2 : w1.cell? ⟨w.heap.size, 2, none⟩ = some (.int .i64 dn) := box_cell hb1 rfl
  have c3 : w1.cell? ⟨w.heap.size, 3, none⟩ = some (.string ds) := box_cell hb1 rfl
  have c4 : w1.cell? ⟨w.heap.size, 4, none⟩ = some (.slice dA dl dc) := box_cell hb1 rfl
  have c5 : w1.cell? ⟨w.heap.size, 5, none⟩ = some (.string S) := box_cell hb1 rfl
  have c6 : w1.cell? ⟨w.heap.size, 6, none⟩ = some (.int .i64 N) := box_cell hb1 rfl
  have c7 : w1.cell? ⟨w.heap.size, 7, none⟩ = some (.slice An nl nc) := box_cell hb1 rfl
  have c8 : w1.cell? ⟨w.heap.size, 8, none⟩ = some (.slice Aa al ac) := box_cell hb1 rfl
  clear hb1
  go_wp2_with fail
  refine (named_any (HX.out.below HB1.out) (HM.out.below HB1.out) (HS.out.below HB1.out) hsl hsc HK.out).mono ?_
  rintro e w2 ⟨rfl, hb2⟩
  rw [HNB.out]
  have HB2 := Lib.hid (HB1.out.trans (hb2.mono HB1.out.size))
  have hs2 : w.heap.size < w2.heap.size := Nat.lt_of_lt_of_le hs1 hb2.size
  have d0 : w2.cell? ⟨w.heap.size, 0, none⟩ = some (.int .i64 5) := (hb2.cell (p := ⟨w.heap.size, 0, none⟩) hs1).trans c0
  have d1 : w2.cell? ⟨w.heap.size, 1, none⟩ = some (.int .i64 dk) := (hb2.cell (p := ⟨w.heap.size, 1, none⟩) hs1).trans c1
  have d2 : w2.cell? ⟨w.heap.size, 2, none⟩ = some (.int .i64 dn) := (hb2.cell (p := ⟨w.heap.size, 2, none⟩) hs1).trans c2
  have d3 : w2.cell? ⟨w.heap.size, 3, none⟩ = some (.string ds) := (hb2.cell (p := ⟨w.heap.size, 3, none⟩) hs1).trans c3
  have d4 : w2.cell? ⟨w.heap.size, 4, none⟩ = some (.slice dA dl dc) := (hb2.cell (p := ⟨w.heap.size, 4, none⟩) hs1).trans c4
  have d5 : w2.cell? ⟨w.heap.size, 5, none⟩ = some (.string S) := (hb2.cell (p := ⟨w.heap.size, 5, none⟩) hs1).trans c5
  have d6 : w2.cell? ⟨w.heap.size, 6, none⟩ = some (.int .i64 N) := (hb2.cell (p := ⟨w.heap.size, 6, none⟩) hs1).trans c6
  have d7 : w2.cell? ⟨w.heap.size, 7, none⟩ = some (.slice An nl nc) := (hb2.cell (p := ⟨w.heap.size, 7, none⟩) hs1).trans c7
  have d8 : w2.cell? ⟨w.heap.size, 8, none⟩ = some (.slice Aa al ac) := (hb2.cell (p := ⟨w.heap.size, 8, none⟩) hs1).trans c8
  clear hb2 c0 c1 c2 c3 c4 c5 c6 c7 c8
  by_cases ho0 : 0 ≤ olds
  · have HE := Lib.hid (exprF_pure (n := n) (o := olds) f ⟨ho0, by simp⟩)
    clear f
    go_wp2_with fail
    go_ret
    exact ⟨ret_i HE.out.symm, HB2.out⟩
  · have OWN := Lib.hid (show Own (n := n) (⟨5, df, S, N, names⟩, args) scope olds from ⟨f, by simp, by simp; omega⟩)
    clear f
    go_wp2_with fail
    go_loopg [72] al (fun g i wr => ∃ j : Nat, g = al - j ∧ j ≤ al ∧ i = .int .i64 j ∧ wr.cell? ⟨w.heap.size, 0, none⟩ = some (.int .i64 5) ∧ wr.cell? ⟨w.heap.size, 8, none⟩ = some (.slice Aa al ac) ∧ wr.cell? ⟨w.heap.size, 7, none⟩ = some (.slice An nl nc) ∧ w.heap.size < wr.heap.size ∧ Below w.heap.size w wr ∧ ∀ i, (hi : i < args.length) → i < j → argF (n := n) (⟨5, df, S, N, names⟩, args) scope olds i hi = 0)
    case atStart => exact ⟨0, by omega, by omega, rfl, d0, d8, d7, hs2, HB2.out, fun i hi h => absurd h (by omega)⟩
    case round =>
      obtain ⟨j, hg, hj, rfl, e0, e8, e7, hs3, hb, hall⟩ := hrel
      have HG := Lib.hid hg
      have HALL := Lib.hid hall
      have HB := Lib.hid hb
      have hsz := hb.size
      clear hg hall hb
      by_cases hlt : j < al
      · obtain ⟨b, o, rfl, hbw, hr⟩ := HROW.out (by omega)
        obtain ⟨cs', hl', hrj, hex⟩ := hr j (by rw [hxa]; exact hlt)
        obtain ⟨q0, q1, q2, q3, q4a, q4, q4c, q5, q6, q7a, q7, q7c, q8a, q8, q8c, rfl⟩ := hex.cells
        · have hex0 := hex
          have HEX := Lib.hid (hex.below HB.out)
          have r0 : wr.cell? ⟨b, o + j * 9, none⟩ = some (.int .i64 q0) := (HB.out.cell (p := ⟨b, o + j * 9, none⟩) hbw).trans (by simpa using hrj 0 (by simp))
          have r1 : wr.cell? ⟨b, o + j * 9 + 1, none⟩ = some (.int .i64 q1) := (HB.out.cell (p := ⟨b, o + j * 9 + 1, none⟩) hbw).trans (by simpa using hrj 1 (by simp))
          have r2 : wr.cell? ⟨b, o + j * 9 + 2, none⟩ = some (.int .i64 q2) := (HB.out.cell (p := ⟨b, o + j * 9 + 2, none⟩) hbw).trans (by simpa using hrj 2 (by simp))
          have r3 : wr.cell? ⟨b, o + j * 9 + 3, none⟩ = some (.string q3) := (HB.out.cell (p := ⟨b, o + j * 9 + 3, none⟩) hbw).trans (by simpa using hrj 3 (by simp))
          have r4 : wr.cell? ⟨b, o + j * 9 + 4, none⟩ = some (.slice q4a q4 q4c) := (HB.out.cell (p := ⟨b, o + j * 9 + 4, none⟩) hbw).trans (by simpa using hrj 4 (by simp))
          have r5 : wr.cell? ⟨b, o + j * 9 + 5, none⟩ = some (.string q5) := (HB.out.cell (p := ⟨b, o + j * 9 + 5, none⟩) hbw).trans (by simpa using hrj 5 (by simp))
          have r6 : wr.cell? ⟨b, o + j * 9 + 6, none⟩ = some (.int .i64 q6) := (HB.out.cell (p := ⟨b, o + j * 9 + 6, none⟩) hbw).trans (by simpa using hrj 6 (by simp))
          have r7 : wr.cell? ⟨b, o + j * 9 + 7, none⟩ = some (.slice q7a q7 q7c) := (HB.out.cell (p := ⟨b, o + j * 9 + 7, none⟩) hbw).trans (by simpa using hrj 7 (by simp))
          have r8 : wr.cell? ⟨b, o + j * 9 + 8, none⟩ = some (.slice q8a q8 q8c) := (HB.out.cell (p := ⟨b, o + j * 9 + 8, none⟩) hbw).trans (by simpa using hrj 8 (by simp))
          clear hrj hex hr
          have hjx : j < args.length := by rw [hxa]; exact hlt
          by_cases hlast : j + 1 = al
          · have hq : ((j : Int) == (al : Int) - 1) = true := by rw [beq_iff_eq]; omega
            have HLAST := Lib.hid hlast
            clear hlast
            have HIN := Lib.hid (show inB2 5 j args.length = true from by rw [hxa]; simp [inB2]; exact HLAST.out)
            have hnn : sl + nl ≤ 1099511627776 := by have := HNL.out; omega
            have hx40 : 40 < sl + nl ↔ 40 < scope.length + names.length := by rw [HS.out.size, HX.out.names.size]
            have HEX0 := Lib.hid hex0
            clear hex0
            have hlenn : (scope ++ names).length = sl + nl := by rw [List.length_append, HS.out.size, HX.out.names.size]
            go_wp2_with fail
            obtain ⟨wb, hwb⟩ : ∃ wb : World, wb = wr.alloc (.cells #[.int .i64 q0, .int .i64 q1, .int .i64 q2, .string q3, .slice q4a q4 q4c, .string q5, .int .i64 q6, .slice q7a q7 q7c, .slice q8a q8 q8c] 38) := ⟨_, rfl⟩
            have hbx : Below w.heap.size w wb := by rw [hwb]; exact HB.out.alloc HB.out.size _
            have k0 : wb.cell? ⟨wr.heap.size, 0, none⟩ = some (.int .i64 q0) := by rw [hwb]; simp
            have k1 : wb.cell? ⟨wr.heap.size, 1, none⟩ = some (.int .i64 q1) := by rw [hwb]; simp
            have k2 : wb.cell? ⟨wr.heap.size, 2, none⟩ = some (.int .i64 q2) := by rw [hwb]; simp
            have k3 : wb.cell? ⟨wr.heap.size, 3, none⟩ = some (.string q3) := by rw [hwb]; simp
            have k4 : wb.cell? ⟨wr.heap.size, 4, none⟩ = some (.slice q4a q4 q4c) := by rw [hwb]; simp
            have k5 : wb.cell? ⟨wr.heap.size, 5, none⟩ = some (.string q5) := by rw [hwb]; simp
            have k6 : wb.cell? ⟨wr.heap.size, 6, none⟩ = some (.int .i64 q6) := by rw [hwb]; simp
            have k7 : wb.cell? ⟨wr.heap.size, 7, none⟩ = some (.slice q7a q7 q7c) := by rw [hwb]; simp
            have k8 : wb.cell? ⟨wr.heap.size, 8, none⟩ = some (.slice q8a q8 q8c) := by rw [hwb]; simp
            have f0 : wb.cell? ⟨w.heap.size, 0, none⟩ = some (.int .i64 5) := by rw [hwb, World.cell?_alloc_lt _ _ _ hs3]; exact e0
            have f7 : wb.cell? ⟨w.heap.size, 7, none⟩ = some (.slice An nl nc) := by rw [hwb, World.cell?_alloc_lt _ _ _ hs3]; exact e7
            have f8 : wb.cell? ⟨w.heap.size, 8, none⟩ = some (.slice (some ⟨b, o, none⟩) al ac) := by rw [hwb, World.cell?_alloc_lt _ _ _ hs3]; exact e8
            have hsb : wr.heap.size < wb.heap.size := by rw [hwb]; simp
            rw [← hwb]
            have HBX := Lib.hid hbx
            clear hwb hbx
            by_cases h41 : 40 < sl + nl
            · have HAV := Lib.hid (show argF (n := n) (⟨5, df, S, N, names⟩, args) scope olds j hjx = 1 from by unfold argF; rw [if_pos HIN.out, if_pos (hx40.mp h41)])
              go_region_held3 (fun w' => w'.cell? ⟨w.heap.size, 7, none⟩ = some (.slice An nl nc)) (go_keep)
                (first
                  | (go_at_call 37; refine (clone_any As sl sc scope _ (HS.out.below HBX.out.drew) (by omega)).mono ?_; rintro e w3 ⟨vc, rfl, hown, hbc⟩; have HOWN := Lib.hid hown; have HBC := Lib.hid hbc; have x7 : w3.cell? ⟨w.heap.size, 7, none⟩ = some (.slice An nl nc) := (hbc.cell (p := ⟨w.heap.size, 7, none⟩) (Nat.lt_trans hs3 hsb)).trans f7; have HB4 := Lib.hid (HBX.out.drew.trans (hbc.mono HBX.out.size)); clear hown hbc)
                  | (refine step_append_strs (by rfl) (.tmp 95) (.tmp 97) (by rfl) _ vc sl (scope.map Value.string) (by rfl) HOWN.out An nl nc names (by rfl) (HX.out.names.below HB4.out) hnn HBC.out.size ?_; intro v' w4 h1 h2; rw [← List.map_append] at h1; obtain ⟨A4, c4, hv4, hst, hl4, hm4⟩ := strsAt_owned h1; subst hv4; have HB5 := Lib.hid (HBX.out.drew.trans (HBC.out.trans h2 |>.mono HBX.out.size)); have HST := Lib.hid hst; have h2s : w.heap.size < w4.heap.size := Nat.lt_of_lt_of_le (Nat.lt_trans hs3 hsb) (Nat.le_trans HBC.out.size h2.size); have y0 : w4.cell? ⟨wr.heap.size, 0, none⟩ = some (.int .i64 q0) := ((HBC.out.trans h2).cell (p := ⟨wr.heap.size, 0, none⟩) hsb).trans k0; have y1 : w4.cell? ⟨wr.heap.size, 1, none⟩ = some (.int .i64 q1) := ((HBC.out.trans h2).cell (p := ⟨wr.heap.size, 1, none⟩) hsb).trans k1; have y2 : w4.cell? ⟨wr.heap.size, 2, none⟩ = some (.int .i64 q2) := ((HBC.out.trans h2).cell (p := ⟨wr.heap.size, 2, none⟩) hsb).trans k2; have y3 : w4.cell? ⟨wr.heap.size, 3, none⟩ = some (.string q3) := ((HBC.out.trans h2).cell (p := ⟨wr.heap.size, 3, none⟩) hsb).trans k3; have y4 : w4.cell? ⟨wr.heap.size, 4, none⟩ = some (.slice q4a q4 q4c) := ((HBC.out.trans h2).cell (p := ⟨wr.heap.size, 4, none⟩) hsb).trans k4; have y5 : w4.cell? ⟨wr.heap.size, 5, none⟩ = some (.string q5) := ((HBC.out.trans h2).cell (p := ⟨wr.heap.size, 5, none⟩) hsb).trans k5; have y6 : w4.cell? ⟨wr.heap.size, 6, none⟩ = some (.int .i64 q6) := ((HBC.out.trans h2).cell (p := ⟨wr.heap.size, 6, none⟩) hsb).trans k6; have y7 : w4.cell? ⟨wr.heap.size, 7, none⟩ = some (.slice q7a q7 q7c) := ((HBC.out.trans h2).cell (p := ⟨wr.heap.size, 7, none⟩) hsb).trans k7; have y8 : w4.cell? ⟨wr.heap.size, 8, none⟩ = some (.slice q8a q8 q8c) := ((HBC.out.trans h2).cell (p := ⟨wr.heap.size, 8, none⟩) hsb).trans k8; have z0 : w4.cell? ⟨w.heap.size, 0, none⟩ = some (.int .i64 5) := ((HBC.out.trans h2).cell (p := ⟨w.heap.size, 0, none⟩) (Nat.lt_trans hs3 hsb)).trans f0; have z7 : w4.cell? ⟨w.heap.size, 7, none⟩ = some (.slice An nl nc) := ((HBC.out.trans h2).cell (p := ⟨w.heap.size, 7, none⟩) (Nat.lt_trans hs3 hsb)).trans f7; have z8 : w4.cell? ⟨w.heap.size, 8, none⟩ = some (.slice (some ⟨b, o, none⟩) al ac) := ((HBC.out.trans h2).cell (p := ⟨w.heap.size, 8, none⟩) (Nat.lt_trans hs3 hsb)).trans f8; clear h1 h2 hst))
              go_wp2_with fail
              go_ret
              exact ⟨ret_i (by rw [exprF_at OWN.out hjx (fun i hi => HALL.out i _ hi) (by rw [HAV.out]; decide), HAV.out]), HB5.out⟩
            · obtain ⟨ev, hev⟩ : ∃ ev, exprF n args[j] (scope ++ names) olds = ev := ⟨_, rfl⟩
              have hav : argF (n := n) (⟨5, df, S, N, names⟩, args) scope olds j hjx = ev := by rw [← hev]; unfold argF; rw [if_pos HIN.out, if_neg (fun h => h41 (hx40.mpr h))]
              have HEV := Lib.hid hev
              have HAV := Lib.hid hav
              clear hev hav
              by_cases hz : ev = 0
              all_goals
                go_region_held3 (fun w' => w'.cell? ⟨w.heap.size, 7, none⟩ = some (.slice An nl nc)) (go_keep)
                  (first
                    | (go_at_call 37; refine (clone_any As sl sc scope _ (HS.out.below HBX.out.drew) (by omega)).mono ?_; rintro e w3 ⟨vc, rfl, hown, hbc⟩; have HOWN := Lib.hid hown; have HBC := Lib.hid hbc; have x7 : w3.cell? ⟨w.heap.size, 7, none⟩ = some (.slice An nl nc) := (hbc.cell (p := ⟨w.heap.size, 7, none⟩) (Nat.lt_trans hs3 hsb)).trans f7; have HB4 := Lib.hid (HBX.out.drew.trans (hbc.mono HBX.out.size)); clear hown hbc)
                    | (refine step_append_strs (by rfl) (.tmp 95) (.tmp 97) (by rfl) _ vc sl (scope.map Value.string) (by rfl) HOWN.out An nl nc names (by rfl) (HX.out.names.below HB4.out) hnn HBC.out.size ?_; intro v' w4 h1 h2; rw [← List.map_append] at h1; obtain ⟨A4, c4, hv4, hst, hl4, hm4⟩ := strsAt_owned h1; subst hv4; have HB5 := Lib.hid (HBX.out.drew.trans (HBC.out.trans h2 |>.mono HBX.out.size)); have HST := Lib.hid hst; have h2s : w.heap.size < w4.heap.size := Nat.lt_of_lt_of_le (Nat.lt_trans hs3 hsb) (Nat.le_trans HBC.out.size h2.size); have y0 : w4.cell? ⟨wr.heap.size, 0, none⟩ = some (.int .i64 q0) := ((HBC.out.trans h2).cell (p := ⟨wr.heap.size, 0, none⟩) hsb).trans k0; have y1 : w4.cell? ⟨wr.heap.size, 1, none⟩ = some (.int .i64 q1) := ((HBC.out.trans h2).cell (p := ⟨wr.heap.size, 1, none⟩) hsb).trans k1; have y2 : w4.cell? ⟨wr.heap.size, 2, none⟩ = some (.int .i64 q2) := ((HBC.out.trans h2).cell (p := ⟨wr.heap.size, 2, none⟩) hsb).trans k2; have y3 : w4.cell? ⟨wr.heap.size, 3, none⟩ = some (.string q3) := ((HBC.out.trans h2).cell (p := ⟨wr.heap.size, 3, none⟩) hsb).trans k3; have y4 : w4.cell? ⟨wr.heap.size, 4, none⟩ = some (.slice q4a q4 q4c) := ((HBC.out.trans h2).cell (p := ⟨wr.heap.size, 4, none⟩) hsb).trans k4; have y5 : w4.cell? ⟨wr.heap.size, 5, none⟩ = some (.string q5) := ((HBC.out.trans h2).cell (p := ⟨wr.heap.size, 5, none⟩) hsb).trans k5; have y6 : w4.cell? ⟨wr.heap.size, 6, none⟩ = some (.int .i64 q6) := ((HBC.out.trans h2).cell (p := ⟨wr.heap.size, 6, none⟩) hsb).trans k6; have y7 : w4.cell? ⟨wr.heap.size, 7, none⟩ = some (.slice q7a q7 q7c) := ((HBC.out.trans h2).cell (p := ⟨wr.heap.size, 7, none⟩) hsb).trans k7; have y8 : w4.cell? ⟨wr.heap.size, 8, none⟩ = some (.slice q8a q8 q8c) := ((HBC.out.trans h2).cell (p := ⟨wr.heap.size, 8, none⟩) hsb).trans k8; have z0 : w4.cell? ⟨w.heap.size, 0, none⟩ = some (.int .i64 5) := ((HBC.out.trans h2).cell (p := ⟨w.heap.size, 0, none⟩) (Nat.lt_trans hs3 hsb)).trans f0; have z7 : w4.cell? ⟨w.heap.size, 7, none⟩ = some (.slice An nl nc) := ((HBC.out.trans h2).cell (p := ⟨w.heap.size, 7, none⟩) (Nat.lt_trans hs3 hsb)).trans f7; have z8 : w4.cell? ⟨w.heap.size, 8, none⟩ = some (.slice (some ⟨b, o, none⟩) al ac) := ((HBC.out.trans h2).cell (p := ⟨w.heap.size, 8, none⟩) (Nat.lt_trans hs3 hsb)).trans f8; clear h1 h2 hst))
                go_wp2_with fail
                refine (HIH.out _ _ _ A4 (sl + nl) c4 (scope ++ names) olds (HEX0.out.below HB5.out) (HM.out.below HB5.out) HST.out (by omega) hl4 hm4 ho).mono ?_
                rintro e w5 ⟨rfl, hb6⟩
                rw [HEV.out]
                have HB6 := Lib.hid (HB5.out.trans (hb6.mono (Nat.le_of_lt h2s)))
                have g0 : w5.cell? ⟨w.heap.size, 0, none⟩ = some (.int .i64 5) := (hb6.cell (p := ⟨w.heap.size, 0, none⟩) h2s).trans z0
                have g7 : w5.cell? ⟨w.heap.size, 7, none⟩ = some (.slice An nl nc) := (hb6.cell (p := ⟨w.heap.size, 7, none⟩) h2s).trans z7
                have g8 : w5.cell? ⟨w.heap.size, 8, none⟩ = some (.slice (some ⟨b, o, none⟩) al ac) := (hb6.cell (p := ⟨w.heap.size, 8, none⟩) h2s).trans z8
                have hs4 : w.heap.size < w5.heap.size := Nat.lt_of_lt_of_le h2s hb6.size
                clear hb6
                go_wp2_with fail
              · subst hz
                go_roundg (al - (j + 1))
                case measure => have := HG.out; omega
                case rel =>
                  refine ⟨j + 1, rfl, hlt, rfl, g0, g8, g7, hs4, HB6.out, fun i hi hij => ?_⟩
                  by_cases hji : i = j
                  · subst hji; exact HAV.out
                  · exact HALL.out i hi (by omega)
              · go_ret
                exact ⟨ret_i (by rw [exprF_at OWN.out hjx (fun i hi => HALL.out i _ hi) (by rw [HAV.out]; exact hz), HAV.out]), HB6.out⟩
          · have hq : ((j : Int) == (al : Int) - 1) = false := by rw [beq_eq_false_iff_ne]; omega
            have HIN := Lib.hid (show inB2 5 j args.length = false from by rw [hxa]; simp [inB2]; exact hlast)
            clear hlast
            obtain ⟨ev, hev⟩ : ∃ ev, exprF n args[j] scope olds = ev := ⟨_, rfl⟩
            have hav : argF (n := n) (⟨5, df, S, N, names⟩, args) scope olds j hjx = ev := by rw [← hev]; unfold argF; rw [if_neg (by rw [HIN.out]; decide)]
            have HEV := Lib.hid hev
            have HAV := Lib.hid hav
            clear hev hav
            by_cases hz : ev = 0
            all_goals
              go_wp2_with fail
              refine (HIH.out _ _ _ As sl sc scope olds (HEX.out.below ((Below.refl _ _).alloc (Nat.le_refl _) _)) (HM.out.below (HB.out.alloc HB.out.size _)) (HS.out.below (HB.out.alloc HB.out.size _)) h40 hsl hsc ho).mono ?_
              rintro e w3 ⟨rfl, hb3⟩
              rw [HEV.out]
              have HB3 := Lib.hid ((HB.out.alloc HB.out.size _).trans (hb3.mono (Nat.le_trans HB.out.size (by simp))))
              have g0 : w3.cell? ⟨w.heap.size, 0, none⟩ = some (.int .i64 5) := ((box_below hb3).cell (p := ⟨w.heap.size, 0, none⟩) hs3).trans e0
              have g8 : w3.cell? ⟨w.heap.size, 8, none⟩ = some (.slice (some ⟨b, o, none⟩) al ac) := ((box_below hb3).cell (p := ⟨w.heap.size, 8, none⟩) hs3).trans e8
              have g7 : w3.cell? ⟨w.heap.size, 7, none⟩ = some (.slice An nl nc) := ((box_below hb3).cell (p := ⟨w.heap.size, 7, none⟩) hs3).trans e7
              have hs4 : w.heap.size < w3.heap.size := Nat.lt_of_lt_of_le hs3 (Nat.le_trans (by simp) hb3.size)
              clear hb3
              go_wp2_with fail
            · subst hz
              go_roundg (al - (j + 1))
              case measure => have := HG.out; omega
              case rel =>
                refine ⟨j + 1, rfl, hlt, rfl, g0, g8, g7, hs4, HB3.out, fun i hi hij => ?_⟩
                by_cases hji : i = j
                · subst hji; exact HAV.out
                · exact HALL.out i hi (by omega)
            · go_ret
              exact ⟨ret_i (by rw [exprF_at OWN.out hjx (fun i hi => HALL.out i _ hi) (by rw [HAV.out]; exact hz), HAV.out]), HB3.out⟩
      · obtain rfl : j = al := by omega
        go_wp2_with fail
        go_ret
        exact ⟨ret_i (exprF_zero OWN.out fun i hi => HALL.out i hi (by rw [← hxa]; exact hi)).symm, HB.out⟩

end
end Go.Proofs.YtlgnaopaeapbfaaDoor

