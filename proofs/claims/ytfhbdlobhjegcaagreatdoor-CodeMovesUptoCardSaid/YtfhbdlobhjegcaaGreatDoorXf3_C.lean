import Derived.Test.YtfhbdlobhjegcaaGreatDoorGXFA
import Derived.Deep.DeepCutAuto
import Derived.Deep.CutBlock
import Derived.Deep.LoopGhost
import Derived.BigQuiet
import Derived.Deep.RegionHeld3
namespace Go.Proofs.YtfhbdlobhjegcaaGreatDoor
open Go.RowKit Go.ChangeShapes Go.WideShapes Go.Deep Go.ChangeAt
set_option linter.unusedVariables false
section
variable {H : Type} {enc : TypeId × Value -> H}
set_option maxRecDepth 100000 in
set_option maxHeartbeats 4000000 in
theorem xf_9 {w : World} {cs : List Value} {h : ExHead} {dk dn : Int} {ds : ByteArray} {dA : Option Addr} {dl dc : Nat} {An : Option Addr} {nl nc : Nat} {Aa : Option Addr} {al ac : Nat} {As : Option Addr} {sl sc : Nat} {scope : List ByteArray} {olds : Int} {n : Nat} {args : List (Tr n)} (hx : ExC enc w cs h dk dn ds dA dl dc An nl nc Aa al ac) (hs : zt w As sl scope) (hsl : sl <= sc) (hsc : sc <= maxLen) (ho : 0 <= olds /\ olds <= 6) (hxa : args.length = al) (hk0 : h.kind = 9) (hrow : 0 < al -> ∃ b o, Aa = some ⟨b, o, none⟩ /\ b < w.heap.size /\ ∀ i, (hi : i < args.length) -> ∃ cs', cs'.length = 9 /\ RowAt w b (o + i * 9) cs' /\ ExAt enc w n cs' args[i]) (ih : XfSays enc n) (h40 : sl <= 40) : XfIs w cs As sl sc olds (exprF (n + 1) (h, args) scope olds) := by
 obtain ⟨k, df, S, N, names⟩ := h
 simp only at hk0
 subst hk0
 have hx0 := hx
 obtain ⟨rfl, hkr, hnr, hS, hdf, hns, hes, hn1, hn2, ha1, ha2⟩ := hx
 have hal : al <= 9223372036854775807 := by unfold maxLen at ha2; omega
 have hnl : nl <= 9223372036854775807 := by unfold maxLen at hn2; omega
 have hcb : countB 9 al S names = decide (1 <= al /\ al <= 7) := by first | rfl | (rw [<- hns.size]; rfl)
 have HCB := Lib.hid hcb
 have HX := Lib.hid hx0
 have HS := Lib.hid hs
 have HROW := Lib.hid hrow
 have HIH := Lib.hid ih
 have HXA := Lib.hid hxa
 clear hx0 hs hrow ih hxa hns hes hdf hkr hcb
 have HK0 := Lib.hid (Kept.start w #[.int .i64 9, .int .i64 dk, .int .i64 dn, .string ds, .slice dA dl dc, .string S, .int .i64 N, .slice An nl nc, .slice Aa al ac] 28)
 unfold XfIs
 go_enter Tryz.func15, Tryz.ntmps15
 go_upto_block 0 with fail
 go_cut [8] (fun s8 wx => s8 = .bool (countB 9 al S names) /\ Kept w wx #[.int .i64 9, .int .i64 dk, .int .i64 dn, .string ds, .slice dA dl dc, .string S, .int .i64 N, .slice An nl nc, .slice Aa al ac])
 case first => as_aux_lemma =>
  go_wp2_with fail
  refine (in_any _ _ _ _).mono ?_
  rintro e w1 ⟨rfl, rfl⟩
  go_wp2_with fail
  go_meet
  exact ⟨congrArg Value.bool (by rw [HCB.out]; unfold inB; rw [<- Bool.decide_and]; (first | rfl | exact decide_eq_decide.2 (by omega) | (symm; apply decide_eq_true; omega) | (symm; apply decide_eq_false; omega) | (rw [Bool.eq_iff_iff]; simp; omega) | (simp only [true_and]; first | exact decide_eq_decide.2 (by omega) | (symm; apply decide_eq_true; omega) | (symm; apply decide_eq_false; omega)))), HK0.out⟩
 obtain ⟨rfl, hkept⟩ := hcut
 clear HK0
 have HK1 := Lib.hid hkept
 clear hkept
 have c0 : wc.cell? ⟨w.heap.size, 0, none⟩ = some (.int .i64 9) := HK1.out.cell 0 _ rfl
 have c1 : wc.cell? ⟨w.heap.size, 1, none⟩ = some (.int .i64 dk) := HK1.out.cell 1 _ rfl
 have c2 : wc.cell? ⟨w.heap.size, 2, none⟩ = some (.int .i64 dn) := HK1.out.cell 2 _ rfl
 have c3 : wc.cell? ⟨w.heap.size, 3, none⟩ = some (.string ds) := HK1.out.cell 3 _ rfl
 have c4 : wc.cell? ⟨w.heap.size, 4, none⟩ = some (.slice dA dl dc) := HK1.out.cell 4 _ rfl
 have c5 : wc.cell? ⟨w.heap.size, 5, none⟩ = some (.string S) := HK1.out.cell 5 _ rfl
 have c6 : wc.cell? ⟨w.heap.size, 6, none⟩ = some (.int .i64 N) := HK1.out.cell 6 _ rfl
 have c7 : wc.cell? ⟨w.heap.size, 7, none⟩ = some (.slice An nl nc) := HK1.out.cell 7 _ rfl
 have c8 : wc.cell? ⟨w.heap.size, 8, none⟩ = some (.slice Aa al ac) := HK1.out.cell 8 _ rfl
 have HK := Lib.hid (show ¬ ((9 : Int) < 1 \/ 15 < (9 : Int)) from by decide)
 cases hcb : countB 9 al S names
 ·
  have hcb2 : countB 9 args.length S names = false := by rw [HXA.out]; exact hcb
  have HE := Lib.hid (exprF_count (n := n) (x := (⟨9, df, S, N, names⟩, args)) (sc := scope) (o := olds) HK.out hcb2)
  clear hcb hcb2
  go_wp2_with fail
  go_ret
  exact ⟨ret_i HE.out.symm, HK1.out.below⟩
 have hcb2 : countB 9 args.length S names = true := by rw [HXA.out]; exact hcb
 have HC2 := Lib.hid hcb2
 clear hcb hcb2 HCB
 have hnb : namedB 9 N S names scope = true := rfl
 have HNB := Lib.hid hnb
 clear hnb
 go_upto_block 1 with fail
 go_cut [8] (fun s8 wx => s8 = .bool (namedB 9 N S names scope) /\ Kept w wx #[.int .i64 9, .int .i64 dk, .int .i64 dn, .string ds, .slice dA dl dc, .string S, .int .i64 N, .slice An nl nc, .slice Aa al ac])
 case first => as_aux_lemma =>
  go_wp2_with fail
  go_meet
  exact ⟨congrArg Value.bool HNB.out.symm, HK1.out⟩
 case rest => as_aux_lemma =>
  obtain ⟨rfl, hkept⟩ := hcut
  have HK2 := Lib.hid hkept
  clear hkept HK1 c0 c1 c2 c3 c4 c5 c6 c7 c8
  have d0 : wc.cell? ⟨w.heap.size, 0, none⟩ = some (.int .i64 9) := HK2.out.cell 0 _ rfl
  have d1 : wc.cell? ⟨w.heap.size, 1, none⟩ = some (.int .i64 dk) := HK2.out.cell 1 _ rfl
  have d2 : wc.cell? ⟨w.heap.size, 2, none⟩ = some (.int .i64 dn) := HK2.out.cell 2 _ rfl
  have d3 : wc.cell? ⟨w.heap.size, 3, none⟩ = some (.string ds) := HK2.out.cell 3 _ rfl
  have d4 : wc.cell? ⟨w.heap.size, 4, none⟩ = some (.slice dA dl dc) := HK2.out.cell 4 _ rfl
  have d5 : wc.cell? ⟨w.heap.size, 5, none⟩ = some (.string S) := HK2.out.cell 5 _ rfl
  have d6 : wc.cell? ⟨w.heap.size, 6, none⟩ = some (.int .i64 N) := HK2.out.cell 6 _ rfl
  have d7 : wc.cell? ⟨w.heap.size, 7, none⟩ = some (.slice An nl nc) := HK2.out.cell 7 _ rfl
  have d8 : wc.cell? ⟨w.heap.size, 8, none⟩ = some (.slice Aa al ac) := HK2.out.cell 8 _ rfl
  cases hnb : namedB 9 N S names scope
  ·
   have HE := Lib.hid (exprF_named (n := n) (x := (⟨9, df, S, N, names⟩, args)) (sc := scope) (o := olds) HK.out HC2.out hnb)
   clear hnb
   go_wp2_with fail
   go_ret
   exact ⟨ret_i HE.out.symm, HK2.out.below⟩
  have f : Fine (n := n) (⟨9, df, S, N, names⟩, args) scope := ⟨HK.out, HC2.out, hnb⟩
  clear hnb HNB
  have ho0 : 0 <= olds := ho.1
  have HE := Lib.hid (exprF_pure (n := n) (o := olds) f ⟨ho0, by simp⟩)
  clear f
  go_wp2_with fail
  go_ret
  exact ⟨ret_i HE.out.symm, HK2.out.below⟩
set_option maxRecDepth 100000 in
set_option maxHeartbeats 4000000 in
theorem xf_10 {w : World} {cs : List Value} {h : ExHead} {dk dn : Int} {ds : ByteArray} {dA : Option Addr} {dl dc : Nat} {An : Option Addr} {nl nc : Nat} {Aa : Option Addr} {al ac : Nat} {As : Option Addr} {sl sc : Nat} {scope : List ByteArray} {olds : Int} {n : Nat} {args : List (Tr n)} (hx : ExC enc w cs h dk dn ds dA dl dc An nl nc Aa al ac) (hs : zt w As sl scope) (hsl : sl <= sc) (hsc : sc <= maxLen) (ho : 0 <= olds /\ olds <= 6) (hxa : args.length = al) (hk0 : h.kind = 10) (hrow : 0 < al -> ∃ b o, Aa = some ⟨b, o, none⟩ /\ b < w.heap.size /\ ∀ i, (hi : i < args.length) -> ∃ cs', cs'.length = 9 /\ RowAt w b (o + i * 9) cs' /\ ExAt enc w n cs' args[i]) (ih : XfSays enc n) (h40 : sl <= 40) : XfIs w cs As sl sc olds (exprF (n + 1) (h, args) scope olds) := by
 obtain ⟨k, df, S, N, names⟩ := h
 simp only at hk0
 subst hk0
 have hx0 := hx
 obtain ⟨rfl, hkr, hnr, hS, hdf, hns, hes, hn1, hn2, ha1, ha2⟩ := hx
 have hal : al <= 9223372036854775807 := by unfold maxLen at ha2; omega
 have hnl : nl <= 9223372036854775807 := by unfold maxLen at hn2; omega
 have hcb : countB 10 al S names = decide (primN S.toList = al) := by first | rfl | (rw [<- hns.size]; rfl)
 have HCB := Lib.hid hcb
 have HX := Lib.hid hx0
 have HS := Lib.hid hs
 have HROW := Lib.hid hrow
 have HIH := Lib.hid ih
 have HXA := Lib.hid hxa
 clear hx0 hs hrow ih hxa hns hes hdf hkr hcb
 have HK0 := Lib.hid (Kept.start w #[.int .i64 10, .int .i64 dk, .int .i64 dn, .string ds, .slice dA dl dc, .string S, .int .i64 N, .slice An nl nc, .slice Aa al ac] 28)
 unfold XfIs
 go_enter Tryz.func15, Tryz.ntmps15
 go_upto_block 0 with fail
 go_cut [8] (fun s8 wx => s8 = .bool (countB 10 al S names) /\ Kept w wx #[.int .i64 10, .int .i64 dk, .int .i64 dn, .string ds, .slice dA dl dc, .string S, .int .i64 N, .slice An nl nc, .slice Aa al ac])
 case first => as_aux_lemma =>
  by_cases h1 : primN S.toList = al
  ·
   have hq : (primN S.toList == (al : Int)) = true := beq_iff_eq.2 h1
   have hpos : 0 < al := primN_pos h1
   have HP := Lib.hid h1
   clear h1
   go_wp2_with fail
   refine (primArgs_any S _).mono ?_
   rintro e w1 ⟨rfl, rfl⟩
   go_wp2_with fail
   go_meet
   exact ⟨congrArg Value.bool (by rw [HCB.out]; symm; exact decide_eq_true HP.out), HK0.out⟩
  have hq : (primN S.toList == (al : Int)) = false := beq_eq_false_iff_ne.2 h1
  have HP := Lib.hid h1
  clear h1
  go_wp2_with fail
  refine (primArgs_any S _).mono ?_
  rintro e w1 ⟨rfl, rfl⟩
  go_wp2_with fail
  go_meet
  exact ⟨congrArg Value.bool (by rw [HCB.out]; symm; exact decide_eq_false HP.out), HK0.out⟩
 obtain ⟨rfl, hkept⟩ := hcut
 clear HK0
 have HK1 := Lib.hid hkept
 clear hkept
 have c0 : wc.cell? ⟨w.heap.size, 0, none⟩ = some (.int .i64 10) := HK1.out.cell 0 _ rfl
 have c1 : wc.cell? ⟨w.heap.size, 1, none⟩ = some (.int .i64 dk) := HK1.out.cell 1 _ rfl
 have c2 : wc.cell? ⟨w.heap.size, 2, none⟩ = some (.int .i64 dn) := HK1.out.cell 2 _ rfl
 have c3 : wc.cell? ⟨w.heap.size, 3, none⟩ = some (.string ds) := HK1.out.cell 3 _ rfl
 have c4 : wc.cell? ⟨w.heap.size, 4, none⟩ = some (.slice dA dl dc) := HK1.out.cell 4 _ rfl
 have c5 : wc.cell? ⟨w.heap.size, 5, none⟩ = some (.string S) := HK1.out.cell 5 _ rfl
 have c6 : wc.cell? ⟨w.heap.size, 6, none⟩ = some (.int .i64 N) := HK1.out.cell 6 _ rfl
 have c7 : wc.cell? ⟨w.heap.size, 7, none⟩ = some (.slice An nl nc) := HK1.out.cell 7 _ rfl
 have c8 : wc.cell? ⟨w.heap.size, 8, none⟩ = some (.slice Aa al ac) := HK1.out.cell 8 _ rfl
 have HK := Lib.hid (show ¬ ((10 : Int) < 1 \/ 15 < (10 : Int)) from by decide)
 cases hcb : countB 10 al S names
 ·
  have hcb2 : countB 10 args.length S names = false := by rw [HXA.out]; exact hcb
  have HE := Lib.hid (exprF_count (n := n) (x := (⟨10, df, S, N, names⟩, args)) (sc := scope) (o := olds) HK.out hcb2)
  clear hcb hcb2
  go_wp2_with fail
  go_ret
  exact ⟨ret_i HE.out.symm, HK1.out.below⟩
 have hcb2 : countB 10 args.length S names = true := by rw [HXA.out]; exact hcb
 have HC2 := Lib.hid hcb2
 clear hcb hcb2 HCB
 have hnb : namedB 10 N S names scope = true := rfl
 have HNB := Lib.hid hnb
 clear hnb
 go_upto_block 1 with fail
 go_cut [8] (fun s8 wx => s8 = .bool (namedB 10 N S names scope) /\ Kept w wx #[.int .i64 10, .int .i64 dk, .int .i64 dn, .string ds, .slice dA dl dc, .string S, .int .i64 N, .slice An nl nc, .slice Aa al ac])
 case first => as_aux_lemma =>
  go_wp2_with fail
  go_meet
  exact ⟨congrArg Value.bool HNB.out.symm, HK1.out⟩
 case rest => as_aux_lemma =>
  obtain ⟨rfl, hkept⟩ := hcut
  have HK2 := Lib.hid hkept
  clear hkept HK1 c0 c1 c2 c3 c4 c5 c6 c7 c8
  have d0 : wc.cell? ⟨w.heap.size, 0, none⟩ = some (.int .i64 10) := HK2.out.cell 0 _ rfl
  have d1 : wc.cell? ⟨w.heap.size, 1, none⟩ = some (.int .i64 dk) := HK2.out.cell 1 _ rfl
  have d2 : wc.cell? ⟨w.heap.size, 2, none⟩ = some (.int .i64 dn) := HK2.out.cell 2 _ rfl
  have d3 : wc.cell? ⟨w.heap.size, 3, none⟩ = some (.string ds) := HK2.out.cell 3 _ rfl
  have d4 : wc.cell? ⟨w.heap.size, 4, none⟩ = some (.slice dA dl dc) := HK2.out.cell 4 _ rfl
  have d5 : wc.cell? ⟨w.heap.size, 5, none⟩ = some (.string S) := HK2.out.cell 5 _ rfl
  have d6 : wc.cell? ⟨w.heap.size, 6, none⟩ = some (.int .i64 N) := HK2.out.cell 6 _ rfl
  have d7 : wc.cell? ⟨w.heap.size, 7, none⟩ = some (.slice An nl nc) := HK2.out.cell 7 _ rfl
  have d8 : wc.cell? ⟨w.heap.size, 8, none⟩ = some (.slice Aa al ac) := HK2.out.cell 8 _ rfl
  cases hnb : namedB 10 N S names scope
  ·
   have HE := Lib.hid (exprF_named (n := n) (x := (⟨10, df, S, N, names⟩, args)) (sc := scope) (o := olds) HK.out HC2.out hnb)
   clear hnb
   go_wp2_with fail
   go_ret
   exact ⟨ret_i HE.out.symm, HK2.out.below⟩
  have f : Fine (n := n) (⟨10, df, S, N, names⟩, args) scope := ⟨HK.out, HC2.out, hnb⟩
  clear hnb HNB
  have OWN := Lib.hid (show Own (n := n) (⟨10, df, S, N, names⟩, args) scope olds from ⟨f, by simp, by simp⟩)
  clear f
  have HKL := HK2
  have ho0 : 0 <= olds := ho.1
  go_wp2_with fail
  go_loopg [10] al (fun g i wr => ∃ j : Nat, g = al - j /\ j <= al /\ i = .int .i64 j /\ Kept w wr #[.int .i64 10, .int .i64 dk, .int .i64 dn, .string ds, .slice dA dl dc, .string S, .int .i64 N, .slice An nl nc, .slice Aa al ac] /\ ∀ i, (hi : i < args.length) -> i < j -> argF (n := n) (⟨10, df, S, N, names⟩, args) scope olds i hi = 0)
  case atStart => exact ⟨0, by omega, by omega, rfl, HKL.out, fun i hi h => absurd h (by omega)⟩
  case round =>
   obtain ⟨j, hg, hj, rfl, hkp, hall⟩ := hrel
   have HG := Lib.hid hg
   have HALL := Lib.hid hall
   have HKR := Lib.hid hkp
   have hsz := hkp.below.size
   have hs3 := hkp.size
   clear hg hall hkp
   by_cases hlt : j < al
   ·
    obtain ⟨b, o, rfl, hbw, hr⟩ := HROW.out (by omega)
    obtain ⟨cs', hl', hrj, hex⟩ := hr j (by rw [HXA.out]; exact hlt)
    obtain ⟨q0, q1, q2, q3, q4a, q4, q4c, q5, q6, q7a, q7, q7c, q8a, q8, q8c, rfl⟩ := hex.cells
    have hx9 : True := trivial
    have r0 : wr.cell? ⟨b, o + j * 9, none⟩ = some (.int .i64 q0) := (HKR.out.below.cell (p := ⟨b, o + j * 9, none⟩) hbw).trans (by simpa using hrj 0 (by simp))
    have r1 : wr.cell? ⟨b, o + j * 9 + 1, none⟩ = some (.int .i64 q1) := (HKR.out.below.cell (p := ⟨b, o + j * 9 + 1, none⟩) hbw).trans (by simpa using hrj 1 (by simp))
    have r2 : wr.cell? ⟨b, o + j * 9 + 2, none⟩ = some (.int .i64 q2) := (HKR.out.below.cell (p := ⟨b, o + j * 9 + 2, none⟩) hbw).trans (by simpa using hrj 2 (by simp))
    have r3 : wr.cell? ⟨b, o + j * 9 + 3, none⟩ = some (.string q3) := (HKR.out.below.cell (p := ⟨b, o + j * 9 + 3, none⟩) hbw).trans (by simpa using hrj 3 (by simp))
    have r4 : wr.cell? ⟨b, o + j * 9 + 4, none⟩ = some (.slice q4a q4 q4c) := (HKR.out.below.cell (p := ⟨b, o + j * 9 + 4, none⟩) hbw).trans (by simpa using hrj 4 (by simp))
    have r5 : wr.cell? ⟨b, o + j * 9 + 5, none⟩ = some (.string q5) := (HKR.out.below.cell (p := ⟨b, o + j * 9 + 5, none⟩) hbw).trans (by simpa using hrj 5 (by simp))
    have r6 : wr.cell? ⟨b, o + j * 9 + 6, none⟩ = some (.int .i64 q6) := (HKR.out.below.cell (p := ⟨b, o + j * 9 + 6, none⟩) hbw).trans (by simpa using hrj 6 (by simp))
    have r7 : wr.cell? ⟨b, o + j * 9 + 7, none⟩ = some (.slice q7a q7 q7c) := (HKR.out.below.cell (p := ⟨b, o + j * 9 + 7, none⟩) hbw).trans (by simpa using hrj 7 (by simp))
    have r8 : wr.cell? ⟨b, o + j * 9 + 8, none⟩ = some (.slice q8a q8 q8c) := (HKR.out.below.cell (p := ⟨b, o + j * 9 + 8, none⟩) hbw).trans (by simpa using hrj 8 (by simp))
    have e0 : wr.cell? ⟨w.heap.size, 0, none⟩ = some (.int .i64 10) := HKR.out.cell 0 _ rfl
    have e1 : wr.cell? ⟨w.heap.size, 1, none⟩ = some (.int .i64 dk) := HKR.out.cell 1 _ rfl
    have e2 : wr.cell? ⟨w.heap.size, 2, none⟩ = some (.int .i64 dn) := HKR.out.cell 2 _ rfl
    have e3 : wr.cell? ⟨w.heap.size, 3, none⟩ = some (.string ds) := HKR.out.cell 3 _ rfl
    have e4 : wr.cell? ⟨w.heap.size, 4, none⟩ = some (.slice dA dl dc) := HKR.out.cell 4 _ rfl
    have e5 : wr.cell? ⟨w.heap.size, 5, none⟩ = some (.string S) := HKR.out.cell 5 _ rfl
    have e6 : wr.cell? ⟨w.heap.size, 6, none⟩ = some (.int .i64 N) := HKR.out.cell 6 _ rfl
    have e7 : wr.cell? ⟨w.heap.size, 7, none⟩ = some (.slice An nl nc) := HKR.out.cell 7 _ rfl
    have e8 : wr.cell? ⟨w.heap.size, 8, none⟩ = some (.slice (some ⟨b, o, none⟩) al ac) := HKR.out.cell 8 _ rfl
    have hjx : j < args.length := by rw [HXA.out]; exact hlt
    obtain ⟨ex, hexx⟩ : ∃ ex : Tr n, args[j] = ex := ⟨_, rfl⟩
    rw [hexx] at hex
    have HEX := Lib.hid hex
    have HXX := Lib.hid hexx
    clear hrj hex hr hl' hexx
    obtain ⟨ev, hev⟩ : ∃ ev, exprF n ex scope olds = ev := ⟨_, rfl⟩
    have hav : argF (n := n) (⟨10, df, S, N, names⟩, args) scope olds j hjx = ev := by rw [<- hev, <- HXX.out]; exact if_neg (by rw [show inB2 10 j args.length = false from by simp [inB2]]; decide)
    have HEV := Lib.hid hev
    have HAV := Lib.hid hav
    clear hev hav
    by_cases hz : ev = 0
    all_goals
     go_wp2_with fail
     refine (HIH.out _ _ _ As sl sc scope olds (HEX.out.below HKR.out.below) (HS.out.below HKR.out.below) h40 hsl hsc ho).mono ?_
     rintro e w3 ⟨rfl, hb3⟩
     rw [HEV.out]
     have HK3 := Lib.hid (HKR.out.later hb3)
     clear hb3
     go_wp2_with fail
    ·
     subst hz
     go_roundg (al - (j + 1))
     case measure => have := HG.out; omega
     case rel =>
      refine ⟨j + 1, rfl, hlt, rfl, HK3.out, fun i hi hij => ?_⟩
      by_cases hji : i = j
      ·
       subst hji; exact HAV.out
      exact HALL.out i hi (by omega)
    go_ret
    exact ⟨ret_i (by rw [exprF_at OWN.out hjx (fun i hi => HALL.out i _ hi) (by rw [HAV.out]; exact hz), HAV.out]), HK3.out.below⟩
   ·
    obtain rfl : j = al := by omega
    go_wp2_with fail
    go_ret
    exact ⟨ret_i (exprF_zero OWN.out fun i hi => HALL.out i hi (by rw [<- HXA.out]; exact hi)).symm, HKR.out.below⟩
set_option maxRecDepth 100000 in
set_option maxHeartbeats 4000000 in
theorem xf_11 {w : World} {cs : List Value} {h : ExHead} {dk dn : Int} {ds : ByteArray} {dA : Option Addr} {dl dc : Nat} {An : Option Addr} {nl nc : Nat} {Aa : Option Addr} {al ac : Nat} {As : Option Addr} {sl sc : Nat} {scope : List ByteArray} {olds : Int} {n : Nat} {args : List (Tr n)} (hx : ExC enc w cs h dk dn ds dA dl dc An nl nc Aa al ac) (hs : zt w As sl scope) (hsl : sl <= sc) (hsc : sc <= maxLen) (ho : 0 <= olds /\ olds <= 6) (hxa : args.length = al) (hk0 : h.kind = 11) (hrow : 0 < al -> ∃ b o, Aa = some ⟨b, o, none⟩ /\ b < w.heap.size /\ ∀ i, (hi : i < args.length) -> ∃ cs', cs'.length = 9 /\ RowAt w b (o + i * 9) cs' /\ ExAt enc w n cs' args[i]) (ih : XfSays enc n) (h40 : sl <= 40) : XfIs w cs As sl sc olds (exprF (n + 1) (h, args) scope olds) := by
 obtain ⟨k, df, S, N, names⟩ := h
 simp only at hk0
 subst hk0
 have hx0 := hx
 obtain ⟨rfl, hkr, hnr, hS, hdf, hns, hes, hn1, hn2, ha1, ha2⟩ := hx
 have hal : al <= 9223372036854775807 := by unfold maxLen at ha2; omega
 have hnl : nl <= 9223372036854775807 := by unfold maxLen at hn2; omega
 have hcb : countB 11 al S names = decide (al <= 6) := by first | rfl | (rw [<- hns.size]; rfl)
 have HCB := Lib.hid hcb
 have HX := Lib.hid hx0
 have HS := Lib.hid hs
 have HROW := Lib.hid hrow
 have HIH := Lib.hid ih
 have HXA := Lib.hid hxa
 clear hx0 hs hrow ih hxa hns hes hdf hkr hcb
 have HK0 := Lib.hid (Kept.start w #[.int .i64 11, .int .i64 dk, .int .i64 dn, .string ds, .slice dA dl dc, .string S, .int .i64 N, .slice An nl nc, .slice Aa al ac] 28)
 unfold XfIs
 go_enter Tryz.func15, Tryz.ntmps15
 go_upto_block 0 with fail
 go_cut [8] (fun s8 wx => s8 = .bool (countB 11 al S names) /\ Kept w wx #[.int .i64 11, .int .i64 dk, .int .i64 dn, .string ds, .slice dA dl dc, .string S, .int .i64 N, .slice An nl nc, .slice Aa al ac])
 case first => as_aux_lemma =>
  go_wp2_with fail
  go_meet
  exact ⟨congrArg Value.bool (by rw [HCB.out]; (first | rfl | exact decide_eq_decide.2 (by omega) | (symm; apply decide_eq_true; omega) | (symm; apply decide_eq_false; omega) | (rw [Bool.eq_iff_iff]; simp; omega) | (simp only [true_and]; first | exact decide_eq_decide.2 (by omega) | (symm; apply decide_eq_true; omega) | (symm; apply decide_eq_false; omega)))), HK0.out⟩
 obtain ⟨rfl, hkept⟩ := hcut
 clear HK0
 have HK1 := Lib.hid hkept
 clear hkept
 have c0 : wc.cell? ⟨w.heap.size, 0, none⟩ = some (.int .i64 11) := HK1.out.cell 0 _ rfl
 have c1 : wc.cell? ⟨w.heap.size, 1, none⟩ = some (.int .i64 dk) := HK1.out.cell 1 _ rfl
 have c2 : wc.cell? ⟨w.heap.size, 2, none⟩ = some (.int .i64 dn) := HK1.out.cell 2 _ rfl
 have c3 : wc.cell? ⟨w.heap.size, 3, none⟩ = some (.string ds) := HK1.out.cell 3 _ rfl
 have c4 : wc.cell? ⟨w.heap.size, 4, none⟩ = some (.slice dA dl dc) := HK1.out.cell 4 _ rfl
 have c5 : wc.cell? ⟨w.heap.size, 5, none⟩ = some (.string S) := HK1.out.cell 5 _ rfl
 have c6 : wc.cell? ⟨w.heap.size, 6, none⟩ = some (.int .i64 N) := HK1.out.cell 6 _ rfl
 have c7 : wc.cell? ⟨w.heap.size, 7, none⟩ = some (.slice An nl nc) := HK1.out.cell 7 _ rfl
 have c8 : wc.cell? ⟨w.heap.size, 8, none⟩ = some (.slice Aa al ac) := HK1.out.cell 8 _ rfl
 have HK := Lib.hid (show ¬ ((11 : Int) < 1 \/ 15 < (11 : Int)) from by decide)
 cases hcb : countB 11 al S names
 ·
  have hcb2 : countB 11 args.length S names = false := by rw [HXA.out]; exact hcb
  have HE := Lib.hid (exprF_count (n := n) (x := (⟨11, df, S, N, names⟩, args)) (sc := scope) (o := olds) HK.out hcb2)
  clear hcb hcb2
  go_wp2_with fail
  go_ret
  exact ⟨ret_i HE.out.symm, HK1.out.below⟩
 have hcb2 : countB 11 args.length S names = true := by rw [HXA.out]; exact hcb
 have HC2 := Lib.hid hcb2
 clear hcb hcb2 HCB
 have hnb : namedB 11 N S names scope = freeB S := rfl
 have HNB := Lib.hid hnb
 clear hnb
 go_upto_block 1 with fail
 go_cut [8] (fun s8 wx => s8 = .bool (namedB 11 N S names scope) /\ Kept w wx #[.int .i64 11, .int .i64 dk, .int .i64 dn, .string ds, .slice dA dl dc, .string S, .int .i64 N, .slice An nl nc, .slice Aa al ac])
 case first => as_aux_lemma =>
  go_wp2_with fail
  refine (freeName_any S hS _).mono ?_
  rintro e w1 ⟨rfl, hb1⟩
  have HB1 := Lib.hid hb1
  clear hb1
  go_wp2_with fail
  go_meet
  exact ⟨congrArg Value.bool HNB.out.symm, HK1.out.later HB1.out⟩
 case rest => as_aux_lemma =>
  obtain ⟨rfl, hkept⟩ := hcut
  have HK2 := Lib.hid hkept
  clear hkept HK1 c0 c1 c2 c3 c4 c5 c6 c7 c8
  have d0 : wc.cell? ⟨w.heap.size, 0, none⟩ = some (.int .i64 11) := HK2.out.cell 0 _ rfl
  have d1 : wc.cell? ⟨w.heap.size, 1, none⟩ = some (.int .i64 dk) := HK2.out.cell 1 _ rfl
  have d2 : wc.cell? ⟨w.heap.size, 2, none⟩ = some (.int .i64 dn) := HK2.out.cell 2 _ rfl
  have d3 : wc.cell? ⟨w.heap.size, 3, none⟩ = some (.string ds) := HK2.out.cell 3 _ rfl
  have d4 : wc.cell? ⟨w.heap.size, 4, none⟩ = some (.slice dA dl dc) := HK2.out.cell 4 _ rfl
  have d5 : wc.cell? ⟨w.heap.size, 5, none⟩ = some (.string S) := HK2.out.cell 5 _ rfl
  have d6 : wc.cell? ⟨w.heap.size, 6, none⟩ = some (.int .i64 N) := HK2.out.cell 6 _ rfl
  have d7 : wc.cell? ⟨w.heap.size, 7, none⟩ = some (.slice An nl nc) := HK2.out.cell 7 _ rfl
  have d8 : wc.cell? ⟨w.heap.size, 8, none⟩ = some (.slice Aa al ac) := HK2.out.cell 8 _ rfl
  cases hnb : namedB 11 N S names scope
  ·
   have HE := Lib.hid (exprF_named (n := n) (x := (⟨11, df, S, N, names⟩, args)) (sc := scope) (o := olds) HK.out HC2.out hnb)
   clear hnb
   go_wp2_with fail
   go_ret
   exact ⟨ret_i HE.out.symm, HK2.out.below⟩
  have f : Fine (n := n) (⟨11, df, S, N, names⟩, args) scope := ⟨HK.out, HC2.out, hnb⟩
  clear hnb HNB
  have ho0 : 0 <= olds := ho.1
  have HE := Lib.hid (exprF_pure (n := n) (o := olds) f ⟨ho0, by simp⟩)
  clear f
  go_wp2_with fail
  go_ret
  exact ⟨ret_i HE.out.symm, HK2.out.below⟩
end
end Go.Proofs.YtfhbdlobhjegcaaGreatDoor
