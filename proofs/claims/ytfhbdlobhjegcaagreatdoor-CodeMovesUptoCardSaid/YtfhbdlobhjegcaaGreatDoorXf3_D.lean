import Derived.Test.YtfhbdlobhjegcaaGreatDoorGXFA
import Derived.Deep.DeepCutAuto
import Derived.Deep.CutBlock
import Derived.Deep.LoopGhost
import Derived.BigQuiet
import Derived.Deep.RegionHeld3
namespace Go.Proofs.YtfhbdlobhjegcaaGreatDoor
open Go.RowKit Go.ChangeShapes Go.WideShapes Go.Deep Go.ChangeAt
set_option linter.unusedVariables false
section
variable {H : Type} {enc : TypeId × Value -> H}
set_option maxRecDepth 100000 in
set_option maxHeartbeats 4000000 in
theorem xf_12 {w : World} {cs : List Value} {h : ExHead} {dk dn : Int} {ds : ByteArray} {dA : Option Addr} {dl dc : Nat} {An : Option Addr} {nl nc : Nat} {Aa : Option Addr} {al ac : Nat} {As : Option Addr} {sl sc : Nat} {scope : List ByteArray} {olds : Int} {n : Nat} {args : List (Tr n)} (hx : ExC enc w cs h dk dn ds dA dl dc An nl nc Aa al ac) (hs : zt w As sl scope) (hsl : sl <= sc) (hsc : sc <= maxLen) (ho : 0 <= olds /\ olds <= 6) (hxa : args.length = al) (hk0 : h.kind = 12) (hrow : 0 < al -> ∃ b o, Aa = some ⟨b, o, none⟩ /\ b < w.heap.size /\ ∀ i, (hi : i < args.length) -> ∃ cs', cs'.length = 9 /\ RowAt w b (o + i * 9) cs' /\ ExAt enc w n cs' args[i]) (ih : XfSays enc n) (h40 : sl <= 40) : XfIs w cs As sl sc olds (exprF (n + 1) (h, args) scope olds) := by
 obtain ⟨k, df, S, N, names⟩ := h
 simp only at hk0
 subst hk0
 have hx0 := hx
 obtain ⟨rfl, hkr, hnr, hS, hdf, hns, hes, hn1, hn2, ha1, ha2⟩ := hx
 have hal : al <= 9223372036854775807 := by unfold maxLen at ha2; omega
 have hnl : nl <= 9223372036854775807 := by unfold maxLen at hn2; omega
 have hcb : countB 12 al S names = decide (al = 1) := by first | rfl | (rw [<- hns.size]; rfl)
 have HCB := Lib.hid hcb
 have HX := Lib.hid hx0
 have HS := Lib.hid hs
 have HROW := Lib.hid hrow
 have HIH := Lib.hid ih
 have HXA := Lib.hid hxa
 clear hx0 hs hrow ih hxa hns hes hdf hkr hcb
 have HK0 := Lib.hid (Kept.start w #[.int .i64 12, .int .i64 dk, .int .i64 dn, .string ds, .slice dA dl dc, .string S, .int .i64 N, .slice An nl nc, .slice Aa al ac] 28)
 unfold XfIs
 go_enter Tryz.func15, Tryz.ntmps15
 go_upto_block 0 with fail
 go_cut [8] (fun s8 wx => s8 = .bool (countB 12 al S names) /\ Kept w wx #[.int .i64 12, .int .i64 dk, .int .i64 dn, .string ds, .slice dA dl dc, .string S, .int .i64 N, .slice An nl nc, .slice Aa al ac])
 case first => as_aux_lemma =>
  go_wp2_with fail
  go_meet
  exact ⟨congrArg Value.bool (by rw [HCB.out]; (first | rfl | exact decide_eq_decide.2 (by omega) | (symm; apply decide_eq_true; omega) | (symm; apply decide_eq_false; omega) | (rw [Bool.eq_iff_iff]; simp; omega) | (simp only [true_and]; first | exact decide_eq_decide.2 (by omega) | (symm; apply decide_eq_true; omega) | (symm; apply decide_eq_false; omega)))), HK0.out⟩
 obtain ⟨rfl, hkept⟩ := hcut
 clear HK0
 have HK1 := Lib.hid hkept
 clear hkept
 have c0 : wc.cell? ⟨w.heap.size, 0, none⟩ = some (.int .i64 12) := HK1.out.cell 0 _ rfl
 have c1 : wc.cell? ⟨w.heap.size, 1, none⟩ = some (.int .i64 dk) := HK1.out.cell 1 _ rfl
 have c2 : wc.cell? ⟨w.heap.size, 2, none⟩ = some (.int .i64 dn) := HK1.out.cell 2 _ rfl
 have c3 : wc.cell? ⟨w.heap.size, 3, none⟩ = some (.string ds) := HK1.out.cell 3 _ rfl
 have c4 : wc.cell? ⟨w.heap.size, 4, none⟩ = some (.slice dA dl dc) := HK1.out.cell 4 _ rfl
 have c5 : wc.cell? ⟨w.heap.size, 5, none⟩ = some (.string S) := HK1.out.cell 5 _ rfl
 have c6 : wc.cell? ⟨w.heap.size, 6, none⟩ = some (.int .i64 N) := HK1.out.cell 6 _ rfl
 have c7 : wc.cell? ⟨w.heap.size, 7, none⟩ = some (.slice An nl nc) := HK1.out.cell 7 _ rfl
 have c8 : wc.cell? ⟨w.heap.size, 8, none⟩ = some (.slice Aa al ac) := HK1.out.cell 8 _ rfl
 have HK := Lib.hid (show ¬ ((12 : Int) < 1 \/ 15 < (12 : Int)) from by decide)
 cases hcb : countB 12 al S names
 ·
  have hcb2 : countB 12 args.length S names = false := by rw [HXA.out]; exact hcb
  have HE := Lib.hid (exprF_count (n := n) (x := (⟨12, df, S, N, names⟩, args)) (sc := scope) (o := olds) HK.out hcb2)
  clear hcb hcb2
  go_wp2_with fail
  go_ret
  exact ⟨ret_i HE.out.symm, HK1.out.below⟩
 have hcb2 : countB 12 args.length S names = true := by rw [HXA.out]; exact hcb
 have HC2 := Lib.hid hcb2
 clear hcb hcb2 HCB
 have hnb : namedB 12 N S names scope = freeB S := rfl
 have HNB := Lib.hid hnb
 clear hnb
 go_upto_block 1 with fail
 go_cut [8] (fun s8 wx => s8 = .bool (namedB 12 N S names scope) /\ Kept w wx #[.int .i64 12, .int .i64 dk, .int .i64 dn, .string ds, .slice dA dl dc, .string S, .int .i64 N, .slice An nl nc, .slice Aa al ac])
 case first => as_aux_lemma =>
  go_wp2_with fail
  refine (freeName_any S hS _).mono ?_
  rintro e w1 ⟨rfl, hb1⟩
  have HB1 := Lib.hid hb1
  clear hb1
  go_wp2_with fail
  go_meet
  exact ⟨congrArg Value.bool HNB.out.symm, HK1.out.later HB1.out⟩
 case rest => as_aux_lemma =>
  obtain ⟨rfl, hkept⟩ := hcut
  have HK2 := Lib.hid hkept
  clear hkept HK1 c0 c1 c2 c3 c4 c5 c6 c7 c8
  have d0 : wc.cell? ⟨w.heap.size, 0, none⟩ = some (.int .i64 12) := HK2.out.cell 0 _ rfl
  have d1 : wc.cell? ⟨w.heap.size, 1, none⟩ = some (.int .i64 dk) := HK2.out.cell 1 _ rfl
  have d2 : wc.cell? ⟨w.heap.size, 2, none⟩ = some (.int .i64 dn) := HK2.out.cell 2 _ rfl
  have d3 : wc.cell? ⟨w.heap.size, 3, none⟩ = some (.string ds) := HK2.out.cell 3 _ rfl
  have d4 : wc.cell? ⟨w.heap.size, 4, none⟩ = some (.slice dA dl dc) := HK2.out.cell 4 _ rfl
  have d5 : wc.cell? ⟨w.heap.size, 5, none⟩ = some (.string S) := HK2.out.cell 5 _ rfl
  have d6 : wc.cell? ⟨w.heap.size, 6, none⟩ = some (.int .i64 N) := HK2.out.cell 6 _ rfl
  have d7 : wc.cell? ⟨w.heap.size, 7, none⟩ = some (.slice An nl nc) := HK2.out.cell 7 _ rfl
  have d8 : wc.cell? ⟨w.heap.size, 8, none⟩ = some (.slice Aa al ac) := HK2.out.cell 8 _ rfl
  cases hnb : namedB 12 N S names scope
  ·
   have HE := Lib.hid (exprF_named (n := n) (x := (⟨12, df, S, N, names⟩, args)) (sc := scope) (o := olds) HK.out HC2.out hnb)
   clear hnb
   go_wp2_with fail
   go_ret
   exact ⟨ret_i HE.out.symm, HK2.out.below⟩
  have f : Fine (n := n) (⟨12, df, S, N, names⟩, args) scope := ⟨HK.out, HC2.out, hnb⟩
  clear hnb HNB
  have ho0 : 0 <= olds := ho.1
  have HE := Lib.hid (exprF_pure (n := n) (o := olds) f ⟨ho0, by simp⟩)
  clear f
  go_wp2_with fail
  go_ret
  exact ⟨ret_i HE.out.symm, HK2.out.below⟩
set_option maxRecDepth 100000 in
set_option maxHeartbeats 4000000 in
theorem xf_13 {w : World} {cs : List Value} {h : ExHead} {dk dn : Int} {ds : ByteArray} {dA : Option Addr} {dl dc : Nat} {An : Option Addr} {nl nc : Nat} {Aa : Option Addr} {al ac : Nat} {As : Option Addr} {sl sc : Nat} {scope : List ByteArray} {olds : Int} {n : Nat} {args : List (Tr n)} (hx : ExC enc w cs h dk dn ds dA dl dc An nl nc Aa al ac) (hs : zt w As sl scope) (hsl : sl <= sc) (hsc : sc <= maxLen) (ho : 0 <= olds /\ olds <= 6) (hxa : args.length = al) (hk0 : h.kind = 13) (hrow : 0 < al -> ∃ b o, Aa = some ⟨b, o, none⟩ /\ b < w.heap.size /\ ∀ i, (hi : i < args.length) -> ∃ cs', cs'.length = 9 /\ RowAt w b (o + i * 9) cs' /\ ExAt enc w n cs' args[i]) (ih : XfSays enc n) (h40 : sl <= 40) : XfIs w cs As sl sc olds (exprF (n + 1) (h, args) scope olds) := by
 obtain ⟨k, df, S, N, names⟩ := h
 simp only at hk0
 subst hk0
 have hx0 := hx
 obtain ⟨rfl, hkr, hnr, hS, hdf, hns, hes, hn1, hn2, ha1, ha2⟩ := hx
 have hal : al <= 9223372036854775807 := by unfold maxLen at ha2; omega
 have hnl : nl <= 9223372036854775807 := by unfold maxLen at hn2; omega
 have hcb : countB 13 al S names = (decide (al = 1 /\ names.length = 1) && nameB (names.getD 0 ByteArray.empty).data.toList) := by first | rfl | (rw [<- hns.size]; rfl)
 have HCB := Lib.hid hcb
 have HX := Lib.hid hx0
 have HS := Lib.hid hs
 have HROW := Lib.hid hrow
 have HIH := Lib.hid ih
 have HXA := Lib.hid hxa
 clear hx0 hs hrow ih hxa hns hes hdf hkr hcb
 have HK0 := Lib.hid (Kept.start w #[.int .i64 13, .int .i64 dk, .int .i64 dn, .string ds, .slice dA dl dc, .string S, .int .i64 N, .slice An nl nc, .slice Aa al ac] 28)
 unfold XfIs
 go_enter Tryz.func15, Tryz.ntmps15
 go_upto_block 0 with fail
 go_cut [8] (fun s8 wx => s8 = .bool (countB 13 al S names) /\ Kept w wx #[.int .i64 13, .int .i64 dk, .int .i64 dn, .string ds, .slice dA dl dc, .string S, .int .i64 N, .slice An nl nc, .slice Aa al ac])
 case first => as_aux_lemma =>
  by_cases h1 : al = 1
  ·
   have hq : ((al : Int) == 1) = true := by rw [beq_iff_eq]; omega
   have H1 := Lib.hid h1
   clear h1
   by_cases h2 : nl = 1
   ·
    have hq2 : ((nl : Int) == 1) = true := by rw [beq_iff_eq]; omega
    have hp0 : 0 < nl := by omega
    obtain ⟨b, o, rfl, hbw, hrow1⟩ := HX.out.names.at_ hp0
    have hn0 : 0 < names.length := by rw [HX.out.names.size]; omega
    have hc0 : (w.alloc (.cells #[.int .i64 13, .int .i64 dk, .int .i64 dn, .string ds, .slice dA dl dc, .string S, .int .i64 N, .slice (some ⟨b, o, none⟩) nl nc, .slice Aa al ac] 28)).cell? ⟨b, o, none⟩ = some (.string names[0]) := (HK0.out.below.cell (p := ⟨b, o, none⟩) hbw).trans (hrow1 0 hn0)
    have hes0 : names[0].size <= maxLen := HX.out.each _ (List.getElem_mem hn0)
    have HG := Lib.hid (show names.getD 0 ByteArray.empty = names[0] from by simp [hn0])
    have HL := Lib.hid (show names.length = 1 from by rw [HX.out.names.size]; exact h2)
    clear hrow1 h2
    go_wp2_with fail
    refine (nameMay_any names[0] hes0 _).mono ?_
    rintro e w1 ⟨rfl, nd, rfl⟩
    go_wp2_with fail
    go_meet
    exact ⟨congrArg Value.bool (by rw [HCB.out, HG.out, HL.out, H1.out]; simp), HK0.out.drewN _⟩
   have hq2 : ((nl : Int) == 1) = false := by rw [beq_eq_false_iff_ne]; omega
   have HL := Lib.hid (show ¬ names.length = 1 from by rw [HX.out.names.size]; exact h2)
   clear h2
   go_wp2_with fail
   go_meet
   exact ⟨congrArg Value.bool (by rw [HCB.out, decide_eq_false (fun h => HL.out h.2)]; rfl), HK0.out⟩
  ·
   have hq : ((al : Int) == 1) = false := by rw [beq_eq_false_iff_ne]; omega
   have H1 := Lib.hid h1
   clear h1
   go_wp2_with fail
   go_meet
   exact ⟨congrArg Value.bool (by rw [HCB.out, decide_eq_false (fun h => H1.out h.1)]; rfl), HK0.out⟩
 case rest =>
  obtain ⟨rfl, hkept⟩ := hcut
  clear HK0
  have HK1 := Lib.hid hkept
  clear hkept
  have c0 : wc.cell? ⟨w.heap.size, 0, none⟩ = some (.int .i64 13) := HK1.out.cell 0 _ rfl
  have c1 : wc.cell? ⟨w.heap.size, 1, none⟩ = some (.int .i64 dk) := HK1.out.cell 1 _ rfl
  have c2 : wc.cell? ⟨w.heap.size, 2, none⟩ = some (.int .i64 dn) := HK1.out.cell 2 _ rfl
  have c3 : wc.cell? ⟨w.heap.size, 3, none⟩ = some (.string ds) := HK1.out.cell 3 _ rfl
  have c4 : wc.cell? ⟨w.heap.size, 4, none⟩ = some (.slice dA dl dc) := HK1.out.cell 4 _ rfl
  have c5 : wc.cell? ⟨w.heap.size, 5, none⟩ = some (.string S) := HK1.out.cell 5 _ rfl
  have c6 : wc.cell? ⟨w.heap.size, 6, none⟩ = some (.int .i64 N) := HK1.out.cell 6 _ rfl
  have c7 : wc.cell? ⟨w.heap.size, 7, none⟩ = some (.slice An nl nc) := HK1.out.cell 7 _ rfl
  have c8 : wc.cell? ⟨w.heap.size, 8, none⟩ = some (.slice Aa al ac) := HK1.out.cell 8 _ rfl
  have HK := Lib.hid (show ¬ ((13 : Int) < 1 \/ 15 < (13 : Int)) from by decide)
  cases hcb : countB 13 al S names
  ·
   have hcb2 : countB 13 args.length S names = false := by rw [HXA.out]; exact hcb
   have HE := Lib.hid (exprF_count (n := n) (x := (⟨13, df, S, N, names⟩, args)) (sc := scope) (o := olds) HK.out hcb2)
   clear hcb hcb2
   go_wp2_with fail
   go_ret
   exact ⟨ret_i HE.out.symm, HK1.out.below⟩
  have hcb2 : countB 13 args.length S names = true := by rw [HXA.out]; exact hcb
  have HC2 := Lib.hid hcb2
  clear hcb hcb2 HCB
  have hnb : namedB 13 N S names scope = freeB S := rfl
  have HNB := Lib.hid hnb
  clear hnb
  go_upto_block 1 with fail
  go_cut [8] (fun s8 wx => s8 = .bool (namedB 13 N S names scope) /\ Kept w wx #[.int .i64 13, .int .i64 dk, .int .i64 dn, .string ds, .slice dA dl dc, .string S, .int .i64 N, .slice An nl nc, .slice Aa al ac])
  case first => as_aux_lemma =>
   go_wp2_with fail
   refine (freeName_any S hS _).mono ?_
   rintro e w1 ⟨rfl, hb1⟩
   have HB1 := Lib.hid hb1
   clear hb1
   go_wp2_with fail
   go_meet
   exact ⟨congrArg Value.bool HNB.out.symm, HK1.out.later HB1.out⟩
  case rest => as_aux_lemma =>
   obtain ⟨rfl, hkept⟩ := hcut
   have HK2 := Lib.hid hkept
   clear hkept HK1 c0 c1 c2 c3 c4 c5 c6 c7 c8
   have d0 : wc.cell? ⟨w.heap.size, 0, none⟩ = some (.int .i64 13) := HK2.out.cell 0 _ rfl
   have d1 : wc.cell? ⟨w.heap.size, 1, none⟩ = some (.int .i64 dk) := HK2.out.cell 1 _ rfl
   have d2 : wc.cell? ⟨w.heap.size, 2, none⟩ = some (.int .i64 dn) := HK2.out.cell 2 _ rfl
   have d3 : wc.cell? ⟨w.heap.size, 3, none⟩ = some (.string ds) := HK2.out.cell 3 _ rfl
   have d4 : wc.cell? ⟨w.heap.size, 4, none⟩ = some (.slice dA dl dc) := HK2.out.cell 4 _ rfl
   have d5 : wc.cell? ⟨w.heap.size, 5, none⟩ = some (.string S) := HK2.out.cell 5 _ rfl
   have d6 : wc.cell? ⟨w.heap.size, 6, none⟩ = some (.int .i64 N) := HK2.out.cell 6 _ rfl
   have d7 : wc.cell? ⟨w.heap.size, 7, none⟩ = some (.slice An nl nc) := HK2.out.cell 7 _ rfl
   have d8 : wc.cell? ⟨w.heap.size, 8, none⟩ = some (.slice Aa al ac) := HK2.out.cell 8 _ rfl
   cases hnb : namedB 13 N S names scope
   ·
    have HE := Lib.hid (exprF_named (n := n) (x := (⟨13, df, S, N, names⟩, args)) (sc := scope) (o := olds) HK.out HC2.out hnb)
    clear hnb
    go_wp2_with fail
    go_ret
    exact ⟨ret_i HE.out.symm, HK2.out.below⟩
   have f : Fine (n := n) (⟨13, df, S, N, names⟩, args) scope := ⟨HK.out, HC2.out, hnb⟩
   clear hnb HNB
   have ho0 : 0 <= olds := ho.1
   have HE := Lib.hid (exprF_pure (n := n) (o := olds) f ⟨ho0, by simp⟩)
   clear f
   go_wp2_with fail
   go_ret
   exact ⟨ret_i HE.out.symm, HK2.out.below⟩
set_option maxRecDepth 100000 in
set_option maxHeartbeats 4000000 in
theorem xf_14 {w : World} {cs : List Value} {h : ExHead} {dk dn : Int} {ds : ByteArray} {dA : Option Addr} {dl dc : Nat} {An : Option Addr} {nl nc : Nat} {Aa : Option Addr} {al ac : Nat} {As : Option Addr} {sl sc : Nat} {scope : List ByteArray} {olds : Int} {n : Nat} {args : List (Tr n)} (hx : ExC enc w cs h dk dn ds dA dl dc An nl nc Aa al ac) (hs : zt w As sl scope) (hsl : sl <= sc) (hsc : sc <= maxLen) (ho : 0 <= olds /\ olds <= 6) (hxa : args.length = al) (hk0 : h.kind = 14) (hrow : 0 < al -> ∃ b o, Aa = some ⟨b, o, none⟩ /\ b < w.heap.size /\ ∀ i, (hi : i < args.length) -> ∃ cs', cs'.length = 9 /\ RowAt w b (o + i * 9) cs' /\ ExAt enc w n cs' args[i]) (ih : XfSays enc n) (h40 : sl <= 40) : XfIs w cs As sl sc olds (exprF (n + 1) (h, args) scope olds) := by
 obtain ⟨k, df, S, N, names⟩ := h
 simp only at hk0
 subst hk0
 have hx0 := hx
 obtain ⟨rfl, hkr, hnr, hS, hdf, hns, hes, hn1, hn2, ha1, ha2⟩ := hx
 have hal : al <= 9223372036854775807 := by unfold maxLen at ha2; omega
 have hnl : nl <= 9223372036854775807 := by unfold maxLen at hn2; omega
 have hcb : countB 14 al S names = (decide (al = 2 /\ names.length = 1) && nameB (names.getD 0 ByteArray.empty).data.toList) := by first | rfl | (rw [<- hns.size]; rfl)
 have HCB := Lib.hid hcb
 have HX := Lib.hid hx0
 have HS := Lib.hid hs
 have HROW := Lib.hid hrow
 have HIH := Lib.hid ih
 have HXA := Lib.hid hxa
 clear hx0 hs hrow ih hxa hns hes hdf hkr hcb
 have HK0 := Lib.hid (Kept.start w #[.int .i64 14, .int .i64 dk, .int .i64 dn, .string ds, .slice dA dl dc, .string S, .int .i64 N, .slice An nl nc, .slice Aa al ac] 28)
 unfold XfIs
 go_enter Tryz.func15, Tryz.ntmps15
 go_upto_block 0 with fail
 go_cut [8] (fun s8 wx => s8 = .bool (countB 14 al S names) /\ Kept w wx #[.int .i64 14, .int .i64 dk, .int .i64 dn, .string ds, .slice dA dl dc, .string S, .int .i64 N, .slice An nl nc, .slice Aa al ac])
 case first => as_aux_lemma =>
  by_cases h1 : al = 2
  ·
   have hq : ((al : Int) == 2) = true := by rw [beq_iff_eq]; omega
   have H1 := Lib.hid h1
   clear h1
   by_cases h2 : nl = 1
   ·
    have hq2 : ((nl : Int) == 1) = true := by rw [beq_iff_eq]; omega
    have hp0 : 0 < nl := by omega
    obtain ⟨b, o, rfl, hbw, hrow1⟩ := HX.out.names.at_ hp0
    have hn0 : 0 < names.length := by rw [HX.out.names.size]; omega
    have hc0 : (w.alloc (.cells #[.int .i64 14, .int .i64 dk, .int .i64 dn, .string ds, .slice dA dl dc, .string S, .int .i64 N, .slice (some ⟨b, o, none⟩) nl nc, .slice Aa al ac] 28)).cell? ⟨b, o, none⟩ = some (.string names[0]) := (HK0.out.below.cell (p := ⟨b, o, none⟩) hbw).trans (hrow1 0 hn0)
    have hes0 : names[0].size <= maxLen := HX.out.each _ (List.getElem_mem hn0)
    have HG := Lib.hid (show names.getD 0 ByteArray.empty = names[0] from by simp [hn0])
    have HL := Lib.hid (show names.length = 1 from by rw [HX.out.names.size]; exact h2)
    clear hrow1 h2
    go_wp2_with fail
    refine (nameMay_any names[0] hes0 _).mono ?_
    rintro e w1 ⟨rfl, nd, rfl⟩
    go_wp2_with fail
    go_meet
    exact ⟨congrArg Value.bool (by rw [HCB.out, HG.out, HL.out, H1.out]; simp), HK0.out.drewN _⟩
   have hq2 : ((nl : Int) == 1) = false := by rw [beq_eq_false_iff_ne]; omega
   have HL := Lib.hid (show ¬ names.length = 1 from by rw [HX.out.names.size]; exact h2)
   clear h2
   go_wp2_with fail
   go_meet
   exact ⟨congrArg Value.bool (by rw [HCB.out, decide_eq_false (fun h => HL.out h.2)]; rfl), HK0.out⟩
  ·
   have hq : ((al : Int) == 2) = false := by rw [beq_eq_false_iff_ne]; omega
   have H1 := Lib.hid h1
   clear h1
   go_wp2_with fail
   go_meet
   exact ⟨congrArg Value.bool (by rw [HCB.out, decide_eq_false (fun h => H1.out h.1)]; rfl), HK0.out⟩
 case rest =>
  obtain ⟨rfl, hkept⟩ := hcut
  clear HK0
  have HK1 := Lib.hid hkept
  clear hkept
  have c0 : wc.cell? ⟨w.heap.size, 0, none⟩ = some (.int .i64 14) := HK1.out.cell 0 _ rfl
  have c1 : wc.cell? ⟨w.heap.size, 1, none⟩ = some (.int .i64 dk) := HK1.out.cell 1 _ rfl
  have c2 : wc.cell? ⟨w.heap.size, 2, none⟩ = some (.int .i64 dn) := HK1.out.cell 2 _ rfl
  have c3 : wc.cell? ⟨w.heap.size, 3, none⟩ = some (.string ds) := HK1.out.cell 3 _ rfl
  have c4 : wc.cell? ⟨w.heap.size, 4, none⟩ = some (.slice dA dl dc) := HK1.out.cell 4 _ rfl
  have c5 : wc.cell? ⟨w.heap.size, 5, none⟩ = some (.string S) := HK1.out.cell 5 _ rfl
  have c6 : wc.cell? ⟨w.heap.size, 6, none⟩ = some (.int .i64 N) := HK1.out.cell 6 _ rfl
  have c7 : wc.cell? ⟨w.heap.size, 7, none⟩ = some (.slice An nl nc) := HK1.out.cell 7 _ rfl
  have c8 : wc.cell? ⟨w.heap.size, 8, none⟩ = some (.slice Aa al ac) := HK1.out.cell 8 _ rfl
  have HK := Lib.hid (show ¬ ((14 : Int) < 1 \/ 15 < (14 : Int)) from by decide)
  cases hcb : countB 14 al S names
  ·
   have hcb2 : countB 14 args.length S names = false := by rw [HXA.out]; exact hcb
   have HE := Lib.hid (exprF_count (n := n) (x := (⟨14, df, S, N, names⟩, args)) (sc := scope) (o := olds) HK.out hcb2)
   clear hcb hcb2
   go_wp2_with fail
   go_ret
   exact ⟨ret_i HE.out.symm, HK1.out.below⟩
  have hcb2 : countB 14 args.length S names = true := by rw [HXA.out]; exact hcb
  have HC2 := Lib.hid hcb2
  clear hcb hcb2 HCB
  have hnb : namedB 14 N S names scope = freeB S := rfl
  have HNB := Lib.hid hnb
  clear hnb
  go_upto_block 1 with fail
  go_cut [8] (fun s8 wx => s8 = .bool (namedB 14 N S names scope) /\ Kept w wx #[.int .i64 14, .int .i64 dk, .int .i64 dn, .string ds, .slice dA dl dc, .string S, .int .i64 N, .slice An nl nc, .slice Aa al ac])
  case first => as_aux_lemma =>
   go_wp2_with fail
   refine (freeName_any S hS _).mono ?_
   rintro e w1 ⟨rfl, hb1⟩
   have HB1 := Lib.hid hb1
   clear hb1
   go_wp2_with fail
   go_meet
   exact ⟨congrArg Value.bool HNB.out.symm, HK1.out.later HB1.out⟩
  case rest => as_aux_lemma =>
   obtain ⟨rfl, hkept⟩ := hcut
   have HK2 := Lib.hid hkept
   clear hkept HK1 c0 c1 c2 c3 c4 c5 c6 c7 c8
   have d0 : wc.cell? ⟨w.heap.size, 0, none⟩ = some (.int .i64 14) := HK2.out.cell 0 _ rfl
   have d1 : wc.cell? ⟨w.heap.size, 1, none⟩ = some (.int .i64 dk) := HK2.out.cell 1 _ rfl
   have d2 : wc.cell? ⟨w.heap.size, 2, none⟩ = some (.int .i64 dn) := HK2.out.cell 2 _ rfl
   have d3 : wc.cell? ⟨w.heap.size, 3, none⟩ = some (.string ds) := HK2.out.cell 3 _ rfl
   have d4 : wc.cell? ⟨w.heap.size, 4, none⟩ = some (.slice dA dl dc) := HK2.out.cell 4 _ rfl
   have d5 : wc.cell? ⟨w.heap.size, 5, none⟩ = some (.string S) := HK2.out.cell 5 _ rfl
   have d6 : wc.cell? ⟨w.heap.size, 6, none⟩ = some (.int .i64 N) := HK2.out.cell 6 _ rfl
   have d7 : wc.cell? ⟨w.heap.size, 7, none⟩ = some (.slice An nl nc) := HK2.out.cell 7 _ rfl
   have d8 : wc.cell? ⟨w.heap.size, 8, none⟩ = some (.slice Aa al ac) := HK2.out.cell 8 _ rfl
   cases hnb : namedB 14 N S names scope
   ·
    have HE := Lib.hid (exprF_named (n := n) (x := (⟨14, df, S, N, names⟩, args)) (sc := scope) (o := olds) HK.out HC2.out hnb)
    clear hnb
    go_wp2_with fail
    go_ret
    exact ⟨ret_i HE.out.symm, HK2.out.below⟩
   have f : Fine (n := n) (⟨14, df, S, N, names⟩, args) scope := ⟨HK.out, HC2.out, hnb⟩
   clear hnb HNB
   have ho0 : 0 <= olds := ho.1
   have HE := Lib.hid (exprF_pure (n := n) (o := olds) f ⟨ho0, by simp⟩)
   clear f
   go_wp2_with fail
   go_ret
   exact ⟨ret_i HE.out.symm, HK2.out.below⟩
end
end Go.Proofs.YtfhbdlobhjegcaaGreatDoor
