import Derived.Test.YtfhbdlobhjegcaaGreatDoorGXFA
import Derived.Test.YtfhbdlobhjegcaaGreatDoorGBase
import Derived.Deep.DeepCutAuto
import Derived.Deep.CutBlock
import Derived.Deep.LoopGhost
import Derived.BigQuiet
import Derived.Deep.RegionHeld3
namespace Go.Proofs.YtfhbdlobhjegcaaGreatDoor
open Go.RowKit Go.ChangeShapes Go.WideShapes Go.Deep Go.ChangeAt
set_option linter.unusedVariables false
section
variable {H : Type} {enc : TypeId × Value -> H}
set_option maxRecDepth 100000 in
set_option maxHeartbeats 4000000 in
theorem xf_5 {w : World} {cs : List Value} {h : ExHead} {dk dn : Int} {ds : ByteArray} {dA : Option Addr} {dl dc : Nat} {An : Option Addr} {nl nc : Nat} {Aa : Option Addr} {al ac : Nat} {As : Option Addr} {sl sc : Nat} {scope : List ByteArray} {olds : Int} {n : Nat} {args : List (Tr n)} (hx : ExC enc w cs h dk dn ds dA dl dc An nl nc Aa al ac) (hs : zt w As sl scope) (hsl : sl <= sc) (hsc : sc <= maxLen) (ho : 0 <= olds /\ olds <= 6) (hxa : args.length = al) (hk0 : h.kind = 5) (hrow : 0 < al -> ∃ b o, Aa = some ⟨b, o, none⟩ /\ b < w.heap.size /\ ∀ i, (hi : i < args.length) -> ∃ cs', cs'.length = 9 /\ RowAt w b (o + i * 9) cs' /\ ExAt enc w n cs' args[i]) (ih : XfSays enc n) (h40 : sl <= 40) : XfIs w cs As sl sc olds (exprF (n + 1) (h, args) scope olds) := by
 obtain ⟨k, df, S, N, names⟩ := h
 simp only at hk0
 subst hk0
 have hx0 := hx
 obtain ⟨rfl, hkr, hnr, hS, hdf, hns, hes, hn1, hn2, ha1, ha2⟩ := hx
 have hal : al <= 9223372036854775807 := by unfold maxLen at ha2; omega
 have hnl : nl <= 9223372036854775807 := by unfold maxLen at hn2; omega
 have hcb : countB 5 al S names = decide (al = nl + 1 /\ al <= 7) := by first | rfl | (rw [<- hns.size]; rfl)
 have HCB := Lib.hid hcb
 have HX := Lib.hid hx0
 have HS := Lib.hid hs
 have HROW := Lib.hid hrow
 have HIH := Lib.hid ih
 have HXA := Lib.hid hxa
 clear hx0 hs hrow ih hxa hns hes hdf hkr hcb
 have HK0 := Lib.hid (Kept.start w #[.int .i64 5, .int .i64 dk, .int .i64 dn, .string ds, .slice dA dl dc, .string S, .int .i64 N, .slice An nl nc, .slice Aa al ac] 28)
 unfold XfIs
 go_enter Tryz.func15, Tryz.ntmps15
 go_upto_block 0 with fail
 go_cut [8] (fun s8 wx => s8 = .bool (countB 5 al S names) /\ Kept w wx #[.int .i64 5, .int .i64 dk, .int .i64 dn, .string ds, .slice dA dl dc, .string S, .int .i64 N, .slice An nl nc, .slice Aa al ac])
 case first => as_aux_lemma =>
  by_cases h0 : nl = 9223372036854775807
  ·
   have hq : (al : Int) ≠ wrap64 ((nl : Int) + 1) := by rw [h0]; unfold wrap64; omega
   have hq2 : ((al : Int) == wrap64 ((nl : Int) + 1)) = false := beq_eq_false_iff_ne.2 hq
   have H1 := Lib.hid h0
   clear h0 hq
   go_wp2_with fail
   go_meet
   exact ⟨congrArg Value.bool (by have h9 := H1.out; rw [HCB.out]; (first | rfl | exact decide_eq_decide.2 (by omega) | (symm; apply decide_eq_true; omega) | (symm; apply decide_eq_false; omega) | (rw [Bool.eq_iff_iff]; simp; omega) | (simp only [true_and]; first | exact decide_eq_decide.2 (by omega) | (symm; apply decide_eq_true; omega) | (symm; apply decide_eq_false; omega)))), HK0.out⟩
  have hnl2 : nl < 9223372036854775807 := by omega
  by_cases h1 : al = nl + 1
  ·
   have hq : ((al : Int) == (nl : Int) + 1) = true := by rw [beq_iff_eq]; omega
   have H1 := Lib.hid h1
   clear h1
   go_wp2_with fail
   go_meet
   exact ⟨congrArg Value.bool (by have h9 := H1.out; rw [HCB.out]; (first | rfl | exact decide_eq_decide.2 (by omega) | (symm; apply decide_eq_true; omega) | (symm; apply decide_eq_false; omega) | (rw [Bool.eq_iff_iff]; simp; omega) | (simp only [true_and]; first | exact decide_eq_decide.2 (by omega) | (symm; apply decide_eq_true; omega) | (symm; apply decide_eq_false; omega)))), HK0.out⟩
  have hq : ((al : Int) == (nl : Int) + 1) = false := by rw [beq_eq_false_iff_ne]; omega
  have H1 := Lib.hid h1
  clear h1
  go_wp2_with fail
  go_meet
  exact ⟨congrArg Value.bool (by have h9 := H1.out; rw [HCB.out]; (first | rfl | exact decide_eq_decide.2 (by omega) | (symm; apply decide_eq_true; omega) | (symm; apply decide_eq_false; omega) | (rw [Bool.eq_iff_iff]; simp; omega) | (simp only [true_and]; first | exact decide_eq_decide.2 (by omega) | (symm; apply decide_eq_true; omega) | (symm; apply decide_eq_false; omega)))), HK0.out⟩
 obtain ⟨rfl, hkept⟩ := hcut
 clear HK0
 have HK1 := Lib.hid hkept
 clear hkept
 have c0 : wc.cell? ⟨w.heap.size, 0, none⟩ = some (.int .i64 5) := HK1.out.cell 0 _ rfl
 have c1 : wc.cell? ⟨w.heap.size, 1, none⟩ = some (.int .i64 dk) := HK1.out.cell 1 _ rfl
 have c2 : wc.cell? ⟨w.heap.size, 2, none⟩ = some (.int .i64 dn) := HK1.out.cell 2 _ rfl
 have c3 : wc.cell? ⟨w.heap.size, 3, none⟩ = some (.string ds) := HK1.out.cell 3 _ rfl
 have c4 : wc.cell? ⟨w.heap.size, 4, none⟩ = some (.slice dA dl dc) := HK1.out.cell 4 _ rfl
 have c5 : wc.cell? ⟨w.heap.size, 5, none⟩ = some (.string S) := HK1.out.cell 5 _ rfl
 have c6 : wc.cell? ⟨w.heap.size, 6, none⟩ = some (.int .i64 N) := HK1.out.cell 6 _ rfl
 have c7 : wc.cell? ⟨w.heap.size, 7, none⟩ = some (.slice An nl nc) := HK1.out.cell 7 _ rfl
 have c8 : wc.cell? ⟨w.heap.size, 8, none⟩ = some (.slice Aa al ac) := HK1.out.cell 8 _ rfl
 have HK := Lib.hid (show ¬ ((5 : Int) < 1 \/ 15 < (5 : Int)) from by decide)
 cases hcb : countB 5 al S names
 ·
  have hcb2 : countB 5 args.length S names = false := by rw [HXA.out]; exact hcb
  have HE := Lib.hid (exprF_count (n := n) (x := (⟨5, df, S, N, names⟩, args)) (sc := scope) (o := olds) HK.out hcb2)
  clear hcb hcb2
  go_wp2_with fail
  go_ret
  exact ⟨ret_i HE.out.symm, HK1.out.below⟩
 have hcb2 : countB 5 args.length S names = true := by rw [HXA.out]; exact hcb
 have HC2 := Lib.hid hcb2
 clear hcb hcb2 HCB
 have hnb : namedB 5 N S names scope = namesB names := rfl
 have HNB := Lib.hid hnb
 clear hnb
 go_upto_block 1 with fail
 go_cut [8] (fun s8 wx => s8 = .bool (namedB 5 N S names scope) /\ Kept w wx #[.int .i64 5, .int .i64 dk, .int .i64 dn, .string ds, .slice dA dl dc, .string S, .int .i64 N, .slice An nl nc, .slice Aa al ac])
 case first => as_aux_lemma =>
  go_wp2_with fail
  go_loopg [8, 9] nl (fun g v i wr => ∃ k : Nat, g = nl - k /\ k <= nl /\ i = .int .i64 k /\ v = .bool ((List.range k).all (nameAt names)) /\ Kept w wr #[.int .i64 5, .int .i64 dk, .int .i64 dn, .string ds, .slice dA dl dc, .string S, .int .i64 N, .slice An nl nc, .slice Aa al ac])
  case atStart => exact ⟨0, by omega, by omega, rfl, rfl, HK1.out⟩
  obtain ⟨k, hg, hk, rfl, rfl, hkp⟩ := hrel
  have HG := Lib.hid hg
  have HKR := Lib.hid hkp
  clear hg hkp HK1 c0 c1 c2 c3 c4 c5 c6 c7 c8
  have c0 : wr.cell? ⟨w.heap.size, 0, none⟩ = some (.int .i64 5) := HKR.out.cell 0 _ rfl
  have c1 : wr.cell? ⟨w.heap.size, 1, none⟩ = some (.int .i64 dk) := HKR.out.cell 1 _ rfl
  have c2 : wr.cell? ⟨w.heap.size, 2, none⟩ = some (.int .i64 dn) := HKR.out.cell 2 _ rfl
  have c3 : wr.cell? ⟨w.heap.size, 3, none⟩ = some (.string ds) := HKR.out.cell 3 _ rfl
  have c4 : wr.cell? ⟨w.heap.size, 4, none⟩ = some (.slice dA dl dc) := HKR.out.cell 4 _ rfl
  have c5 : wr.cell? ⟨w.heap.size, 5, none⟩ = some (.string S) := HKR.out.cell 5 _ rfl
  have c6 : wr.cell? ⟨w.heap.size, 6, none⟩ = some (.int .i64 N) := HKR.out.cell 6 _ rfl
  have c7 : wr.cell? ⟨w.heap.size, 7, none⟩ = some (.slice An nl nc) := HKR.out.cell 7 _ rfl
  have c8 : wr.cell? ⟨w.heap.size, 8, none⟩ = some (.slice Aa al ac) := HKR.out.cell 8 _ rfl
  by_cases hlt : k < nl
  ·
   obtain ⟨b, o, rfl, hbw, hrow1⟩ := HX.out.names.at_ (by omega)
   have hks : k < names.length := by rw [HX.out.names.size]; exact hlt
   have hc1 : wr.cell? ⟨b, o + k, none⟩ = some (.string names[k]) := (HKR.out.below.cell (p := ⟨b, o + k, none⟩) hbw).trans (hrow1 k hks)
   have hes0 : names[k].size <= maxLen := HX.out.each _ (List.getElem_mem hks)
   have HGD := Lib.hid (show names.getD k ByteArray.empty = names[k] from by simp [hks])
   have HAL := Lib.hid (show (List.range (k + 1)).all (nameAt names) = ((List.range k).all (nameAt names) && (freeB names[k] && !inL (names.take k) names[k])) from by rw [List.range_succ, List.all_append]; simp only [List.all_cons, List.all_nil, Bool.and_true]; unfold nameAt; rw [HGD.out])
   have hki : (0 : Int) <= (k : Int) := Int.natCast_nonneg _
   have hki2 : (k : Int) < (nl : Int) := by omega
   have hki3 : (k : Int) <= (nc : Int) := by omega
   clear hrow1
   cases hob : (List.range k).all (nameAt names)
   ·
    have HOB := Lib.hid hob
    clear hob
    go_wp2_with fail
    go_quiet (fail)
    go_wp2_with fail
    go_roundg (nl - (k + 1))
    case measure => have := HG.out; omega
    case rel => exact ⟨k + 1, rfl, by omega, by go_num, congrArg Value.bool (by rw [HAL.out, HOB.out]; rfl), HKR.out.drewN _⟩
   have HOB := Lib.hid hob
   clear hob
   cases hf : freeB names[k]
   all_goals
    have hF := fun w => freeName_any names[k] hes0 w
    rw [hf] at hF
    have HF := Lib.hid hF
    have hf0 := Lib.hid hf
    clear hF hf
    go_wp2_with fail
   ·
    refine zl (fun w' => Kept w w' #[.int .i64 5, .int .i64 dk, .int .i64 dn, .string ds, .slice dA dl dc, .string S, .int .i64 N, .slice (some ⟨b, o, none⟩) nl nc, .slice Aa al ac] /\ Below wr.heap.size wr w') (by kernel_rfl) (by kernel_rfl) ⟨HKR.out.later ((Below.refl _ _).drew), (Below.refl _ _).drew⟩ ?_
    go_big_quiet_want; go_big_quiet_op; go_big_quiet_on
    go_big_quiet_want; go_big_quiet_op; go_big_quiet_on
    go_big_quiet_want; refine zc (.pointer (some ⟨w.heap.size, 7, none⟩)) (fun w1 hw1 => ?_) ?_
    ·
     go_simp
    go_simp; go_big_quiet_on
    go_big_quiet_want; refine zc (.slice (some ⟨b, o, none⟩) nl nc) (fun w1 hw1 => ?_) ?_
    ·
     have y7 := hw1.1.cell 7 _ rfl
     go_simp
    go_simp; go_big_quiet_on
    go_big_quiet_want; go_big_quiet_op; go_big_quiet_on
    go_big_quiet_want; refine zc (.pointer (some ⟨b, o + k, none⟩)) (fun w1 hw1 => ?_) ?_
    ·
     go_simp
    go_simp; go_big_quiet_on
    go_big_quiet_want; refine zc (.string names[k]) (fun w1 hw1 => ?_) ?_
    ·
     have y8 : w1.cell? ⟨b, o + k, none⟩ = some (.string names[k]) := (hw1.2.cell (p := ⟨b, o + k, none⟩) (Nat.lt_of_lt_of_le hbw HKR.out.below.size)).trans hc1
     go_simp
    go_simp; go_big_quiet_on
    go_big_quiet_want; refine zm (.bool false) 36 #[.string names[k]] (fun w1 hw1 => ?_) (fun w1 hw1 => (HF.out w1).mono ?_) ?_
    ·
     go_simp
    ·
     rintro e w2 ⟨rfl, hb2⟩
     exact ⟨rfl, hw1.1.later hb2, hw1.2.trans (hb2.mono hw1.2.size)⟩
    go_simp; go_big_quiet_on
    go_big_quiet_want; refine zc (.bool false) (fun w1 hw1 => ?_) ?_
    ·
     go_simp
    go_simp; go_big_quiet_on
    go_big_quiet_want; go_big_quiet_op; go_big_quiet_on
    repeat go_big_quiet_skip
    go_big_quiet_want; refine zc (.bool false) (fun w1 hw1 => ?_) ?_
    ·
     go_simp
    go_simp; go_big_quiet_on
    go_big_quiet_want; go_big_quiet_op; go_big_quiet_on
    refine wpQuiet_nil ?_
    intro w5 hw5
    have HK5 := Lib.hid hw5.1
    clear hw5
    go_wp2_with fail
    go_roundg (nl - (k + 1))
    case measure => have := HG.out; omega
    case rel => exact ⟨k + 1, rfl, by omega, by go_num, congrArg Value.bool (by rw [HAL.out, HOB.out, hf0.out]; rfl), HK5.out⟩
   have HNT := Lib.hid (HX.out.names.take (Nat.le_of_lt hlt))
   have x7 : wr.cell? ⟨w.heap.size, 7, none⟩ = some (.slice (some ⟨b, o, none⟩) nl nc) := c7
   go_region_held3 (fun w' => w'.cell? ⟨w.heap.size, 7, none⟩ = some (.slice (some ⟨b, o, none⟩) nl nc) /\ w'.cell? ⟨b, o + k, none⟩ = some (.string names[k])) (go_keep)
    (first
      | (go_at_call 36; refine (HF.out _).mono ?_; rintro e w2 ⟨rfl, hb2⟩; have HK2 := Lib.hid ((HKR.out.later ((Below.refl _ _).drew)).later hb2); have y7 : w2.cell? ⟨w.heap.size, 7, none⟩ = some (.slice (some ⟨b, o, none⟩) nl nc) := HK2.out.cell 7 _ rfl; have y8 : w2.cell? ⟨b, o + k, none⟩ = some (.string names[k]) := (hb2.cell (p := ⟨b, o + k, none⟩) (Nat.lt_of_lt_of_le hbw HKR.out.below.size)).trans hc1; clear hb2)
      | (go_at_call 35; refine (isIn_any names[k] (some ⟨b, o, none⟩) k nc (names.take k) _ hn2 (by omega) (HNT.out.below (by first | exact HK2.out.below | exact HK2.out.below.drew | exact below_drewN HK2.out.below _))).mono ?_; rintro e w3 ⟨rfl, rfl⟩))
   go_wp2_with fail
   go_roundg (nl - (k + 1))
   case measure => have := HG.out; omega
   case rel => exact ⟨k + 1, rfl, by omega, by go_num, congrArg Value.bool (by rw [HAL.out, HOB.out, hf0.out]; rfl), by first | exact HK2.out | exact HK2.out.drewN _ | exact HK2.out.later ((Below.refl _ _).drew)⟩
  obtain rfl : k = nl := by omega
  go_wp2_with fail
  go_meet
  exact ⟨congrArg Value.bool (by rw [HNB.out]; unfold namesB; rw [HX.out.names.size]), HKR.out⟩
 case rest => as_aux_lemma =>
  obtain ⟨rfl, hkept⟩ := hcut
  have HK2 := Lib.hid hkept
  clear hkept HK1 c0 c1 c2 c3 c4 c5 c6 c7 c8
  have d0 : wc.cell? ⟨w.heap.size, 0, none⟩ = some (.int .i64 5) := HK2.out.cell 0 _ rfl
  have d1 : wc.cell? ⟨w.heap.size, 1, none⟩ = some (.int .i64 dk) := HK2.out.cell 1 _ rfl
  have d2 : wc.cell? ⟨w.heap.size, 2, none⟩ = some (.int .i64 dn) := HK2.out.cell 2 _ rfl
  have d3 : wc.cell? ⟨w.heap.size, 3, none⟩ = some (.string ds) := HK2.out.cell 3 _ rfl
  have d4 : wc.cell? ⟨w.heap.size, 4, none⟩ = some (.slice dA dl dc) := HK2.out.cell 4 _ rfl
  have d5 : wc.cell? ⟨w.heap.size, 5, none⟩ = some (.string S) := HK2.out.cell 5 _ rfl
  have d6 : wc.cell? ⟨w.heap.size, 6, none⟩ = some (.int .i64 N) := HK2.out.cell 6 _ rfl
  have d7 : wc.cell? ⟨w.heap.size, 7, none⟩ = some (.slice An nl nc) := HK2.out.cell 7 _ rfl
  have d8 : wc.cell? ⟨w.heap.size, 8, none⟩ = some (.slice Aa al ac) := HK2.out.cell 8 _ rfl
  cases hnb : namedB 5 N S names scope
  ·
   have HE := Lib.hid (exprF_named (n := n) (x := (⟨5, df, S, N, names⟩, args)) (sc := scope) (o := olds) HK.out HC2.out hnb)
   clear hnb
   go_wp2_with fail
   go_ret
   exact ⟨ret_i HE.out.symm, HK2.out.below⟩
  have f : Fine (n := n) (⟨5, df, S, N, names⟩, args) scope := ⟨HK.out, HC2.out, hnb⟩
  clear hnb HNB
  have HNL := Lib.hid (show nl <= 6 from by have h := HC2.out; rw [HXA.out] at h; rw [<- HX.out.names.size]; have h2 : al = names.length + 1 /\ al <= 7 := (by simpa [countB] using h); have h3 : names.length <= 6 := (by omega); exact h3)
  have ho0 : 0 <= olds := ho.1
  have HE := Lib.hid (exprF_pure (n := n) (o := olds) f ⟨ho0, by simp⟩)
  clear f
  go_wp2_with fail
  go_ret
  exact ⟨ret_i HE.out.symm, HK2.out.below⟩
end
/- Contract of grafteryref.exprFault (printed by gen_xfault.py). -/
section
variable {H : Type} {enc : TypeId × Value -> H}
set_option maxRecDepth 100000 in
set_option maxHeartbeats 4000000 in
theorem xf_6 {w : World} {cs : List Value} {h : ExHead} {dk dn : Int} {ds : ByteArray} {dA : Option Addr} {dl dc : Nat} {An : Option Addr} {nl nc : Nat} {Aa : Option Addr} {al ac : Nat} {As : Option Addr} {sl sc : Nat} {scope : List ByteArray} {olds : Int} {n : Nat} {args : List (Tr n)} (hx : ExC enc w cs h dk dn ds dA dl dc An nl nc Aa al ac) (hs : zt w As sl scope) (hsl : sl <= sc) (hsc : sc <= maxLen) (ho : 0 <= olds /\ olds <= 6) (hxa : args.length = al) (hk0 : h.kind = 6) (hrow : 0 < al -> ∃ b o, Aa = some ⟨b, o, none⟩ /\ b < w.heap.size /\ ∀ i, (hi : i < args.length) -> ∃ cs', cs'.length = 9 /\ RowAt w b (o + i * 9) cs' /\ ExAt enc w n cs' args[i]) (ih : XfSays enc n) (h40 : sl <= 40) : XfIs w cs As sl sc olds (exprF (n + 1) (h, args) scope olds) := by
 obtain ⟨k, df, S, N, names⟩ := h
 simp only at hk0
 subst hk0
 have hx0 := hx
 obtain ⟨rfl, hkr, hnr, hS, hdf, hns, hes, hn1, hn2, ha1, ha2⟩ := hx
 have hal : al <= 9223372036854775807 := by unfold maxLen at ha2; omega
 have hnl : nl <= 9223372036854775807 := by unfold maxLen at hn2; omega
 have hcb : countB 6 al S names = decide (al = 1 /\ nl <= 6) := by first | rfl | (rw [<- hns.size]; rfl)
 have HCB := Lib.hid hcb
 have HX := Lib.hid hx0
 have HS := Lib.hid hs
 have HROW := Lib.hid hrow
 have HIH := Lib.hid ih
 have HXA := Lib.hid hxa
 clear hx0 hs hrow ih hxa hns hes hdf hkr hcb
 have HK0 := Lib.hid (Kept.start w #[.int .i64 6, .int .i64 dk, .int .i64 dn, .string ds, .slice dA dl dc, .string S, .int .i64 N, .slice An nl nc, .slice Aa al ac] 28)
 unfold XfIs
 go_enter Tryz.func15, Tryz.ntmps15
 go_upto_block 0 with fail
 go_cut [8] (fun s8 wx => s8 = .bool (countB 6 al S names) /\ Kept w wx #[.int .i64 6, .int .i64 dk, .int .i64 dn, .string ds, .slice dA dl dc, .string S, .int .i64 N, .slice An nl nc, .slice Aa al ac])
 case first => as_aux_lemma =>
  by_cases h1 : al = 1
  ·
   have hq : ((al : Int) == 1) = true := by rw [beq_iff_eq]; omega
   have H1 := Lib.hid h1
   clear h1
   go_wp2_with fail
   go_meet
   exact ⟨congrArg Value.bool (by have h9 := H1.out; rw [HCB.out]; (first | rfl | exact decide_eq_decide.2 (by omega) | (symm; apply decide_eq_true; omega) | (symm; apply decide_eq_false; omega) | (rw [Bool.eq_iff_iff]; simp; omega) | (simp only [true_and]; first | exact decide_eq_decide.2 (by omega) | (symm; apply decide_eq_true; omega) | (symm; apply decide_eq_false; omega)))), HK0.out⟩
  have hq : ((al : Int) == 1) = false := by rw [beq_eq_false_iff_ne]; omega
  have H1 := Lib.hid h1
  clear h1
  go_wp2_with fail
  go_meet
  exact ⟨congrArg Value.bool (by have h9 := H1.out; rw [HCB.out]; (first | rfl | exact decide_eq_decide.2 (by omega) | (symm; apply decide_eq_true; omega) | (symm; apply decide_eq_false; omega) | (rw [Bool.eq_iff_iff]; simp; omega) | (simp only [true_and]; first | exact decide_eq_decide.2 (by omega) | (symm; apply decide_eq_true; omega) | (symm; apply decide_eq_false; omega)))), HK0.out⟩
 obtain ⟨rfl, hkept⟩ := hcut
 clear HK0
 have HK1 := Lib.hid hkept
 clear hkept
 have c0 : wc.cell? ⟨w.heap.size, 0, none⟩ = some (.int .i64 6) := HK1.out.cell 0 _ rfl
 have c1 : wc.cell? ⟨w.heap.size, 1, none⟩ = some (.int .i64 dk) := HK1.out.cell 1 _ rfl
 have c2 : wc.cell? ⟨w.heap.size, 2, none⟩ = some (.int .i64 dn) := HK1.out.cell 2 _ rfl
 have c3 : wc.cell? ⟨w.heap.size, 3, none⟩ = some (.string ds) := HK1.out.cell 3 _ rfl
 have c4 : wc.cell? ⟨w.heap.size, 4, none⟩ = some (.slice dA dl dc) := HK1.out.cell 4 _ rfl
 have c5 : wc.cell? ⟨w.heap.size, 5, none⟩ = some (.string S) := HK1.out.cell 5 _ rfl
 have c6 : wc.cell? ⟨w.heap.size, 6, none⟩ = some (.int .i64 N) := HK1.out.cell 6 _ rfl
 have c7 : wc.cell? ⟨w.heap.size, 7, none⟩ = some (.slice An nl nc) := HK1.out.cell 7 _ rfl
 have c8 : wc.cell? ⟨w.heap.size, 8, none⟩ = some (.slice Aa al ac) := HK1.out.cell 8 _ rfl
 have HK := Lib.hid (show ¬ ((6 : Int) < 1 \/ 15 < (6 : Int)) from by decide)
 cases hcb : countB 6 al S names
 ·
  have hcb2 : countB 6 args.length S names = false := by rw [HXA.out]; exact hcb
  have HE := Lib.hid (exprF_count (n := n) (x := (⟨6, df, S, N, names⟩, args)) (sc := scope) (o := olds) HK.out hcb2)
  clear hcb hcb2
  go_wp2_with fail
  go_ret
  exact ⟨ret_i HE.out.symm, HK1.out.below⟩
 have hcb2 : countB 6 args.length S names = true := by rw [HXA.out]; exact hcb
 have HC2 := Lib.hid hcb2
 clear hcb hcb2 HCB
 have hnb : namedB 6 N S names scope = namesB names := rfl
 have HNB := Lib.hid hnb
 clear hnb
 go_upto_block 1 with fail
 go_cut [8] (fun s8 wx => s8 = .bool (namedB 6 N S names scope) /\ Kept w wx #[.int .i64 6, .int .i64 dk, .int .i64 dn, .string ds, .slice dA dl dc, .string S, .int .i64 N, .slice An nl nc, .slice Aa al ac])
 case first => as_aux_lemma =>
  go_wp2_with fail
  go_loopg [8, 9] nl (fun g v i wr => ∃ k : Nat, g = nl - k /\ k <= nl /\ i = .int .i64 k /\ v = .bool ((List.range k).all (nameAt names)) /\ Kept w wr #[.int .i64 6, .int .i64 dk, .int .i64 dn, .string ds, .slice dA dl dc, .string S, .int .i64 N, .slice An nl nc, .slice Aa al ac])
  case atStart => exact ⟨0, by omega, by omega, rfl, rfl, HK1.out⟩
  obtain ⟨k, hg, hk, rfl, rfl, hkp⟩ := hrel
  have HG := Lib.hid hg
  have HKR := Lib.hid hkp
  clear hg hkp HK1 c0 c1 c2 c3 c4 c5 c6 c7 c8
  have c0 : wr.cell? ⟨w.heap.size, 0, none⟩ = some (.int .i64 6) := HKR.out.cell 0 _ rfl
  have c1 : wr.cell? ⟨w.heap.size, 1, none⟩ = some (.int .i64 dk) := HKR.out.cell 1 _ rfl
  have c2 : wr.cell? ⟨w.heap.size, 2, none⟩ = some (.int .i64 dn) := HKR.out.cell 2 _ rfl
  have c3 : wr.cell? ⟨w.heap.size, 3, none⟩ = some (.string ds) := HKR.out.cell 3 _ rfl
  have c4 : wr.cell? ⟨w.heap.size, 4, none⟩ = some (.slice dA dl dc) := HKR.out.cell 4 _ rfl
  have c5 : wr.cell? ⟨w.heap.size, 5, none⟩ = some (.string S) := HKR.out.cell 5 _ rfl
  have c6 : wr.cell? ⟨w.heap.size, 6, none⟩ = some (.int .i64 N) := HKR.out.cell 6 _ rfl
  have c7 : wr.cell? ⟨w.heap.size, 7, none⟩ = some (.slice An nl nc) := HKR.out.cell 7 _ rfl
  have c8 : wr.cell? ⟨w.heap.size, 8, none⟩ = some (.slice Aa al ac) := HKR.out.cell 8 _ rfl
  by_cases hlt : k < nl
  ·
   obtain ⟨b, o, rfl, hbw, hrow1⟩ := HX.out.names.at_ (by omega)
   have hks : k < names.length := by rw [HX.out.names.size]; exact hlt
   have hc1 : wr.cell? ⟨b, o + k, none⟩ = some (.string names[k]) := (HKR.out.below.cell (p := ⟨b, o + k, none⟩) hbw).trans (hrow1 k hks)
   have hes0 : names[k].size <= maxLen := HX.out.each _ (List.getElem_mem hks)
   have HGD := Lib.hid (show names.getD k ByteArray.empty = names[k] from by simp [hks])
   have HAL := Lib.hid (show (List.range (k + 1)).all (nameAt names) = ((List.range k).all (nameAt names) && (freeB names[k] && !inL (names.take k) names[k])) from by rw [List.range_succ, List.all_append]; simp only [List.all_cons, List.all_nil, Bool.and_true]; unfold nameAt; rw [HGD.out])
   have hki : (0 : Int) <= (k : Int) := Int.natCast_nonneg _
   have hki2 : (k : Int) < (nl : Int) := by omega
   have hki3 : (k : Int) <= (nc : Int) := by omega
   clear hrow1
   cases hob : (List.range k).all (nameAt names)
   ·
    have HOB := Lib.hid hob
    clear hob
    go_wp2_with fail
    go_quiet (fail)
    go_wp2_with fail
    go_roundg (nl - (k + 1))
    case measure => have := HG.out; omega
    case rel => exact ⟨k + 1, rfl, by omega, by go_num, congrArg Value.bool (by rw [HAL.out, HOB.out]; rfl), HKR.out.drewN _⟩
   have HOB := Lib.hid hob
   clear hob
   cases hf : freeB names[k]
   all_goals
    have hF := fun w => freeName_any names[k] hes0 w
    rw [hf] at hF
    have HF := Lib.hid hF
    have hf0 := Lib.hid hf
    clear hF hf
    go_wp2_with fail
   ·
    refine zl (fun w' => Kept w w' #[.int .i64 6, .int .i64 dk, .int .i64 dn, .string ds, .slice dA dl dc, .string S, .int .i64 N, .slice (some ⟨b, o, none⟩) nl nc, .slice Aa al ac] /\ Below wr.heap.size wr w') (by kernel_rfl) (by kernel_rfl) ⟨HKR.out.later ((Below.refl _ _).drew), (Below.refl _ _).drew⟩ ?_
    go_big_quiet_want; go_big_quiet_op; go_big_quiet_on
    go_big_quiet_want; go_big_quiet_op; go_big_quiet_on
    go_big_quiet_want; refine zc (.pointer (some ⟨w.heap.size, 7, none⟩)) (fun w1 hw1 => ?_) ?_
    ·
     go_simp
    go_simp; go_big_quiet_on
    go_big_quiet_want; refine zc (.slice (some ⟨b, o, none⟩) nl nc) (fun w1 hw1 => ?_) ?_
    ·
     have y7 := hw1.1.cell 7 _ rfl
     go_simp
    go_simp; go_big_quiet_on
    go_big_quiet_want; go_big_quiet_op; go_big_quiet_on
    go_big_quiet_want; refine zc (.pointer (some ⟨b, o + k, none⟩)) (fun w1 hw1 => ?_) ?_
    ·
     go_simp
    go_simp; go_big_quiet_on
    go_big_quiet_want; refine zc (.string names[k]) (fun w1 hw1 => ?_) ?_
    ·
     have y8 : w1.cell? ⟨b, o + k, none⟩ = some (.string names[k]) := (hw1.2.cell (p := ⟨b, o + k, none⟩) (Nat.lt_of_lt_of_le hbw HKR.out.below.size)).trans hc1
     go_simp
    go_simp; go_big_quiet_on
    go_big_quiet_want; refine zm (.bool false) 36 #[.string names[k]] (fun w1 hw1 => ?_) (fun w1 hw1 => (HF.out w1).mono ?_) ?_
    ·
     go_simp
    ·
     rintro e w2 ⟨rfl, hb2⟩
     exact ⟨rfl, hw1.1.later hb2, hw1.2.trans (hb2.mono hw1.2.size)⟩
    go_simp; go_big_quiet_on
    go_big_quiet_want; refine zc (.bool false) (fun w1 hw1 => ?_) ?_
    ·
     go_simp
    go_simp; go_big_quiet_on
    go_big_quiet_want; go_big_quiet_op; go_big_quiet_on
    repeat go_big_quiet_skip
    go_big_quiet_want; refine zc (.bool false) (fun w1 hw1 => ?_) ?_
    ·
     go_simp
    go_simp; go_big_quiet_on
    go_big_quiet_want; go_big_quiet_op; go_big_quiet_on
    refine wpQuiet_nil ?_
    intro w5 hw5
    have HK5 := Lib.hid hw5.1
    clear hw5
    go_wp2_with fail
    go_roundg (nl - (k + 1))
    case measure => have := HG.out; omega
    case rel => exact ⟨k + 1, rfl, by omega, by go_num, congrArg Value.bool (by rw [HAL.out, HOB.out, hf0.out]; rfl), HK5.out⟩
   have HNT := Lib.hid (HX.out.names.take (Nat.le_of_lt hlt))
   have x7 : wr.cell? ⟨w.heap.size, 7, none⟩ = some (.slice (some ⟨b, o, none⟩) nl nc) := c7
   go_region_held3 (fun w' => w'.cell? ⟨w.heap.size, 7, none⟩ = some (.slice (some ⟨b, o, none⟩) nl nc) /\ w'.cell? ⟨b, o + k, none⟩ = some (.string names[k])) (go_keep)
    (first
      | (go_at_call 36; refine (HF.out _).mono ?_; rintro e w2 ⟨rfl, hb2⟩; have HK2 := Lib.hid ((HKR.out.later ((Below.refl _ _).drew)).later hb2); have y7 : w2.cell? ⟨w.heap.size, 7, none⟩ = some (.slice (some ⟨b, o, none⟩) nl nc) := HK2.out.cell 7 _ rfl; have y8 : w2.cell? ⟨b, o + k, none⟩ = some (.string names[k]) := (hb2.cell (p := ⟨b, o + k, none⟩) (Nat.lt_of_lt_of_le hbw HKR.out.below.size)).trans hc1; clear hb2)
      | (go_at_call 35; refine (isIn_any names[k] (some ⟨b, o, none⟩) k nc (names.take k) _ hn2 (by omega) (HNT.out.below (by first | exact HK2.out.below | exact HK2.out.below.drew | exact below_drewN HK2.out.below _))).mono ?_; rintro e w3 ⟨rfl, rfl⟩))
   go_wp2_with fail
   go_roundg (nl - (k + 1))
   case measure => have := HG.out; omega
   case rel => exact ⟨k + 1, rfl, by omega, by go_num, congrArg Value.bool (by rw [HAL.out, HOB.out, hf0.out]; rfl), by first | exact HK2.out | exact HK2.out.drewN _ | exact HK2.out.later ((Below.refl _ _).drew)⟩
  obtain rfl : k = nl := by omega
  go_wp2_with fail
  go_meet
  exact ⟨congrArg Value.bool (by rw [HNB.out]; unfold namesB; rw [HX.out.names.size]), HKR.out⟩
 case rest => as_aux_lemma =>
  obtain ⟨rfl, hkept⟩ := hcut
  have HK2 := Lib.hid hkept
  clear hkept HK1 c0 c1 c2 c3 c4 c5 c6 c7 c8
  have d0 : wc.cell? ⟨w.heap.size, 0, none⟩ = some (.int .i64 6) := HK2.out.cell 0 _ rfl
  have d1 : wc.cell? ⟨w.heap.size, 1, none⟩ = some (.int .i64 dk) := HK2.out.cell 1 _ rfl
  have d2 : wc.cell? ⟨w.heap.size, 2, none⟩ = some (.int .i64 dn) := HK2.out.cell 2 _ rfl
  have d3 : wc.cell? ⟨w.heap.size, 3, none⟩ = some (.string ds) := HK2.out.cell 3 _ rfl
  have d4 : wc.cell? ⟨w.heap.size, 4, none⟩ = some (.slice dA dl dc) := HK2.out.cell 4 _ rfl
  have d5 : wc.cell? ⟨w.heap.size, 5, none⟩ = some (.string S) := HK2.out.cell 5 _ rfl
  have d6 : wc.cell? ⟨w.heap.size, 6, none⟩ = some (.int .i64 N) := HK2.out.cell 6 _ rfl
  have d7 : wc.cell? ⟨w.heap.size, 7, none⟩ = some (.slice An nl nc) := HK2.out.cell 7 _ rfl
  have d8 : wc.cell? ⟨w.heap.size, 8, none⟩ = some (.slice Aa al ac) := HK2.out.cell 8 _ rfl
  cases hnb : namedB 6 N S names scope
  ·
   have HE := Lib.hid (exprF_named (n := n) (x := (⟨6, df, S, N, names⟩, args)) (sc := scope) (o := olds) HK.out HC2.out hnb)
   clear hnb
   go_wp2_with fail
   go_ret
   exact ⟨ret_i HE.out.symm, HK2.out.below⟩
  have f : Fine (n := n) (⟨6, df, S, N, names⟩, args) scope := ⟨HK.out, HC2.out, hnb⟩
  clear hnb HNB
  have HNL := Lib.hid (show nl <= 6 from by have h := HC2.out; rw [HXA.out] at h; rw [<- HX.out.names.size]; have h2 : al = 1 /\ names.length <= 6 := (by simpa [countB] using h); exact h2.2)
  have ho0 : 0 <= olds := ho.1
  have HE := Lib.hid (exprF_pure (n := n) (o := olds) f ⟨ho0, by simp⟩)
  clear f
  go_wp2_with fail
  go_ret
  exact ⟨ret_i HE.out.symm, HK2.out.below⟩
end
end Go.Proofs.YtfhbdlobhjegcaaGreatDoor
