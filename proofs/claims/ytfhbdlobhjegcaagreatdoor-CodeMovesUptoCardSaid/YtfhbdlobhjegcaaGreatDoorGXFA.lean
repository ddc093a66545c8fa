import Derived.Test.YtfhbdlobhjegcaaGreatDoorGCheck
import Derived.Deep.DeepCutAuto
import Derived.Deep.CutBlock
import Derived.Deep.LoopGhost
import Derived.BigQuiet
import Derived.Deep.RegionHeld3
namespace Go.Proofs.YtfhbdlobhjegcaaGreatDoor
open Go.RowKit Go.ChangeShapes Go.WideShapes Go.Deep Go.ChangeAt
set_option linter.unusedVariables false
structure Kept (w wx : World) (cs : Array Value) : Prop where
 below : Below w.heap.size w wx
 size : w.heap.size < wx.heap.size
 cell : ∀ (j : Nat) (v : Value), cs[j]? = some v -> wx.cell? ⟨w.heap.size, j, none⟩ = some v
theorem Kept.start (w : World) (cs : Array Value) (t : TypeId) : Kept w (w.alloc (.cells cs t)) cs :=
 ⟨(Below.refl _ _).alloc (Nat.le_refl _) _, by simp, fun j v h => by rw [za]; exact h⟩
theorem Kept.later {w wx wy : World} {cs : Array Value} (h : Kept w wx cs) (hb : Below wx.heap.size wx wy) : Kept w wy cs :=
 ⟨h.below.trans (hb.mono h.below.size), Nat.lt_of_lt_of_le h.size hb.size, fun j v hj => (hb.cell (p := ⟨w.heap.size, j, none⟩) h.size).trans (h.cell j v hj)⟩
theorem Kept.drewN {w wx : World} {cs : Array Value} (h : Kept w wx cs) (n : Nat) : Kept w (wx.drewN n) cs := h.later (below_drewN (Below.refl _ _) n)
section
variable {H : Type} {enc : TypeId × Value -> H}
def XfIs (w : World) (cs : List Value) (As : Option Addr) (sl sc : Nat) (olds v : Int) : Prop :=
 Calls Tryz.prog 15 #[.agg cs.toArray, .slice As sl sc, .int .i64 olds] w fun e w' => e = .returned (.int .i64 v) /\ Below w.heap.size w w'
def XfSays (enc : TypeId × Value -> H) (n : Nat) : Prop := ∀ (w : World) (cs : List Value) (x : Tr n) (As : Option Addr) (sl sc : Nat) (scope : List ByteArray) (olds : Int), ExAt enc w n cs x -> zt w As sl scope -> sl <= 40 -> sl <= sc -> sc <= maxLen →
 0 <= olds /\ olds <= 6 -> XfIs w cs As sl sc olds (exprF n x scope olds)
theorem primN_pos {l : List UInt8} {n : Nat} (h : primN l = n) : 0 < n := by
 rcases Nat.eq_zero_or_pos n with h0 | h0
 ·
  subst h0
  unfold primN at h
  split at h
  ·
   simp at h
  split at h <;> simp at h
 exact h0
end
/- Contract of grafteryref.exprFault (printed by gen_xfault.py). -/
section
variable {H : Type} {enc : TypeId × Value -> H}
set_option maxRecDepth 100000 in
set_option maxHeartbeats 4000000 in
theorem xf_1 {w : World} {cs : List Value} {h : ExHead} {dk dn : Int} {ds : ByteArray} {dA : Option Addr} {dl dc : Nat} {An : Option Addr} {nl nc : Nat} {Aa : Option Addr} {al ac : Nat} {As : Option Addr} {sl sc : Nat} {scope : List ByteArray} {olds : Int} {n : Nat} {args : List (Tr n)} (hx : ExC enc w cs h dk dn ds dA dl dc An nl nc Aa al ac) (hs : zt w As sl scope) (hsl : sl <= sc) (hsc : sc <= maxLen) (ho : 0 <= olds /\ olds <= 6) (hxa : args.length = al) (hk0 : h.kind = 1) (hrow : 0 < al -> ∃ b o, Aa = some ⟨b, o, none⟩ /\ b < w.heap.size /\ ∀ i, (hi : i < args.length) -> ∃ cs', cs'.length = 9 /\ RowAt w b (o + i * 9) cs' /\ ExAt enc w n cs' args[i]) (ih : XfSays enc n) (h40 : sl <= 40) : XfIs w cs As sl sc olds (exprF (n + 1) (h, args) scope olds) := by
 obtain ⟨k, df, S, N, names⟩ := h
 simp only at hk0
 subst hk0
 have hx0 := hx
 obtain ⟨rfl, hkr, hnr, hS, hdf, hns, hes, hn1, hn2, ha1, ha2⟩ := hx
 have hal : al <= 9223372036854775807 := by unfold maxLen at ha2; omega
 have hnl : nl <= 9223372036854775807 := by unfold maxLen at hn2; omega
 have hcb : countB 1 al S names = decide (al = 0) := by first | rfl | (rw [<- hns.size]; rfl)
 have HCB := Lib.hid hcb
 have HX := Lib.hid hx0
 have HS := Lib.hid hs
 have HROW := Lib.hid hrow
 have HIH := Lib.hid ih
 have HXA := Lib.hid hxa
 clear hx0 hs hrow ih hxa hns hes hdf hkr hcb
 have HK0 := Lib.hid (Kept.start w #[.int .i64 1, .int .i64 dk, .int .i64 dn, .string ds, .slice dA dl dc, .string S, .int .i64 N, .slice An nl nc, .slice Aa al ac] 28)
 unfold XfIs
 go_enter Tryz.func15, Tryz.ntmps15
 go_upto_block 0 with fail
 go_cut [8] (fun s8 wx => s8 = .bool (countB 1 al S names) /\ Kept w wx #[.int .i64 1, .int .i64 dk, .int .i64 dn, .string ds, .slice dA dl dc, .string S, .int .i64 N, .slice An nl nc, .slice Aa al ac])
 case first => as_aux_lemma =>
  go_wp2_with fail
  go_meet
  exact ⟨congrArg Value.bool (by rw [HCB.out]; (first | rfl | exact decide_eq_decide.2 (by omega) | (symm; apply decide_eq_true; omega) | (symm; apply decide_eq_false; omega) | (rw [Bool.eq_iff_iff]; simp; omega) | (simp only [true_and]; first | exact decide_eq_decide.2 (by omega) | (symm; apply decide_eq_true; omega) | (symm; apply decide_eq_false; omega)))), HK0.out⟩
 obtain ⟨rfl, hkept⟩ := hcut
 clear HK0
 have HK1 := Lib.hid hkept
 clear hkept
 have c0 : wc.cell? ⟨w.heap.size, 0, none⟩ = some (.int .i64 1) := HK1.out.cell 0 _ rfl
 have c1 : wc.cell? ⟨w.heap.size, 1, none⟩ = some (.int .i64 dk) := HK1.out.cell 1 _ rfl
 have c2 : wc.cell? ⟨w.heap.size, 2, none⟩ = some (.int .i64 dn) := HK1.out.cell 2 _ rfl
 have c3 : wc.cell? ⟨w.heap.size, 3, none⟩ = some (.string ds) := HK1.out.cell 3 _ rfl
 have c4 : wc.cell? ⟨w.heap.size, 4, none⟩ = some (.slice dA dl dc) := HK1.out.cell 4 _ rfl
 have c5 : wc.cell? ⟨w.heap.size, 5, none⟩ = some (.string S) := HK1.out.cell 5 _ rfl
 have c6 : wc.cell? ⟨w.heap.size, 6, none⟩ = some (.int .i64 N) := HK1.out.cell 6 _ rfl
 have c7 : wc.cell? ⟨w.heap.size, 7, none⟩ = some (.slice An nl nc) := HK1.out.cell 7 _ rfl
 have c8 : wc.cell? ⟨w.heap.size, 8, none⟩ = some (.slice Aa al ac) := HK1.out.cell 8 _ rfl
 have HK := Lib.hid (show ¬ ((1 : Int) < 1 \/ 15 < (1 : Int)) from by decide)
 cases hcb : countB 1 al S names
 ·
  have hcb2 : countB 1 args.length S names = false := by rw [HXA.out]; exact hcb
  have HE := Lib.hid (exprF_count (n := n) (x := (⟨1, df, S, N, names⟩, args)) (sc := scope) (o := olds) HK.out hcb2)
  clear hcb hcb2
  go_wp2_with fail
  go_ret
  exact ⟨ret_i HE.out.symm, HK1.out.below⟩
 have hcb2 : countB 1 args.length S names = true := by rw [HXA.out]; exact hcb
 have HC2 := Lib.hid hcb2
 clear hcb hcb2 HCB
 have hnb : namedB 1 N S names scope = true := rfl
 have HNB := Lib.hid hnb
 clear hnb
 go_upto_block 1 with fail
 go_cut [8] (fun s8 wx => s8 = .bool (namedB 1 N S names scope) /\ Kept w wx #[.int .i64 1, .int .i64 dk, .int .i64 dn, .string ds, .slice dA dl dc, .string S, .int .i64 N, .slice An nl nc, .slice Aa al ac])
 case first => as_aux_lemma =>
  go_wp2_with fail
  go_meet
  exact ⟨congrArg Value.bool HNB.out.symm, HK1.out⟩
 case rest => as_aux_lemma =>
  obtain ⟨rfl, hkept⟩ := hcut
  have HK2 := Lib.hid hkept
  clear hkept HK1 c0 c1 c2 c3 c4 c5 c6 c7 c8
  have d0 : wc.cell? ⟨w.heap.size, 0, none⟩ = some (.int .i64 1) := HK2.out.cell 0 _ rfl
  have d1 : wc.cell? ⟨w.heap.size, 1, none⟩ = some (.int .i64 dk) := HK2.out.cell 1 _ rfl
  have d2 : wc.cell? ⟨w.heap.size, 2, none⟩ = some (.int .i64 dn) := HK2.out.cell 2 _ rfl
  have d3 : wc.cell? ⟨w.heap.size, 3, none⟩ = some (.string ds) := HK2.out.cell 3 _ rfl
  have d4 : wc.cell? ⟨w.heap.size, 4, none⟩ = some (.slice dA dl dc) := HK2.out.cell 4 _ rfl
  have d5 : wc.cell? ⟨w.heap.size, 5, none⟩ = some (.string S) := HK2.out.cell 5 _ rfl
  have d6 : wc.cell? ⟨w.heap.size, 6, none⟩ = some (.int .i64 N) := HK2.out.cell 6 _ rfl
  have d7 : wc.cell? ⟨w.heap.size, 7, none⟩ = some (.slice An nl nc) := HK2.out.cell 7 _ rfl
  have d8 : wc.cell? ⟨w.heap.size, 8, none⟩ = some (.slice Aa al ac) := HK2.out.cell 8 _ rfl
  cases hnb : namedB 1 N S names scope
  ·
   have HE := Lib.hid (exprF_named (n := n) (x := (⟨1, df, S, N, names⟩, args)) (sc := scope) (o := olds) HK.out HC2.out hnb)
   clear hnb
   go_wp2_with fail
   go_ret
   exact ⟨ret_i HE.out.symm, HK2.out.below⟩
  have f : Fine (n := n) (⟨1, df, S, N, names⟩, args) scope := ⟨HK.out, HC2.out, hnb⟩
  clear hnb HNB
  have HZ := Lib.hid (show al = 0 from by have h := HC2.out; rw [HXA.out] at h; simpa [countB] using h)
  have hz0 : ¬ (0 < al) := by have := HZ.out; omega
  obtain ⟨dd, hrd, hdd⟩ := HX.out.df
  simp only at hdd
  have HRD := Lib.hid hrd
  have HDD := Lib.hid hdd
  clear hrd hdd
  by_cases hdf0 : df = 0
  ·
   subst hdf0
   have OWN := Lib.hid (show Own (n := n) (⟨1, 0, S, N, names⟩, args) scope olds from ⟨f, by simp, by simp⟩)
   clear f
   go_wp2_with fail
   refine (datumFault_any _ [.int .i64 dk, .int .i64 dn, .string ds, .slice dA dl dc] dd (HRD.out.below readableDatum rowDatum HK2.out.below)).mono ?_
   rintro e w3 ⟨rfl, hb3⟩
   rw [HDD.out]
   have HKL := Lib.hid (HK2.out.later hb3)
   clear hb3
   have f0 : w3.cell? ⟨w.heap.size, 0, none⟩ = some (.int .i64 1) := HKL.out.cell 0 _ rfl
   have f1 : w3.cell? ⟨w.heap.size, 1, none⟩ = some (.int .i64 dk) := HKL.out.cell 1 _ rfl
   have f2 : w3.cell? ⟨w.heap.size, 2, none⟩ = some (.int .i64 dn) := HKL.out.cell 2 _ rfl
   have f3 : w3.cell? ⟨w.heap.size, 3, none⟩ = some (.string ds) := HKL.out.cell 3 _ rfl
   have f4 : w3.cell? ⟨w.heap.size, 4, none⟩ = some (.slice dA dl dc) := HKL.out.cell 4 _ rfl
   have f5 : w3.cell? ⟨w.heap.size, 5, none⟩ = some (.string S) := HKL.out.cell 5 _ rfl
   have f6 : w3.cell? ⟨w.heap.size, 6, none⟩ = some (.int .i64 N) := HKL.out.cell 6 _ rfl
   have f7 : w3.cell? ⟨w.heap.size, 7, none⟩ = some (.slice An nl nc) := HKL.out.cell 7 _ rfl
   have f8 : w3.cell? ⟨w.heap.size, 8, none⟩ = some (.slice Aa al ac) := HKL.out.cell 8 _ rfl
   have ho0 : 0 <= olds := ho.1
   go_wp2_with fail
   go_loopg [10] 1 (fun g i wr => i = .int .i64 0 /\ Kept w wr #[.int .i64 1, .int .i64 dk, .int .i64 dn, .string ds, .slice dA dl dc, .string S, .int .i64 N, .slice An nl nc, .slice Aa al ac])
   case atStart => exact ⟨rfl, HKL.out⟩
   obtain ⟨rfl, hkp⟩ := hrel
   have HKR := Lib.hid hkp
   clear hkp
   go_wp2_with fail
   go_ret
   exact ⟨ret_i (exprF_zero OWN.out fun i hi => absurd hi (by have h1 := HXA.out; have h2 := HZ.out; have hi' : i < args.length := hi; omega)).symm, HKR.out.below⟩
  ·
   have HE := Lib.hid (exprF_form (n := n) (o := olds) f (Or.inl ⟨rfl, hdf0⟩))
   clear f
   go_wp2_with fail
   refine (datumFault_any _ [.int .i64 dk, .int .i64 dn, .string ds, .slice dA dl dc] dd (HRD.out.below readableDatum rowDatum HK2.out.below)).mono ?_
   rintro e w3 ⟨rfl, hb3⟩
   rw [HDD.out]
   have HKL := Lib.hid (HK2.out.later hb3)
   clear hb3
   have f0 : w3.cell? ⟨w.heap.size, 0, none⟩ = some (.int .i64 1) := HKL.out.cell 0 _ rfl
   have f1 : w3.cell? ⟨w.heap.size, 1, none⟩ = some (.int .i64 dk) := HKL.out.cell 1 _ rfl
   have f2 : w3.cell? ⟨w.heap.size, 2, none⟩ = some (.int .i64 dn) := HKL.out.cell 2 _ rfl
   have f3 : w3.cell? ⟨w.heap.size, 3, none⟩ = some (.string ds) := HKL.out.cell 3 _ rfl
   have f4 : w3.cell? ⟨w.heap.size, 4, none⟩ = some (.slice dA dl dc) := HKL.out.cell 4 _ rfl
   have f5 : w3.cell? ⟨w.heap.size, 5, none⟩ = some (.string S) := HKL.out.cell 5 _ rfl
   have f6 : w3.cell? ⟨w.heap.size, 6, none⟩ = some (.int .i64 N) := HKL.out.cell 6 _ rfl
   have f7 : w3.cell? ⟨w.heap.size, 7, none⟩ = some (.slice An nl nc) := HKL.out.cell 7 _ rfl
   have f8 : w3.cell? ⟨w.heap.size, 8, none⟩ = some (.slice Aa al ac) := HKL.out.cell 8 _ rfl
   go_wp2_with fail
   go_ret
   exact ⟨ret_i HE.out.symm, HKL.out.below⟩
set_option maxRecDepth 100000 in
set_option maxHeartbeats 4000000 in
theorem xf_15 {w : World} {cs : List Value} {h : ExHead} {dk dn : Int} {ds : ByteArray} {dA : Option Addr} {dl dc : Nat} {An : Option Addr} {nl nc : Nat} {Aa : Option Addr} {al ac : Nat} {As : Option Addr} {sl sc : Nat} {scope : List ByteArray} {olds : Int} {n : Nat} {args : List (Tr n)} (hx : ExC enc w cs h dk dn ds dA dl dc An nl nc Aa al ac) (hs : zt w As sl scope) (hsl : sl <= sc) (hsc : sc <= maxLen) (ho : 0 <= olds /\ olds <= 6) (hxa : args.length = al) (hk0 : h.kind = 15) (hrow : 0 < al -> ∃ b o, Aa = some ⟨b, o, none⟩ /\ b < w.heap.size /\ ∀ i, (hi : i < args.length) -> ∃ cs', cs'.length = 9 /\ RowAt w b (o + i * 9) cs' /\ ExAt enc w n cs' args[i]) (ih : XfSays enc n) (h40 : sl <= 40) : XfIs w cs As sl sc olds (exprF (n + 1) (h, args) scope olds) := by
 obtain ⟨k, df, S, N, names⟩ := h
 simp only at hk0
 subst hk0
 have hx0 := hx
 obtain ⟨rfl, hkr, hnr, hS, hdf, hns, hes, hn1, hn2, ha1, ha2⟩ := hx
 have hal : al <= 9223372036854775807 := by unfold maxLen at ha2; omega
 have hnl : nl <= 9223372036854775807 := by unfold maxLen at hn2; omega
 have hcb : countB 15 al S names = decide (al = 0) := by first | rfl | (rw [<- hns.size]; rfl)
 have HCB := Lib.hid hcb
 have HX := Lib.hid hx0
 have HS := Lib.hid hs
 have HROW := Lib.hid hrow
 have HIH := Lib.hid ih
 have HXA := Lib.hid hxa
 clear hx0 hs hrow ih hxa hns hes hdf hkr hcb
 have HK0 := Lib.hid (Kept.start w #[.int .i64 15, .int .i64 dk, .int .i64 dn, .string ds, .slice dA dl dc, .string S, .int .i64 N, .slice An nl nc, .slice Aa al ac] 28)
 unfold XfIs
 go_enter Tryz.func15, Tryz.ntmps15
 go_upto_block 0 with fail
 go_cut [8] (fun s8 wx => s8 = .bool (countB 15 al S names) /\ Kept w wx #[.int .i64 15, .int .i64 dk, .int .i64 dn, .string ds, .slice dA dl dc, .string S, .int .i64 N, .slice An nl nc, .slice Aa al ac])
 case first => as_aux_lemma =>
  go_wp2_with fail
  go_meet
  exact ⟨congrArg Value.bool (by rw [HCB.out]; (first | rfl | exact decide_eq_decide.2 (by omega) | (symm; apply decide_eq_true; omega) | (symm; apply decide_eq_false; omega) | (rw [Bool.eq_iff_iff]; simp; omega) | (simp only [true_and]; first | exact decide_eq_decide.2 (by omega) | (symm; apply decide_eq_true; omega) | (symm; apply decide_eq_false; omega)))), HK0.out⟩
 obtain ⟨rfl, hkept⟩ := hcut
 clear HK0
 have HK1 := Lib.hid hkept
 clear hkept
 have c0 : wc.cell? ⟨w.heap.size, 0, none⟩ = some (.int .i64 15) := HK1.out.cell 0 _ rfl
 have c1 : wc.cell? ⟨w.heap.size, 1, none⟩ = some (.int .i64 dk) := HK1.out.cell 1 _ rfl
 have c2 : wc.cell? ⟨w.heap.size, 2, none⟩ = some (.int .i64 dn) := HK1.out.cell 2 _ rfl
 have c3 : wc.cell? ⟨w.heap.size, 3, none⟩ = some (.string ds) := HK1.out.cell 3 _ rfl
 have c4 : wc.cell? ⟨w.heap.size, 4, none⟩ = some (.slice dA dl dc) := HK1.out.cell 4 _ rfl
 have c5 : wc.cell? ⟨w.heap.size, 5, none⟩ = some (.string S) := HK1.out.cell 5 _ rfl
 have c6 : wc.cell? ⟨w.heap.size, 6, none⟩ = some (.int .i64 N) := HK1.out.cell 6 _ rfl
 have c7 : wc.cell? ⟨w.heap.size, 7, none⟩ = some (.slice An nl nc) := HK1.out.cell 7 _ rfl
 have c8 : wc.cell? ⟨w.heap.size, 8, none⟩ = some (.slice Aa al ac) := HK1.out.cell 8 _ rfl
 have HK := Lib.hid (show ¬ ((15 : Int) < 1 \/ 15 < (15 : Int)) from by decide)
 cases hcb : countB 15 al S names
 ·
  have hcb2 : countB 15 args.length S names = false := by rw [HXA.out]; exact hcb
  have HE := Lib.hid (exprF_count (n := n) (x := (⟨15, df, S, N, names⟩, args)) (sc := scope) (o := olds) HK.out hcb2)
  clear hcb hcb2
  go_wp2_with fail
  go_ret
  exact ⟨ret_i HE.out.symm, HK1.out.below⟩
 have hcb2 : countB 15 args.length S names = true := by rw [HXA.out]; exact hcb
 have HC2 := Lib.hid hcb2
 clear hcb hcb2 HCB
 have hnb : namedB 15 N S names scope = true := rfl
 have HNB := Lib.hid hnb
 clear hnb
 go_upto_block 1 with fail
 go_cut [8] (fun s8 wx => s8 = .bool (namedB 15 N S names scope) /\ Kept w wx #[.int .i64 15, .int .i64 dk, .int .i64 dn, .string ds, .slice dA dl dc, .string S, .int .i64 N, .slice An nl nc, .slice Aa al ac])
 case first => as_aux_lemma =>
  go_wp2_with fail
  go_meet
  exact ⟨congrArg Value.bool HNB.out.symm, HK1.out⟩
 case rest => as_aux_lemma =>
  obtain ⟨rfl, hkept⟩ := hcut
  have HK2 := Lib.hid hkept
  clear hkept HK1 c0 c1 c2 c3 c4 c5 c6 c7 c8
  have d0 : wc.cell? ⟨w.heap.size, 0, none⟩ = some (.int .i64 15) := HK2.out.cell 0 _ rfl
  have d1 : wc.cell? ⟨w.heap.size, 1, none⟩ = some (.int .i64 dk) := HK2.out.cell 1 _ rfl
  have d2 : wc.cell? ⟨w.heap.size, 2, none⟩ = some (.int .i64 dn) := HK2.out.cell 2 _ rfl
  have d3 : wc.cell? ⟨w.heap.size, 3, none⟩ = some (.string ds) := HK2.out.cell 3 _ rfl
  have d4 : wc.cell? ⟨w.heap.size, 4, none⟩ = some (.slice dA dl dc) := HK2.out.cell 4 _ rfl
  have d5 : wc.cell? ⟨w.heap.size, 5, none⟩ = some (.string S) := HK2.out.cell 5 _ rfl
  have d6 : wc.cell? ⟨w.heap.size, 6, none⟩ = some (.int .i64 N) := HK2.out.cell 6 _ rfl
  have d7 : wc.cell? ⟨w.heap.size, 7, none⟩ = some (.slice An nl nc) := HK2.out.cell 7 _ rfl
  have d8 : wc.cell? ⟨w.heap.size, 8, none⟩ = some (.slice Aa al ac) := HK2.out.cell 8 _ rfl
  cases hnb : namedB 15 N S names scope
  ·
   have HE := Lib.hid (exprF_named (n := n) (x := (⟨15, df, S, N, names⟩, args)) (sc := scope) (o := olds) HK.out HC2.out hnb)
   clear hnb
   go_wp2_with fail
   go_ret
   exact ⟨ret_i HE.out.symm, HK2.out.below⟩
  have f : Fine (n := n) (⟨15, df, S, N, names⟩, args) scope := ⟨HK.out, HC2.out, hnb⟩
  clear hnb HNB
  have HZ := Lib.hid (show al = 0 from by have h := HC2.out; rw [HXA.out] at h; simpa [countB] using h)
  have hz0 : ¬ (0 < al) := by have := HZ.out; omega
  by_cases hN : 0 <= N /\ N <= olds - 1
  ·
   have hib : inB N 0 (olds - 1) = true := inB_yes hN
   have hin := in_any N 0 (olds - 1)
   rw [hib] at hin
   have HINA := Lib.hid hin
   have OWN := Lib.hid (show Own (n := n) (⟨15, df, S, N, names⟩, args) scope olds from ⟨f, by simp; omega, by simp⟩)
   have ho0 : 0 <= olds := by omega
   clear f hib hin hN
   go_wp2_with fail
   refine (HINA.out _).mono ?_
   rintro e w3 ⟨rfl, rfl⟩
   go_wp2_with fail
   have HKL := HK2
   go_loopg [10] 1 (fun g i wr => i = .int .i64 0 /\ Kept w wr #[.int .i64 15, .int .i64 dk, .int .i64 dn, .string ds, .slice dA dl dc, .string S, .int .i64 N, .slice An nl nc, .slice Aa al ac])
   case atStart => exact ⟨rfl, HKL.out⟩
   obtain ⟨rfl, hkp⟩ := hrel
   have HKR := Lib.hid hkp
   clear hkp
   go_wp2_with fail
   go_ret
   exact ⟨ret_i (exprF_zero OWN.out fun i hi => absurd hi (by have h1 := HXA.out; have h2 := HZ.out; have hi' : i < args.length := hi; omega)).symm, HKR.out.below⟩
  ·
   have hib : inB N 0 (olds - 1) = false := inB_no (by omega)
   have hin := in_any N 0 (olds - 1)
   rw [hib] at hin
   have HINA := Lib.hid hin
   have HE := Lib.hid (exprF_form (n := n) (o := olds) f (Or.inr ⟨rfl, by simp only; omega⟩))
   clear f hib hin hN
   go_wp2_with fail
   refine (HINA.out _).mono ?_
   rintro e w3 ⟨rfl, rfl⟩
   go_wp2_with fail
   go_ret
   exact ⟨ret_i HE.out.symm, HK2.out.below⟩
set_option maxRecDepth 100000 in
set_option maxHeartbeats 4000000 in
theorem xf_2 {w : World} {cs : List Value} {h : ExHead} {dk dn : Int} {ds : ByteArray} {dA : Option Addr} {dl dc : Nat} {An : Option Addr} {nl nc : Nat} {Aa : Option Addr} {al ac : Nat} {As : Option Addr} {sl sc : Nat} {scope : List ByteArray} {olds : Int} {n : Nat} {args : List (Tr n)} (hx : ExC enc w cs h dk dn ds dA dl dc An nl nc Aa al ac) (hs : zt w As sl scope) (hsl : sl <= sc) (hsc : sc <= maxLen) (ho : 0 <= olds /\ olds <= 6) (hxa : args.length = al) (hk0 : h.kind = 2) (hrow : 0 < al -> ∃ b o, Aa = some ⟨b, o, none⟩ /\ b < w.heap.size /\ ∀ i, (hi : i < args.length) -> ∃ cs', cs'.length = 9 /\ RowAt w b (o + i * 9) cs' /\ ExAt enc w n cs' args[i]) (ih : XfSays enc n) (h40 : sl <= 40) : XfIs w cs As sl sc olds (exprF (n + 1) (h, args) scope olds) := by
 obtain ⟨k, df, S, N, names⟩ := h
 simp only at hk0
 subst hk0
 have hx0 := hx
 obtain ⟨rfl, hkr, hnr, hS, hdf, hns, hes, hn1, hn2, ha1, ha2⟩ := hx
 have hal : al <= 9223372036854775807 := by unfold maxLen at ha2; omega
 have hnl : nl <= 9223372036854775807 := by unfold maxLen at hn2; omega
 have hcb : countB 2 al S names = decide (al = 0) := by first | rfl | (rw [<- hns.size]; rfl)
 have HCB := Lib.hid hcb
 have HX := Lib.hid hx0
 have HS := Lib.hid hs
 have HROW := Lib.hid hrow
 have HIH := Lib.hid ih
 have HXA := Lib.hid hxa
 clear hx0 hs hrow ih hxa hns hes hdf hkr hcb
 have HK0 := Lib.hid (Kept.start w #[.int .i64 2, .int .i64 dk, .int .i64 dn, .string ds, .slice dA dl dc, .string S, .int .i64 N, .slice An nl nc, .slice Aa al ac] 28)
 unfold XfIs
 go_enter Tryz.func15, Tryz.ntmps15
 go_upto_block 0 with fail
 go_cut [8] (fun s8 wx => s8 = .bool (countB 2 al S names) /\ Kept w wx #[.int .i64 2, .int .i64 dk, .int .i64 dn, .string ds, .slice dA dl dc, .string S, .int .i64 N, .slice An nl nc, .slice Aa al ac])
 case first => as_aux_lemma =>
  go_wp2_with fail
  go_meet
  exact ⟨congrArg Value.bool (by rw [HCB.out]; (first | rfl | exact decide_eq_decide.2 (by omega) | (symm; apply decide_eq_true; omega) | (symm; apply decide_eq_false; omega) | (rw [Bool.eq_iff_iff]; simp; omega) | (simp only [true_and]; first | exact decide_eq_decide.2 (by omega) | (symm; apply decide_eq_true; omega) | (symm; apply decide_eq_false; omega)))), HK0.out⟩
 obtain ⟨rfl, hkept⟩ := hcut
 clear HK0
 have HK1 := Lib.hid hkept
 clear hkept
 have c0 : wc.cell? ⟨w.heap.size, 0, none⟩ = some (.int .i64 2) := HK1.out.cell 0 _ rfl
 have c1 : wc.cell? ⟨w.heap.size, 1, none⟩ = some (.int .i64 dk) := HK1.out.cell 1 _ rfl
 have c2 : wc.cell? ⟨w.heap.size, 2, none⟩ = some (.int .i64 dn) := HK1.out.cell 2 _ rfl
 have c3 : wc.cell? ⟨w.heap.size, 3, none⟩ = some (.string ds) := HK1.out.cell 3 _ rfl
 have c4 : wc.cell? ⟨w.heap.size, 4, none⟩ = some (.slice dA dl dc) := HK1.out.cell 4 _ rfl
 have c5 : wc.cell? ⟨w.heap.size, 5, none⟩ = some (.string S) := HK1.out.cell 5 _ rfl
 have c6 : wc.cell? ⟨w.heap.size, 6, none⟩ = some (.int .i64 N) := HK1.out.cell 6 _ rfl
 have c7 : wc.cell? ⟨w.heap.size, 7, none⟩ = some (.slice An nl nc) := HK1.out.cell 7 _ rfl
 have c8 : wc.cell? ⟨w.heap.size, 8, none⟩ = some (.slice Aa al ac) := HK1.out.cell 8 _ rfl
 have HK := Lib.hid (show ¬ ((2 : Int) < 1 \/ 15 < (2 : Int)) from by decide)
 cases hcb : countB 2 al S names
 ·
  have hcb2 : countB 2 args.length S names = false := by rw [HXA.out]; exact hcb
  have HE := Lib.hid (exprF_count (n := n) (x := (⟨2, df, S, N, names⟩, args)) (sc := scope) (o := olds) HK.out hcb2)
  clear hcb hcb2
  go_wp2_with fail
  go_ret
  exact ⟨ret_i HE.out.symm, HK1.out.below⟩
 have hcb2 : countB 2 args.length S names = true := by rw [HXA.out]; exact hcb
 have HC2 := Lib.hid hcb2
 clear hcb hcb2 HCB
 have hnb : namedB 2 N S names scope = inL scope S := rfl
 have HNB := Lib.hid hnb
 clear hnb
 go_upto_block 1 with fail
 go_cut [8] (fun s8 wx => s8 = .bool (namedB 2 N S names scope) /\ Kept w wx #[.int .i64 2, .int .i64 dk, .int .i64 dn, .string ds, .slice dA dl dc, .string S, .int .i64 N, .slice An nl nc, .slice Aa al ac])
 case first => as_aux_lemma =>
  go_wp2_with fail
  refine (isIn_any S As sl sc scope _ hsc hsl (HS.out.below HK1.out.below)).mono ?_
  rintro e w1 ⟨rfl, rfl⟩
  go_wp2_with fail
  go_meet
  exact ⟨congrArg Value.bool HNB.out.symm, HK1.out⟩
 case rest => as_aux_lemma =>
  obtain ⟨rfl, hkept⟩ := hcut
  have HK2 := Lib.hid hkept
  clear hkept HK1 c0 c1 c2 c3 c4 c5 c6 c7 c8
  have d0 : wc.cell? ⟨w.heap.size, 0, none⟩ = some (.int .i64 2) := HK2.out.cell 0 _ rfl
  have d1 : wc.cell? ⟨w.heap.size, 1, none⟩ = some (.int .i64 dk) := HK2.out.cell 1 _ rfl
  have d2 : wc.cell? ⟨w.heap.size, 2, none⟩ = some (.int .i64 dn) := HK2.out.cell 2 _ rfl
  have d3 : wc.cell? ⟨w.heap.size, 3, none⟩ = some (.string ds) := HK2.out.cell 3 _ rfl
  have d4 : wc.cell? ⟨w.heap.size, 4, none⟩ = some (.slice dA dl dc) := HK2.out.cell 4 _ rfl
  have d5 : wc.cell? ⟨w.heap.size, 5, none⟩ = some (.string S) := HK2.out.cell 5 _ rfl
  have d6 : wc.cell? ⟨w.heap.size, 6, none⟩ = some (.int .i64 N) := HK2.out.cell 6 _ rfl
  have d7 : wc.cell? ⟨w.heap.size, 7, none⟩ = some (.slice An nl nc) := HK2.out.cell 7 _ rfl
  have d8 : wc.cell? ⟨w.heap.size, 8, none⟩ = some (.slice Aa al ac) := HK2.out.cell 8 _ rfl
  cases hnb : namedB 2 N S names scope
  ·
   have HE := Lib.hid (exprF_named (n := n) (x := (⟨2, df, S, N, names⟩, args)) (sc := scope) (o := olds) HK.out HC2.out hnb)
   clear hnb
   go_wp2_with fail
   go_ret
   exact ⟨ret_i HE.out.symm, HK2.out.below⟩
  have f : Fine (n := n) (⟨2, df, S, N, names⟩, args) scope := ⟨HK.out, HC2.out, hnb⟩
  clear hnb HNB
  have HZ := Lib.hid (show al = 0 from by have h := HC2.out; rw [HXA.out] at h; simpa [countB] using h)
  have hz0 : ¬ (0 < al) := by have := HZ.out; omega
  have ho0 : 0 <= olds := ho.1
  have HE := Lib.hid (exprF_pure (n := n) (o := olds) f ⟨ho0, by simp⟩)
  clear f
  go_wp2_with fail
  go_ret
  exact ⟨ret_i HE.out.symm, HK2.out.below⟩
set_option maxRecDepth 100000 in
set_option maxHeartbeats 4000000 in
theorem xf_3 {w : World} {cs : List Value} {h : ExHead} {dk dn : Int} {ds : ByteArray} {dA : Option Addr} {dl dc : Nat} {An : Option Addr} {nl nc : Nat} {Aa : Option Addr} {al ac : Nat} {As : Option Addr} {sl sc : Nat} {scope : List ByteArray} {olds : Int} {n : Nat} {args : List (Tr n)} (hx : ExC enc w cs h dk dn ds dA dl dc An nl nc Aa al ac) (hs : zt w As sl scope) (hsl : sl <= sc) (hsc : sc <= maxLen) (ho : 0 <= olds /\ olds <= 6) (hxa : args.length = al) (hk0 : h.kind = 3) (hrow : 0 < al -> ∃ b o, Aa = some ⟨b, o, none⟩ /\ b < w.heap.size /\ ∀ i, (hi : i < args.length) -> ∃ cs', cs'.length = 9 /\ RowAt w b (o + i * 9) cs' /\ ExAt enc w n cs' args[i]) (ih : XfSays enc n) (h40 : sl <= 40) : XfIs w cs As sl sc olds (exprF (n + 1) (h, args) scope olds) := by
 obtain ⟨k, df, S, N, names⟩ := h
 simp only at hk0
 subst hk0
 have hx0 := hx
 obtain ⟨rfl, hkr, hnr, hS, hdf, hns, hes, hn1, hn2, ha1, ha2⟩ := hx
 have hal : al <= 9223372036854775807 := by unfold maxLen at ha2; omega
 have hnl : nl <= 9223372036854775807 := by unfold maxLen at hn2; omega
 have hcb : countB 3 al S names = decide (al = 0) := by first | rfl | (rw [<- hns.size]; rfl)
 have HCB := Lib.hid hcb
 have HX := Lib.hid hx0
 have HS := Lib.hid hs
 have HROW := Lib.hid hrow
 have HIH := Lib.hid ih
 have HXA := Lib.hid hxa
 clear hx0 hs hrow ih hxa hns hes hdf hkr hcb
 have HK0 := Lib.hid (Kept.start w #[.int .i64 3, .int .i64 dk, .int .i64 dn, .string ds, .slice dA dl dc, .string S, .int .i64 N, .slice An nl nc, .slice Aa al ac] 28)
 unfold XfIs
 go_enter Tryz.func15, Tryz.ntmps15
 go_upto_block 0 with fail
 go_cut [8] (fun s8 wx => s8 = .bool (countB 3 al S names) /\ Kept w wx #[.int .i64 3, .int .i64 dk, .int .i64 dn, .string ds, .slice dA dl dc, .string S, .int .i64 N, .slice An nl nc, .slice Aa al ac])
 case first => as_aux_lemma =>
  go_wp2_with fail
  go_meet
  exact ⟨congrArg Value.bool (by rw [HCB.out]; (first | rfl | exact decide_eq_decide.2 (by omega) | (symm; apply decide_eq_true; omega) | (symm; apply decide_eq_false; omega) | (rw [Bool.eq_iff_iff]; simp; omega) | (simp only [true_and]; first | exact decide_eq_decide.2 (by omega) | (symm; apply decide_eq_true; omega) | (symm; apply decide_eq_false; omega)))), HK0.out⟩
 obtain ⟨rfl, hkept⟩ := hcut
 clear HK0
 have HK1 := Lib.hid hkept
 clear hkept
 have c0 : wc.cell? ⟨w.heap.size, 0, none⟩ = some (.int .i64 3) := HK1.out.cell 0 _ rfl
 have c1 : wc.cell? ⟨w.heap.size, 1, none⟩ = some (.int .i64 dk) := HK1.out.cell 1 _ rfl
 have c2 : wc.cell? ⟨w.heap.size, 2, none⟩ = some (.int .i64 dn) := HK1.out.cell 2 _ rfl
 have c3 : wc.cell? ⟨w.heap.size, 3, none⟩ = some (.string ds) := HK1.out.cell 3 _ rfl
 have c4 : wc.cell? ⟨w.heap.size, 4, none⟩ = some (.slice dA dl dc) := HK1.out.cell 4 _ rfl
 have c5 : wc.cell? ⟨w.heap.size, 5, none⟩ = some (.string S) := HK1.out.cell 5 _ rfl
 have c6 : wc.cell? ⟨w.heap.size, 6, none⟩ = some (.int .i64 N) := HK1.out.cell 6 _ rfl
 have c7 : wc.cell? ⟨w.heap.size, 7, none⟩ = some (.slice An nl nc) := HK1.out.cell 7 _ rfl
 have c8 : wc.cell? ⟨w.heap.size, 8, none⟩ = some (.slice Aa al ac) := HK1.out.cell 8 _ rfl
 have HK := Lib.hid (show ¬ ((3 : Int) < 1 \/ 15 < (3 : Int)) from by decide)
 cases hcb : countB 3 al S names
 ·
  have hcb2 : countB 3 args.length S names = false := by rw [HXA.out]; exact hcb
  have HE := Lib.hid (exprF_count (n := n) (x := (⟨3, df, S, N, names⟩, args)) (sc := scope) (o := olds) HK.out hcb2)
  clear hcb hcb2
  go_wp2_with fail
  go_ret
  exact ⟨ret_i HE.out.symm, HK1.out.below⟩
 have hcb2 : countB 3 args.length S names = true := by rw [HXA.out]; exact hcb
 have HC2 := Lib.hid hcb2
 clear hcb hcb2 HCB
 have hnb : namedB 3 N S names scope = freeB S := rfl
 have HNB := Lib.hid hnb
 clear hnb
 go_upto_block 1 with fail
 go_cut [8] (fun s8 wx => s8 = .bool (namedB 3 N S names scope) /\ Kept w wx #[.int .i64 3, .int .i64 dk, .int .i64 dn, .string ds, .slice dA dl dc, .string S, .int .i64 N, .slice An nl nc, .slice Aa al ac])
 case first => as_aux_lemma =>
  go_wp2_with fail
  refine (freeName_any S hS _).mono ?_
  rintro e w1 ⟨rfl, hb1⟩
  have HB1 := Lib.hid hb1
  clear hb1
  go_wp2_with fail
  go_meet
  exact ⟨congrArg Value.bool HNB.out.symm, HK1.out.later HB1.out⟩
 case rest => as_aux_lemma =>
  obtain ⟨rfl, hkept⟩ := hcut
  have HK2 := Lib.hid hkept
  clear hkept HK1 c0 c1 c2 c3 c4 c5 c6 c7 c8
  have d0 : wc.cell? ⟨w.heap.size, 0, none⟩ = some (.int .i64 3) := HK2.out.cell 0 _ rfl
  have d1 : wc.cell? ⟨w.heap.size, 1, none⟩ = some (.int .i64 dk) := HK2.out.cell 1 _ rfl
  have d2 : wc.cell? ⟨w.heap.size, 2, none⟩ = some (.int .i64 dn) := HK2.out.cell 2 _ rfl
  have d3 : wc.cell? ⟨w.heap.size, 3, none⟩ = some (.string ds) := HK2.out.cell 3 _ rfl
  have d4 : wc.cell? ⟨w.heap.size, 4, none⟩ = some (.slice dA dl dc) := HK2.out.cell 4 _ rfl
  have d5 : wc.cell? ⟨w.heap.size, 5, none⟩ = some (.string S) := HK2.out.cell 5 _ rfl
  have d6 : wc.cell? ⟨w.heap.size, 6, none⟩ = some (.int .i64 N) := HK2.out.cell 6 _ rfl
  have d7 : wc.cell? ⟨w.heap.size, 7, none⟩ = some (.slice An nl nc) := HK2.out.cell 7 _ rfl
  have d8 : wc.cell? ⟨w.heap.size, 8, none⟩ = some (.slice Aa al ac) := HK2.out.cell 8 _ rfl
  cases hnb : namedB 3 N S names scope
  ·
   have HE := Lib.hid (exprF_named (n := n) (x := (⟨3, df, S, N, names⟩, args)) (sc := scope) (o := olds) HK.out HC2.out hnb)
   clear hnb
   go_wp2_with fail
   go_ret
   exact ⟨ret_i HE.out.symm, HK2.out.below⟩
  have f : Fine (n := n) (⟨3, df, S, N, names⟩, args) scope := ⟨HK.out, HC2.out, hnb⟩
  clear hnb HNB
  have HZ := Lib.hid (show al = 0 from by have h := HC2.out; rw [HXA.out] at h; simpa [countB] using h)
  have hz0 : ¬ (0 < al) := by have := HZ.out; omega
  have ho0 : 0 <= olds := ho.1
  have HE := Lib.hid (exprF_pure (n := n) (o := olds) f ⟨ho0, by simp⟩)
  clear f
  go_wp2_with fail
  go_ret
  exact ⟨ret_i HE.out.symm, HK2.out.below⟩
end
end Go.Proofs.YtfhbdlobhjegcaaGreatDoor
