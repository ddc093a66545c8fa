import Derived.Test.YtfhbdlobhjegcaaGreatDoorGNam
import Derived.Deep.RegionHeld3
namespace Go.Proofs.YtfhbdlobhjegcaaGreatDoor
open Go.RowKit Go.ChangeShapes Go.WideShapes Go.Deep Go.ChangeAt
set_option linter.unusedVariables false
section
variable {H : Type} {enc : TypeId × Value -> H}
def CheckIs (w : World) (cs : List Value) (As : Option Addr) (sl sc : Nat) (olds v : Int) : Prop :=
 Calls Tryz.prog 30 #[.agg cs.toArray, .slice As sl sc, .int .i64 olds] w fun e w' => e = .returned (.int .i64 v) /\ Below w.heap.size w w'
def CheckSays (enc : TypeId × Value -> H) (n : Nat) : Prop := ∀ (w : World) (cs : List Value) (x : Tr n) (As : Option Addr) (sl sc : Nat) (scope : List ByteArray) (olds : Int), ExAt enc w n cs x -> CMaps w -> zt w As sl scope -> sl <= 40 -> sl <= sc -> sc <= maxLen →
 0 <= olds /\ olds <= 9223372036854775807 -> CheckIs w cs As sl sc olds (exprF n x scope olds)
theorem argsN_ne {k : Int} (h : ¬ (k < 1 \/ 15 < k)) : argsN k ≠ -2 := by
 rcases kinds h with rfl | rfl | rfl | rfl | rfl | rfl | rfl | rfl | rfl | rfl | rfl | rfl | rfl | rfl | rfl <;> decide
set_option maxHeartbeats 1000000 in
theorem check_kind_ {w : World} {cs : List Value} {h : ExHead} {dk dn : Int} {ds : ByteArray} {dA : Option Addr} {dl dc : Nat} {An : Option Addr} {nl nc : Nat} {Aa : Option Addr} {al ac : Nat} {As : Option Addr} {sl sc : Nat} {scope : List ByteArray} {olds : Int} (hx : ExC enc w cs h dk dn ds dA dl dc An nl nc Aa al ac) (hm : CMaps w) (hs : zt w As sl scope) (hsl : sl <= sc) (hsc : sc <= maxLen) (hk : h.kind < 1 \/ 15 < h.kind) : CheckIs w cs As sl sc olds 3 := by
 obtain ⟨rfl, hkr, hnr, hS, hdf, hns, hes, hn1, hn2, ha1, ha2⟩ := hx
 have HK := Lib.hid (argsN_other hk)
 clear hk hm hs hns hes hdf
 unfold CheckIs
 go_enter Tryz.func30, Tryz.ntmps30
 go_wp2_with fail
 refine (args_is _ _ (-2) HK.out).mono ?_
 rintro e w1 ⟨rfl, rfl⟩
 go_wp2_with fail
 go_ret
 exact ⟨rfl, (Below.refl _ _).alloc (Nat.le_refl _) _⟩
set_option maxHeartbeats 1000000 in
theorem check_count_ {w : World} {cs : List Value} {h : ExHead} {dk dn : Int} {ds : ByteArray} {dA : Option Addr} {dl dc : Nat} {An : Option Addr} {nl nc : Nat} {Aa : Option Addr} {al ac : Nat} {As : Option Addr} {sl sc : Nat} {scope : List ByteArray} {olds : Int} (hx : ExC enc w cs h dk dn ds dA dl dc An nl nc Aa al ac) (hm : CMaps w) (hs : zt w As sl scope) (hsl : sl <= sc) (hsc : sc <= maxLen) (hk : ¬ (h.kind < 1 \/ 15 < h.kind)) (hcb : countB h.kind al h.S h.names = false) : CheckIs w cs As sl sc olds 10 := by
 have hx0 := hx
 obtain ⟨rfl, hkr, hnr, hS, hdf, hns, hes, hn1, hn2, ha1, ha2⟩ := hx
 obtain ⟨v, hv⟩ : ∃ v, argsN h.kind = v := ⟨_, rfl⟩
 have hv2 : v ≠ -2 := by rw [<- hv]; exact argsN_ne hk
 have HX := Lib.hid hx0
 have HV := Lib.hid hv
 have HK := Lib.hid hk
 have HM := Lib.hid hm
 have HS := Lib.hid hs
 have HCB := Lib.hid hcb
 clear hk hm hs hns hes hdf hx0 hv hcb
 unfold CheckIs
 go_enter Tryz.func30, Tryz.ntmps30
 go_wp2_with fail
 refine (args_is _ _ v HV.out).mono ?_
 rintro e w1 ⟨rfl, rfl⟩
 go_wp2_with fail
 refine (counted_any (HX.out.below ((Below.refl _ _).alloc (Nat.le_refl _) _)) (HM.out.below ((Below.refl _ _).alloc (Nat.le_refl _) _)) HK.out).mono ?_
 rintro e w1 ⟨rfl, hb1⟩
 rw [HCB.out]
 have HB1 := Lib.hid (box_below hb1)
 have hs1 : w.heap.size < w1.heap.size := Nat.lt_of_lt_of_le (by simp) hb1.size
 have c0 : w1.cell? ⟨w.heap.size, 0, none⟩ = some (.int .i64 h.kind) := box_cell hb1 rfl
 have c1 : w1.cell? ⟨w.heap.size, 1, none⟩ = some (.int .i64 dk) := box_cell hb1 rfl
 have c2 : w1.cell? ⟨w.heap.size, 2, none⟩ = some (.int .i64 dn) := box_cell hb1 rfl
 have c3 : w1.cell? ⟨w.heap.size, 3, none⟩ = some (.string ds) := box_cell hb1 rfl
 have c4 : w1.cell? ⟨w.heap.size, 4, none⟩ = some (.slice dA dl dc) := box_cell hb1 rfl
 have c5 : w1.cell? ⟨w.heap.size, 5, none⟩ = some (.string h.S) := box_cell hb1 rfl
 have c6 : w1.cell? ⟨w.heap.size, 6, none⟩ = some (.int .i64 h.N) := box_cell hb1 rfl
 have c7 : w1.cell? ⟨w.heap.size, 7, none⟩ = some (.slice An nl nc) := box_cell hb1 rfl
 have c8 : w1.cell? ⟨w.heap.size, 8, none⟩ = some (.slice Aa al ac) := box_cell hb1 rfl
 clear hb1
 go_wp2_with fail
 go_ret
 exact ⟨rfl, HB1.out⟩
set_option maxHeartbeats 1000000 in
theorem check_named_ {w : World} {cs : List Value} {h : ExHead} {dk dn : Int} {ds : ByteArray} {dA : Option Addr} {dl dc : Nat} {An : Option Addr} {nl nc : Nat} {Aa : Option Addr} {al ac : Nat} {As : Option Addr} {sl sc : Nat} {scope : List ByteArray} {olds : Int} (hx : ExC enc w cs h dk dn ds dA dl dc An nl nc Aa al ac) (hm : CMaps w) (hs : zt w As sl scope) (hsl : sl <= sc) (hsc : sc <= maxLen) (hk : ¬ (h.kind < 1 \/ 15 < h.kind)) (hcb : countB h.kind al h.S h.names = true) (hnb : namedB h.kind h.N h.S h.names scope = false) : CheckIs w cs As sl sc olds 6 := by
 have HNB := Lib.hid hnb
 clear hnb
 have hx0 := hx
 obtain ⟨rfl, hkr, hnr, hS, hdf, hns, hes, hn1, hn2, ha1, ha2⟩ := hx
 obtain ⟨v, hv⟩ : ∃ v, argsN h.kind = v := ⟨_, rfl⟩
 have hv2 : v ≠ -2 := by rw [<- hv]; exact argsN_ne hk
 have HX := Lib.hid hx0
 have HV := Lib.hid hv
 have HK := Lib.hid hk
 have HM := Lib.hid hm
 have HS := Lib.hid hs
 have HCB := Lib.hid hcb
 clear hk hm hs hns hes hdf hx0 hv hcb
 unfold CheckIs
 go_enter Tryz.func30, Tryz.ntmps30
 go_wp2_with fail
 refine (args_is _ _ v HV.out).mono ?_
 rintro e w1 ⟨rfl, rfl⟩
 go_wp2_with fail
 refine (counted_any (HX.out.below ((Below.refl _ _).alloc (Nat.le_refl _) _)) (HM.out.below ((Below.refl _ _).alloc (Nat.le_refl _) _)) HK.out).mono ?_
 rintro e w1 ⟨rfl, hb1⟩
 rw [HCB.out]
 have HB1 := Lib.hid (box_below hb1)
 have hs1 : w.heap.size < w1.heap.size := Nat.lt_of_lt_of_le (by simp) hb1.size
 have c0 : w1.cell? ⟨w.heap.size, 0, none⟩ = some (.int .i64 h.kind) := box_cell hb1 rfl
 have c1 : w1.cell? ⟨w.heap.size, 1, none⟩ = some (.int .i64 dk) := box_cell hb1 rfl
 have c2 : w1.cell? ⟨w.heap.size, 2, none⟩ = some (.int .i64 dn) := box_cell hb1 rfl
 have c3 : w1.cell? ⟨w.heap.size, 3, none⟩ = some (.string ds) := box_cell hb1 rfl
 have c4 : w1.cell? ⟨w.heap.size, 4, none⟩ = some (.slice dA dl dc) := box_cell hb1 rfl
 have c5 : w1.cell? ⟨w.heap.size, 5, none⟩ = some (.string h.S) := box_cell hb1 rfl
 have c6 : w1.cell? ⟨w.heap.size, 6, none⟩ = some (.int .i64 h.N) := box_cell hb1 rfl
 have c7 : w1.cell? ⟨w.heap.size, 7, none⟩ = some (.slice An nl nc) := box_cell hb1 rfl
 have c8 : w1.cell? ⟨w.heap.size, 8, none⟩ = some (.slice Aa al ac) := box_cell hb1 rfl
 clear hb1
 go_wp2_with fail
 refine (named_any (HX.out.below HB1.out) (HM.out.below HB1.out) (HS.out.below HB1.out) hsl hsc HK.out).mono ?_
 rintro e w2 ⟨rfl, hb2⟩
 rw [HNB.out]
 have HB2 := Lib.hid (HB1.out.trans (hb2.mono HB1.out.size))
 clear hb2
 go_wp2_with fail
 go_ret
 exact ⟨rfl, HB2.out⟩
set_option maxHeartbeats 2000000 in
theorem check_1 {w : World} {cs : List Value} {h : ExHead} {dk dn : Int} {ds : ByteArray} {dA : Option Addr} {dl dc : Nat} {An : Option Addr} {nl nc : Nat} {Aa : Option Addr} {al ac : Nat} {As : Option Addr} {sl sc : Nat} {scope : List ByteArray} {olds : Int} {n : Nat} {args : List (Tr n)} (hx : ExC enc w cs h dk dn ds dA dl dc An nl nc Aa al ac) (hm : CMaps w) (hs : zt w As sl scope) (hsl : sl <= sc) (hsc : sc <= maxLen) (ho : 0 <= olds /\ olds <= 9223372036854775807) (hxa : args.length = al) (f : Fine (n := n) (h, args) scope) (hk0 : h.kind = 1) : CheckIs w cs As sl sc olds (exprF (n + 1) (h, args) scope olds) := by
 have HF := Lib.hid f
 have hz : al = 0 := by
  have h1 := f.count
  simp only [hxa, hk0] at h1
  simpa [countB] using h1
 subst hz
 obtain ⟨k, df, S, N, names⟩ := h
 simp only at hk0
 subst hk0
 have hcb := f.count
 have hnb := f.named
 have hk : ¬ ((1 : Int) < 1 \/ 15 < (1 : Int)) := by decide
 simp only [hxa] at hcb hnb
 have HNB := Lib.hid hnb
 clear hnb
 have hx0 := hx
 obtain ⟨rfl, hkr, hnr, hS, hdf, hns, hes, hn1, hn2, ha1, ha2⟩ := hx
 obtain ⟨v, hv⟩ : ∃ v, argsN 1 = v := ⟨_, rfl⟩
 have hv2 : v ≠ -2 := by rw [<- hv]; exact argsN_ne hk
 have HX := Lib.hid hx0
 have HV := Lib.hid hv
 have HK := Lib.hid hk
 have HM := Lib.hid hm
 have HS := Lib.hid hs
 have HCB := Lib.hid hcb
 clear hk hm hs hns hes hdf hx0 hv hcb
 unfold CheckIs
 go_enter Tryz.func30, Tryz.ntmps30
 go_wp2_with fail
 refine (args_is _ _ v HV.out).mono ?_
 rintro e w1 ⟨rfl, rfl⟩
 go_wp2_with fail
 refine (counted_any (HX.out.below ((Below.refl _ _).alloc (Nat.le_refl _) _)) (HM.out.below ((Below.refl _ _).alloc (Nat.le_refl _) _)) HK.out).mono ?_
 rintro e w1 ⟨rfl, hb1⟩
 rw [HCB.out]
 have HB1 := Lib.hid (box_below hb1)
 have hs1 : w.heap.size < w1.heap.size := Nat.lt_of_lt_of_le (by simp) hb1.size
 have c0 : w1.cell? ⟨w.heap.size, 0, none⟩ = some (.int .i64 1) := box_cell hb1 rfl
 have c1 : w1.cell? ⟨w.heap.size, 1, none⟩ = some (.int .i64 dk) := box_cell hb1 rfl
 have c2 : w1.cell? ⟨w.heap.size, 2, none⟩ = some (.int .i64 dn) := box_cell hb1 rfl
 have c3 : w1.cell? ⟨w.heap.size, 3, none⟩ = some (.string ds) := box_cell hb1 rfl
 have c4 : w1.cell? ⟨w.heap.size, 4, none⟩ = some (.slice dA dl dc) := box_cell hb1 rfl
 have c5 : w1.cell? ⟨w.heap.size, 5, none⟩ = some (.string S) := box_cell hb1 rfl
 have c6 : w1.cell? ⟨w.heap.size, 6, none⟩ = some (.int .i64 N) := box_cell hb1 rfl
 have c7 : w1.cell? ⟨w.heap.size, 7, none⟩ = some (.slice An nl nc) := box_cell hb1 rfl
 have c8 : w1.cell? ⟨w.heap.size, 8, none⟩ = some (.slice Aa 0 ac) := box_cell hb1 rfl
 clear hb1
 go_wp2_with fail
 refine (named_any (HX.out.below HB1.out) (HM.out.below HB1.out) (HS.out.below HB1.out) hsl hsc HK.out).mono ?_
 rintro e w2 ⟨rfl, hb2⟩
 rw [HNB.out]
 have HB2 := Lib.hid (HB1.out.trans (hb2.mono HB1.out.size))
 have hs2 : w.heap.size < w2.heap.size := Nat.lt_of_lt_of_le hs1 hb2.size
 have d0 : w2.cell? ⟨w.heap.size, 0, none⟩ = some (.int .i64 1) := (hb2.cell (p := ⟨w.heap.size, 0, none⟩) hs1).trans c0
 have d1 : w2.cell? ⟨w.heap.size, 1, none⟩ = some (.int .i64 dk) := (hb2.cell (p := ⟨w.heap.size, 1, none⟩) hs1).trans c1
 have d2 : w2.cell? ⟨w.heap.size, 2, none⟩ = some (.int .i64 dn) := (hb2.cell (p := ⟨w.heap.size, 2, none⟩) hs1).trans c2
 have d3 : w2.cell? ⟨w.heap.size, 3, none⟩ = some (.string ds) := (hb2.cell (p := ⟨w.heap.size, 3, none⟩) hs1).trans c3
 have d4 : w2.cell? ⟨w.heap.size, 4, none⟩ = some (.slice dA dl dc) := (hb2.cell (p := ⟨w.heap.size, 4, none⟩) hs1).trans c4
 have d5 : w2.cell? ⟨w.heap.size, 5, none⟩ = some (.string S) := (hb2.cell (p := ⟨w.heap.size, 5, none⟩) hs1).trans c5
 have d6 : w2.cell? ⟨w.heap.size, 6, none⟩ = some (.int .i64 N) := (hb2.cell (p := ⟨w.heap.size, 6, none⟩) hs1).trans c6
 have d7 : w2.cell? ⟨w.heap.size, 7, none⟩ = some (.slice An nl nc) := (hb2.cell (p := ⟨w.heap.size, 7, none⟩) hs1).trans c7
 have d8 : w2.cell? ⟨w.heap.size, 8, none⟩ = some (.slice Aa 0 ac) := (hb2.cell (p := ⟨w.heap.size, 8, none⟩) hs1).trans c8
 clear hb2 c0 c1 c2 c3 c4 c5 c6 c7 c8
 obtain ⟨dd, hrd, hdd⟩ := HX.out.df
 simp only at hdd
 have HRD := Lib.hid hrd
 have HDD := Lib.hid hdd
 clear hrd hdd
 by_cases hdf0 : df = 0
 ·
  subst hdf0
  have HE := Lib.hid (exprF_zero (n := n) (x := (⟨1, 0, S, N, names⟩, args)) (sc := scope) (o := olds) ⟨f, by simp, by simp⟩ (fun i hi => absurd hi (by simp [hxa])))
  clear f
  go_wp2_with fail
  refine (readCheck_any _ [.int .i64 dk, .int .i64 dn, .string ds, .slice dA dl dc] dd (HRD.out.below readableDatum rowDatum HB2.out)).mono ?_
  rintro e w3 ⟨rfl, hb3⟩
  rw [HDD.out]
  have e0 : w3.cell? ⟨w.heap.size, 0, none⟩ = some (.int .i64 1) := (hb3.cell (p := ⟨w.heap.size, 0, none⟩) hs2).trans d0
  have e3 : w3.cell? ⟨w.heap.size, 3, none⟩ = some (.string ds) := (hb3.cell (p := ⟨w.heap.size, 3, none⟩) hs2).trans d3
  have e6 : w3.cell? ⟨w.heap.size, 6, none⟩ = some (.int .i64 N) := (hb3.cell (p := ⟨w.heap.size, 6, none⟩) hs2).trans d6
  have e8 : w3.cell? ⟨w.heap.size, 8, none⟩ = some (.slice Aa 0 ac) := (hb3.cell (p := ⟨w.heap.size, 8, none⟩) hs2).trans d8
  have HB3 := Lib.hid (HB2.out.trans (hb3.mono HB2.out.size))
  clear hb3
  have ho0 : 0 <= olds := ho.1
  go_wp2_with fail
  go_loopg [72] 1 (fun g i wr => i = .int .i64 0 /\ Below w.heap.size w wr)
  case atStart => exact ⟨rfl, HB3.out⟩
  obtain ⟨rfl, hb⟩ := hrel
  have HB := Lib.hid hb
  clear hb
  go_wp2_with fail
  go_ret
  exact ⟨ret_i HE.out.symm, HB.out⟩
 have HE := Lib.hid (exprF_form (n := n) (o := olds) f (Or.inl ⟨rfl, hdf0⟩))
 clear f
 go_wp2_with fail
 refine (readCheck_any _ [.int .i64 dk, .int .i64 dn, .string ds, .slice dA dl dc] dd (HRD.out.below readableDatum rowDatum HB2.out)).mono ?_
 rintro e w3 ⟨rfl, hb3⟩
 rw [HDD.out]
 have e0 : w3.cell? ⟨w.heap.size, 0, none⟩ = some (.int .i64 1) := (hb3.cell (p := ⟨w.heap.size, 0, none⟩) hs2).trans d0
 have e3 : w3.cell? ⟨w.heap.size, 3, none⟩ = some (.string ds) := (hb3.cell (p := ⟨w.heap.size, 3, none⟩) hs2).trans d3
 have e6 : w3.cell? ⟨w.heap.size, 6, none⟩ = some (.int .i64 N) := (hb3.cell (p := ⟨w.heap.size, 6, none⟩) hs2).trans d6
 have e8 : w3.cell? ⟨w.heap.size, 8, none⟩ = some (.slice Aa 0 ac) := (hb3.cell (p := ⟨w.heap.size, 8, none⟩) hs2).trans d8
 have HB3 := Lib.hid (HB2.out.trans (hb3.mono HB2.out.size))
 clear hb3
 go_wp2_with fail
 go_ret
 exact ⟨ret_i HE.out.symm, HB3.out⟩
set_option maxHeartbeats 2000000 in
theorem check_15 {w : World} {cs : List Value} {h : ExHead} {dk dn : Int} {ds : ByteArray} {dA : Option Addr} {dl dc : Nat} {An : Option Addr} {nl nc : Nat} {Aa : Option Addr} {al ac : Nat} {As : Option Addr} {sl sc : Nat} {scope : List ByteArray} {olds : Int} {n : Nat} {args : List (Tr n)} (hx : ExC enc w cs h dk dn ds dA dl dc An nl nc Aa al ac) (hm : CMaps w) (hs : zt w As sl scope) (hsl : sl <= sc) (hsc : sc <= maxLen) (ho : 0 <= olds /\ olds <= 9223372036854775807) (hxa : args.length = al) (f : Fine (n := n) (h, args) scope) (hk0 : h.kind = 15) : CheckIs w cs As sl sc olds (exprF (n + 1) (h, args) scope olds) := by
 have HF := Lib.hid f
 have hz : al = 0 := by
  have h1 := f.count
  simp only [hxa, hk0] at h1
  simpa [countB] using h1
 subst hz
 obtain ⟨k, df, S, N, names⟩ := h
 simp only at hk0
 subst hk0
 have hcb := f.count
 have hnb := f.named
 have hk : ¬ ((15 : Int) < 1 \/ 15 < (15 : Int)) := by decide
 simp only [hxa] at hcb hnb
 have HNB := Lib.hid hnb
 clear hnb
 have hx0 := hx
 obtain ⟨rfl, hkr, hnr, hS, hdf, hns, hes, hn1, hn2, ha1, ha2⟩ := hx
 obtain ⟨v, hv⟩ : ∃ v, argsN 15 = v := ⟨_, rfl⟩
 have hv2 : v ≠ -2 := by rw [<- hv]; exact argsN_ne hk
 have HX := Lib.hid hx0
 have HV := Lib.hid hv
 have HK := Lib.hid hk
 have HM := Lib.hid hm
 have HS := Lib.hid hs
 have HCB := Lib.hid hcb
 clear hk hm hs hns hes hdf hx0 hv hcb
 unfold CheckIs
 go_enter Tryz.func30, Tryz.ntmps30
 go_wp2_with fail
 refine (args_is _ _ v HV.out).mono ?_
 rintro e w1 ⟨rfl, rfl⟩
 go_wp2_with fail
 refine (counted_any (HX.out.below ((Below.refl _ _).alloc (Nat.le_refl _) _)) (HM.out.below ((Below.refl _ _).alloc (Nat.le_refl _) _)) HK.out).mono ?_
 rintro e w1 ⟨rfl, hb1⟩
 rw [HCB.out]
 have HB1 := Lib.hid (box_below hb1)
 have hs1 : w.heap.size < w1.heap.size := Nat.lt_of_lt_of_le (by simp) hb1.size
 have c0 : w1.cell? ⟨w.heap.size, 0, none⟩ = some (.int .i64 15) := box_cell hb1 rfl
 have c1 : w1.cell? ⟨w.heap.size, 1, none⟩ = some (.int .i64 dk) := box_cell hb1 rfl
 have c2 : w1.cell? ⟨w.heap.size, 2, none⟩ = some (.int .i64 dn) := box_cell hb1 rfl
 have c3 : w1.cell? ⟨w.heap.size, 3, none⟩ = some (.string ds) := box_cell hb1 rfl
 have c4 : w1.cell? ⟨w.heap.size, 4, none⟩ = some (.slice dA dl dc) := box_cell hb1 rfl
 have c5 : w1.cell? ⟨w.heap.size, 5, none⟩ = some (.string S) := box_cell hb1 rfl
 have c6 : w1.cell? ⟨w.heap.size, 6, none⟩ = some (.int .i64 N) := box_cell hb1 rfl
 have c7 : w1.cell? ⟨w.heap.size, 7, none⟩ = some (.slice An nl nc) := box_cell hb1 rfl
 have c8 : w1.cell? ⟨w.heap.size, 8, none⟩ = some (.slice Aa 0 ac) := box_cell hb1 rfl
 clear hb1
 go_wp2_with fail
 refine (named_any (HX.out.below HB1.out) (HM.out.below HB1.out) (HS.out.below HB1.out) hsl hsc HK.out).mono ?_
 rintro e w2 ⟨rfl, hb2⟩
 rw [HNB.out]
 have HB2 := Lib.hid (HB1.out.trans (hb2.mono HB1.out.size))
 have hs2 : w.heap.size < w2.heap.size := Nat.lt_of_lt_of_le hs1 hb2.size
 have d0 : w2.cell? ⟨w.heap.size, 0, none⟩ = some (.int .i64 15) := (hb2.cell (p := ⟨w.heap.size, 0, none⟩) hs1).trans c0
 have d1 : w2.cell? ⟨w.heap.size, 1, none⟩ = some (.int .i64 dk) := (hb2.cell (p := ⟨w.heap.size, 1, none⟩) hs1).trans c1
 have d2 : w2.cell? ⟨w.heap.size, 2, none⟩ = some (.int .i64 dn) := (hb2.cell (p := ⟨w.heap.size, 2, none⟩) hs1).trans c2
 have d3 : w2.cell? ⟨w.heap.size, 3, none⟩ = some (.string ds) := (hb2.cell (p := ⟨w.heap.size, 3, none⟩) hs1).trans c3
 have d4 : w2.cell? ⟨w.heap.size, 4, none⟩ = some (.slice dA dl dc) := (hb2.cell (p := ⟨w.heap.size, 4, none⟩) hs1).trans c4
 have d5 : w2.cell? ⟨w.heap.size, 5, none⟩ = some (.string S) := (hb2.cell (p := ⟨w.heap.size, 5, none⟩) hs1).trans c5
 have d6 : w2.cell? ⟨w.heap.size, 6, none⟩ = some (.int .i64 N) := (hb2.cell (p := ⟨w.heap.size, 6, none⟩) hs1).trans c6
 have d7 : w2.cell? ⟨w.heap.size, 7, none⟩ = some (.slice An nl nc) := (hb2.cell (p := ⟨w.heap.size, 7, none⟩) hs1).trans c7
 have d8 : w2.cell? ⟨w.heap.size, 8, none⟩ = some (.slice Aa 0 ac) := (hb2.cell (p := ⟨w.heap.size, 8, none⟩) hs1).trans c8
 clear hb2 c0 c1 c2 c3 c4 c5 c6 c7 c8
 by_cases hN0 : N < 0
 ·
  have HE := Lib.hid (exprF_form (n := n) (o := olds) f (Or.inr ⟨rfl, Or.inl hN0⟩))
  clear f
  go_wp2_with fail
  go_ret
  exact ⟨ret_i HE.out.symm, HB2.out⟩
 by_cases hN1 : olds <= N
 ·
  have HE := Lib.hid (exprF_form (n := n) (o := olds) f (Or.inr ⟨rfl, Or.inr hN1⟩))
  clear f
  go_wp2_with fail
  go_ret
  exact ⟨ret_i HE.out.symm, HB2.out⟩
 have HE := Lib.hid (exprF_zero (n := n) (x := (⟨15, df, S, N, names⟩, args)) (sc := scope) (o := olds) ⟨f, by simp; omega, by simp⟩ (fun i hi => absurd hi (by simp [hxa])))
 have ho0 : 0 <= olds := by omega
 clear f
 go_wp2_with fail
 go_loopg [72] 1 (fun g i wr => i = .int .i64 0 /\ Below w.heap.size w wr)
 case atStart => exact ⟨rfl, HB2.out⟩
 obtain ⟨rfl, hb⟩ := hrel
 have HB := Lib.hid hb
 clear hb
 go_wp2_with fail
 go_ret
 exact ⟨ret_i HE.out.symm, HB.out⟩
theorem ExAt.cells {w : World} : {n : Nat} -> {cs : List Value} -> {x : Tr n} -> ExAt enc w n cs x -> ∃ k dk dn ds dA dl dc S N An nl nc Aa al ac, cs = [.int .i64 k, .int .i64 dk, .int .i64 dn, .string ds, .slice dA dl dc, .string S, .int .i64 N, .slice An nl nc, .slice Aa al ac]
 | 0, _, _, h => h.elim
 | n + 1, cs, x, h => by
  obtain ⟨dk, dn, ds, dA, dl, dc, An, nl, nc, Aa, al, ac, h1, _, _⟩ := h
  exact ⟨_, dk, dn, ds, dA, dl, dc, _, _, An, nl, nc, Aa, al, ac, h1.cells⟩
set_option maxHeartbeats 2000000 in
theorem check_pure {w : World} {cs : List Value} {h : ExHead} {dk dn : Int} {ds : ByteArray} {dA : Option Addr} {dl dc : Nat} {An : Option Addr} {nl nc : Nat} {Aa : Option Addr} {al ac : Nat} {As : Option Addr} {sl sc : Nat} {scope : List ByteArray} {olds : Int} {n : Nat} {args : List (Tr n)} (hx : ExC enc w cs h dk dn ds dA dl dc An nl nc Aa al ac) (hm : CMaps w) (hs : zt w As sl scope) (hsl : sl <= sc) (hsc : sc <= maxLen) (ho : 0 <= olds /\ olds <= 9223372036854775807) (hxa : args.length = al) (f : Fine (n := n) (h, args) scope) (hk : ¬ (h.kind < 1 \/ 15 < h.kind)) (hk0 : h.kind ≠ 1 /\ h.kind ≠ 4 /\ h.kind ≠ 10 /\ h.kind ≠ 15) : CheckIs w cs As sl sc olds (exprF (n + 1) (h, args) scope olds) := by
 have HF := Lib.hid f
 obtain ⟨k, df, S, N, names⟩ := h
 simp only at hk0 hk
 obtain ⟨k1, k4, k10, k15⟩ := hk0
 have hcb := f.count
 have hnb := f.named
 simp only [hxa] at hcb hnb
 have HNB := Lib.hid hnb
 clear hnb
 have hx0 := hx
 obtain ⟨rfl, hkr, hnr, hS, hdf, hns, hes, hn1, hn2, ha1, ha2⟩ := hx
 obtain ⟨v, hv⟩ : ∃ v, argsN k = v := ⟨_, rfl⟩
 have hv2 : v ≠ -2 := by rw [<- hv]; exact argsN_ne hk
 have HX := Lib.hid hx0
 have HV := Lib.hid hv
 have HK := Lib.hid hk
 have HM := Lib.hid hm
 have HS := Lib.hid hs
 have HCB := Lib.hid hcb
 clear hk hm hs hns hes hdf hx0 hv hcb
 unfold CheckIs
 go_enter Tryz.func30, Tryz.ntmps30
 go_wp2_with fail
 refine (args_is _ _ v HV.out).mono ?_
 rintro e w1 ⟨rfl, rfl⟩
 go_wp2_with fail
 refine (counted_any (HX.out.below ((Below.refl _ _).alloc (Nat.le_refl _) _)) (HM.out.below ((Below.refl _ _).alloc (Nat.le_refl _) _)) HK.out).mono ?_
 rintro e w1 ⟨rfl, hb1⟩
 rw [HCB.out]
 have HB1 := Lib.hid (box_below hb1)
 have hs1 : w.heap.size < w1.heap.size := Nat.lt_of_lt_of_le (by simp) hb1.size
 have c0 : w1.cell? ⟨w.heap.size, 0, none⟩ = some (.int .i64 k) := box_cell hb1 rfl
 have c1 : w1.cell? ⟨w.heap.size, 1, none⟩ = some (.int .i64 dk) := box_cell hb1 rfl
 have c2 : w1.cell? ⟨w.heap.size, 2, none⟩ = some (.int .i64 dn) := box_cell hb1 rfl
 have c3 : w1.cell? ⟨w.heap.size, 3, none⟩ = some (.string ds) := box_cell hb1 rfl
 have c4 : w1.cell? ⟨w.heap.size, 4, none⟩ = some (.slice dA dl dc) := box_cell hb1 rfl
 have c5 : w1.cell? ⟨w.heap.size, 5, none⟩ = some (.string S) := box_cell hb1 rfl
 have c6 : w1.cell? ⟨w.heap.size, 6, none⟩ = some (.int .i64 N) := box_cell hb1 rfl
 have c7 : w1.cell? ⟨w.heap.size, 7, none⟩ = some (.slice An nl nc) := box_cell hb1 rfl
 have c8 : w1.cell? ⟨w.heap.size, 8, none⟩ = some (.slice Aa al ac) := box_cell hb1 rfl
 clear hb1
 go_wp2_with fail
 refine (named_any (HX.out.below HB1.out) (HM.out.below HB1.out) (HS.out.below HB1.out) hsl hsc HK.out).mono ?_
 rintro e w2 ⟨rfl, hb2⟩
 rw [HNB.out]
 have HB2 := Lib.hid (HB1.out.trans (hb2.mono HB1.out.size))
 have hs2 : w.heap.size < w2.heap.size := Nat.lt_of_lt_of_le hs1 hb2.size
 have d0 : w2.cell? ⟨w.heap.size, 0, none⟩ = some (.int .i64 k) := (hb2.cell (p := ⟨w.heap.size, 0, none⟩) hs1).trans c0
 have d1 : w2.cell? ⟨w.heap.size, 1, none⟩ = some (.int .i64 dk) := (hb2.cell (p := ⟨w.heap.size, 1, none⟩) hs1).trans c1
 have d2 : w2.cell? ⟨w.heap.size, 2, none⟩ = some (.int .i64 dn) := (hb2.cell (p := ⟨w.heap.size, 2, none⟩) hs1).trans c2
 have d3 : w2.cell? ⟨w.heap.size, 3, none⟩ = some (.string ds) := (hb2.cell (p := ⟨w.heap.size, 3, none⟩) hs1).trans c3
 have d4 : w2.cell? ⟨w.heap.size, 4, none⟩ = some (.slice dA dl dc) := (hb2.cell (p := ⟨w.heap.size, 4, none⟩) hs1).trans c4
 have d5 : w2.cell? ⟨w.heap.size, 5, none⟩ = some (.string S) := (hb2.cell (p := ⟨w.heap.size, 5, none⟩) hs1).trans c5
 have d6 : w2.cell? ⟨w.heap.size, 6, none⟩ = some (.int .i64 N) := (hb2.cell (p := ⟨w.heap.size, 6, none⟩) hs1).trans c6
 have d7 : w2.cell? ⟨w.heap.size, 7, none⟩ = some (.slice An nl nc) := (hb2.cell (p := ⟨w.heap.size, 7, none⟩) hs1).trans c7
 have d8 : w2.cell? ⟨w.heap.size, 8, none⟩ = some (.slice Aa al ac) := (hb2.cell (p := ⟨w.heap.size, 8, none⟩) hs1).trans c8
 clear hb2 c0 c1 c2 c3 c4 c5 c6 c7 c8
 have HE := Lib.hid (exprF_pure (n := n) (o := olds) f ⟨ho.1, by simp [k1, k4, k10, k15]⟩)
 have ho0 := ho.1
 have b1 : (k != 1) = true := by simpa using k1
 have b4 : (k != 4) = true := by simpa using k4
 have b10 : (k != 10) = true := by simpa using k10
 have b15 : (k != 15) = true := by simpa using k15
 have e1 : (k == 1) = false := by simpa using k1
 have e15 : (k == 15) = false := by simpa using k15
 clear f
 go_wp2_with fail
 go_ret
 exact ⟨ret_i HE.out.symm, HB2.out⟩
set_option maxHeartbeats 2000000 in
theorem check_4 {w : World} {cs : List Value} {h : ExHead} {dk dn : Int} {ds : ByteArray} {dA : Option Addr} {dl dc : Nat} {An : Option Addr} {nl nc : Nat} {Aa : Option Addr} {al ac : Nat} {As : Option Addr} {sl sc : Nat} {scope : List ByteArray} {olds : Int} {n : Nat} {args : List (Tr n)} (hx : ExC enc w cs h dk dn ds dA dl dc An nl nc Aa al ac) (hm : CMaps w) (hs : zt w As sl scope) (hsl : sl <= sc) (hsc : sc <= maxLen) (ho : 0 <= olds /\ olds <= 9223372036854775807) (hxa : args.length = al) (f : Fine (n := n) (h, args) scope) (hk0 : h.kind = 4) (hrow : 0 < al -> ∃ b o, Aa = some ⟨b, o, none⟩ /\ b < w.heap.size /\ ∀ i, (hi : i < args.length) -> ∃ cs', cs'.length = 9 /\ RowAt w b (o + i * 9) cs' /\ ExAt enc w n cs' args[i]) (ih : CheckSays enc n) (h40 : sl <= 40) : CheckIs w cs As sl sc olds (exprF (n + 1) (h, args) scope olds) := by
 have HF := Lib.hid f
 have HROW := Lib.hid hrow
 have HIH := Lib.hid ih
 clear hrow ih
 have hal : al <= 9223372036854775807 := by have := hx.ale; have := hx.acap; unfold maxLen at this; omega
 obtain ⟨k, df, S, N, names⟩ := h
 simp only at hk0
 subst hk0
 have hcb := f.count
 have hnb := f.named
 have hk : ¬ ((4 : Int) < 1 \/ 15 < (4 : Int)) := by decide
 simp only [hxa] at hcb hnb
 have HNB := Lib.hid hnb
 clear hnb
 have hx0 := hx
 obtain ⟨rfl, hkr, hnr, hS, hdf, hns, hes, hn1, hn2, ha1, ha2⟩ := hx
 obtain ⟨v, hv⟩ : ∃ v, argsN 4 = v := ⟨_, rfl⟩
 have hv2 : v ≠ -2 := by rw [<- hv]; exact argsN_ne hk
 have HX := Lib.hid hx0
 have HV := Lib.hid hv
 have HK := Lib.hid hk
 have HM := Lib.hid hm
 have HS := Lib.hid hs
 have HCB := Lib.hid hcb
 clear hk hm hs hns hes hdf hx0 hv hcb
 unfold CheckIs
 go_enter Tryz.func30, Tryz.ntmps30
 go_wp2_with fail
 refine (args_is _ _ v HV.out).mono ?_
 rintro e w1 ⟨rfl, rfl⟩
 go_wp2_with fail
 refine (counted_any (HX.out.below ((Below.refl _ _).alloc (Nat.le_refl _) _)) (HM.out.below ((Below.refl _ _).alloc (Nat.le_refl _) _)) HK.out).mono ?_
 rintro e w1 ⟨rfl, hb1⟩
 rw [HCB.out]
 have HB1 := Lib.hid (box_below hb1)
 have hs1 : w.heap.size < w1.heap.size := Nat.lt_of_lt_of_le (by simp) hb1.size
 have c0 : w1.cell? ⟨w.heap.size, 0, none⟩ = some (.int .i64 4) := box_cell hb1 rfl
 have c1 : w1.cell? ⟨w.heap.size, 1, none⟩ = some (.int .i64 dk) := box_cell hb1 rfl
 have c2 : w1.cell? ⟨w.heap.size, 2, none⟩ = some (.int .i64 dn) := box_cell hb1 rfl
 have c3 : w1.cell? ⟨w.heap.size, 3, none⟩ = some (.string ds) := box_cell hb1 rfl
 have c4 : w1.cell? ⟨w.heap.size, 4, none⟩ = some (.slice dA dl dc) := box_cell hb1 rfl
 have c5 : w1.cell? ⟨w.heap.size, 5, none⟩ = some (.string S) := box_cell hb1 rfl
 have c6 : w1.cell? ⟨w.heap.size, 6, none⟩ = some (.int .i64 N) := box_cell hb1 rfl
 have c7 : w1.cell? ⟨w.heap.size, 7, none⟩ = some (.slice An nl nc) := box_cell hb1 rfl
 have c8 : w1.cell? ⟨w.heap.size, 8, none⟩ = some (.slice Aa al ac) := box_cell hb1 rfl
 clear hb1
 go_wp2_with fail
 refine (named_any (HX.out.below HB1.out) (HM.out.below HB1.out) (HS.out.below HB1.out) hsl hsc HK.out).mono ?_
 rintro e w2 ⟨rfl, hb2⟩
 rw [HNB.out]
 have HB2 := Lib.hid (HB1.out.trans (hb2.mono HB1.out.size))
 have hs2 : w.heap.size < w2.heap.size := Nat.lt_of_lt_of_le hs1 hb2.size
 have d0 : w2.cell? ⟨w.heap.size, 0, none⟩ = some (.int .i64 4) := (hb2.cell (p := ⟨w.heap.size, 0, none⟩) hs1).trans c0
 have d1 : w2.cell? ⟨w.heap.size, 1, none⟩ = some (.int .i64 dk) := (hb2.cell (p := ⟨w.heap.size, 1, none⟩) hs1).trans c1
 have d2 : w2.cell? ⟨w.heap.size, 2, none⟩ = some (.int .i64 dn) := (hb2.cell (p := ⟨w.heap.size, 2, none⟩) hs1).trans c2
 have d3 : w2.cell? ⟨w.heap.size, 3, none⟩ = some (.string ds) := (hb2.cell (p := ⟨w.heap.size, 3, none⟩) hs1).trans c3
 have d4 : w2.cell? ⟨w.heap.size, 4, none⟩ = some (.slice dA dl dc) := (hb2.cell (p := ⟨w.heap.size, 4, none⟩) hs1).trans c4
 have d5 : w2.cell? ⟨w.heap.size, 5, none⟩ = some (.string S) := (hb2.cell (p := ⟨w.heap.size, 5, none⟩) hs1).trans c5
 have d6 : w2.cell? ⟨w.heap.size, 6, none⟩ = some (.int .i64 N) := (hb2.cell (p := ⟨w.heap.size, 6, none⟩) hs1).trans c6
 have d7 : w2.cell? ⟨w.heap.size, 7, none⟩ = some (.slice An nl nc) := (hb2.cell (p := ⟨w.heap.size, 7, none⟩) hs1).trans c7
 have d8 : w2.cell? ⟨w.heap.size, 8, none⟩ = some (.slice Aa al ac) := (hb2.cell (p := ⟨w.heap.size, 8, none⟩) hs1).trans c8
 clear hb2 c0 c1 c2 c3 c4 c5 c6 c7 c8
 have ho0 : 0 <= olds := ho.1
 have OWN := Lib.hid (show Own (n := n) (⟨4, df, S, N, names⟩, args) scope olds from ⟨f, by simp, by simp⟩)
 clear f
 go_wp2_with fail
 go_loopg [72] al (fun g i wr => ∃ j : Nat, g = al - j /\ j <= al /\ i = .int .i64 j /\ wr.cell? ⟨w.heap.size, 0, none⟩ = some (.int .i64 4) /\ wr.cell? ⟨w.heap.size, 8, none⟩ = some (.slice Aa al ac) /\ w.heap.size < wr.heap.size /\ Below w.heap.size w wr /\ ∀ i, (hi : i < args.length) -> i < j -> argF (n := n) (⟨4, df, S, N, names⟩, args) scope olds i hi = 0)
 case atStart => exact ⟨0, by omega, by omega, rfl, d0, d8, hs2, HB2.out, fun i hi h => absurd h (by omega)⟩
 case round =>
  obtain ⟨j, hg, hj, rfl, e0, e8, hs3, hb, hall⟩ := hrel
  have HG := Lib.hid hg
  have HALL := Lib.hid hall
  have HB := Lib.hid hb
  have hsz := hb.size
  clear hg hall hb
  by_cases hlt : j < al
  ·
   obtain ⟨b, o, rfl, hbw, hr⟩ := HROW.out (by omega)
   obtain ⟨cs', hl', hrj, hex⟩ := hr j (by rw [hxa]; exact hlt)
   obtain ⟨q0, q1, q2, q3, q4a, q4, q4c, q5, q6, q7a, q7, q7c, q8a, q8, q8c, rfl⟩ := hex.cells
   have HEX := Lib.hid (hex.below HB.out)
   have r0 : wr.cell? ⟨b, o + j * 9, none⟩ = some (.int .i64 q0) := (HB.out.cell (p := ⟨b, o + j * 9, none⟩) hbw).trans (by simpa using hrj 0 (by simp))
   have r1 : wr.cell? ⟨b, o + j * 9 + 1, none⟩ = some (.int .i64 q1) := (HB.out.cell (p := ⟨b, o + j * 9 + 1, none⟩) hbw).trans (by simpa using hrj 1 (by simp))
   have r2 : wr.cell? ⟨b, o + j * 9 + 2, none⟩ = some (.int .i64 q2) := (HB.out.cell (p := ⟨b, o + j * 9 + 2, none⟩) hbw).trans (by simpa using hrj 2 (by simp))
   have r3 : wr.cell? ⟨b, o + j * 9 + 3, none⟩ = some (.string q3) := (HB.out.cell (p := ⟨b, o + j * 9 + 3, none⟩) hbw).trans (by simpa using hrj 3 (by simp))
   have r4 : wr.cell? ⟨b, o + j * 9 + 4, none⟩ = some (.slice q4a q4 q4c) := (HB.out.cell (p := ⟨b, o + j * 9 + 4, none⟩) hbw).trans (by simpa using hrj 4 (by simp))
   have r5 : wr.cell? ⟨b, o + j * 9 + 5, none⟩ = some (.string q5) := (HB.out.cell (p := ⟨b, o + j * 9 + 5, none⟩) hbw).trans (by simpa using hrj 5 (by simp))
   have r6 : wr.cell? ⟨b, o + j * 9 + 6, none⟩ = some (.int .i64 q6) := (HB.out.cell (p := ⟨b, o + j * 9 + 6, none⟩) hbw).trans (by simpa using hrj 6 (by simp))
   have r7 : wr.cell? ⟨b, o + j * 9 + 7, none⟩ = some (.slice q7a q7 q7c) := (HB.out.cell (p := ⟨b, o + j * 9 + 7, none⟩) hbw).trans (by simpa using hrj 7 (by simp))
   have r8 : wr.cell? ⟨b, o + j * 9 + 8, none⟩ = some (.slice q8a q8 q8c) := (HB.out.cell (p := ⟨b, o + j * 9 + 8, none⟩) hbw).trans (by simpa using hrj 8 (by simp))
   clear hrj hex hr
   have hjx : j < args.length := by rw [hxa]; exact hlt
   obtain ⟨ev, hev⟩ : ∃ ev, exprF n args[j] scope olds = ev := ⟨_, rfl⟩
   have hav : argF (n := n) (⟨4, df, S, N, names⟩, args) scope olds j hjx = ev := by rw [<- hev]; simp [argF, inB2]
   have HEV := Lib.hid hev
   have HAV := Lib.hid hav
   clear hev hav
   by_cases hz : ev = 0
   all_goals
    go_wp2_with fail
    refine (HIH.out _ _ _ As sl sc scope olds (HEX.out.below ((Below.refl _ _).alloc (Nat.le_refl _) _)) (HM.out.below (HB.out.alloc HB.out.size _)) (HS.out.below (HB.out.alloc HB.out.size _)) h40 hsl hsc ho).mono ?_
    rintro e w3 ⟨rfl, hb3⟩
    rw [HEV.out]
    have HB3 := Lib.hid ((HB.out.alloc HB.out.size _).trans (hb3.mono (Nat.le_trans HB.out.size (by simp))))
    have g0 : w3.cell? ⟨w.heap.size, 0, none⟩ = some (.int .i64 4) := ((box_below hb3).cell (p := ⟨w.heap.size, 0, none⟩) hs3).trans e0
    have g8 : w3.cell? ⟨w.heap.size, 8, none⟩ = some (.slice (some ⟨b, o, none⟩) al ac) := ((box_below hb3).cell (p := ⟨w.heap.size, 8, none⟩) hs3).trans e8
    have hs4 : w.heap.size < w3.heap.size := Nat.lt_of_lt_of_le hs3 (Nat.le_trans (by simp) hb3.size)
    clear hb3
    go_wp2_with fail
   ·
    subst hz
    go_roundg (al - (j + 1))
    case measure => have := HG.out; omega
    case rel =>
     refine ⟨j + 1, rfl, hlt, rfl, g0, g8, hs4, HB3.out, fun i hi hij => ?_⟩
     by_cases hji : i = j
     ·
      subst hji; exact HAV.out
     exact HALL.out i hi (by omega)
   go_ret
   exact ⟨ret_i (by rw [exprF_at OWN.out hjx (fun i hi => HALL.out i _ hi) (by rw [HAV.out]; exact hz), HAV.out]), HB3.out⟩
  ·
   obtain rfl : j = al := by omega
   go_wp2_with fail
   go_ret
   exact ⟨ret_i (exprF_zero OWN.out fun i hi => HALL.out i hi (by rw [<- hxa]; exact hi)).symm, HB.out⟩
set_option maxHeartbeats 2000000 in
theorem check_10 {w : World} {cs : List Value} {h : ExHead} {dk dn : Int} {ds : ByteArray} {dA : Option Addr} {dl dc : Nat} {An : Option Addr} {nl nc : Nat} {Aa : Option Addr} {al ac : Nat} {As : Option Addr} {sl sc : Nat} {scope : List ByteArray} {olds : Int} {n : Nat} {args : List (Tr n)} (hx : ExC enc w cs h dk dn ds dA dl dc An nl nc Aa al ac) (hm : CMaps w) (hs : zt w As sl scope) (hsl : sl <= sc) (hsc : sc <= maxLen) (ho : 0 <= olds /\ olds <= 9223372036854775807) (hxa : args.length = al) (f : Fine (n := n) (h, args) scope) (hk0 : h.kind = 10) (hrow : 0 < al -> ∃ b o, Aa = some ⟨b, o, none⟩ /\ b < w.heap.size /\ ∀ i, (hi : i < args.length) -> ∃ cs', cs'.length = 9 /\ RowAt w b (o + i * 9) cs' /\ ExAt enc w n cs' args[i]) (ih : CheckSays enc n) (h40 : sl <= 40) : CheckIs w cs As sl sc olds (exprF (n + 1) (h, args) scope olds) := by
 have HF := Lib.hid f
 have HROW := Lib.hid hrow
 have HIH := Lib.hid ih
 clear hrow ih
 have hal : al <= 9223372036854775807 := by have := hx.ale; have := hx.acap; unfold maxLen at this; omega
 obtain ⟨k, df, S, N, names⟩ := h
 simp only at hk0
 subst hk0
 have hcb := f.count
 have hnb := f.named
 have hk : ¬ ((10 : Int) < 1 \/ 15 < (10 : Int)) := by decide
 simp only [hxa] at hcb hnb
 have HNB := Lib.hid hnb
 clear hnb
 have hx0 := hx
 obtain ⟨rfl, hkr, hnr, hS, hdf, hns, hes, hn1, hn2, ha1, ha2⟩ := hx
 obtain ⟨v, hv⟩ : ∃ v, argsN 10 = v := ⟨_, rfl⟩
 have hv2 : v ≠ -2 := by rw [<- hv]; exact argsN_ne hk
 have HX := Lib.hid hx0
 have HV := Lib.hid hv
 have HK := Lib.hid hk
 have HM := Lib.hid hm
 have HS := Lib.hid hs
 have HCB := Lib.hid hcb
 clear hk hm hs hns hes hdf hx0 hv hcb
 unfold CheckIs
 go_enter Tryz.func30, Tryz.ntmps30
 go_wp2_with fail
 refine (args_is _ _ v HV.out).mono ?_
 rintro e w1 ⟨rfl, rfl⟩
 go_wp2_with fail
 refine (counted_any (HX.out.below ((Below.refl _ _).alloc (Nat.le_refl _) _)) (HM.out.below ((Below.refl _ _).alloc (Nat.le_refl _) _)) HK.out).mono ?_
 rintro e w1 ⟨rfl, hb1⟩
 rw [HCB.out]
 have HB1 := Lib.hid (box_below hb1)
 have hs1 : w.heap.size < w1.heap.size := Nat.lt_of_lt_of_le (by simp) hb1.size
 have c0 : w1.cell? ⟨w.heap.size, 0, none⟩ = some (.int .i64 10) := box_cell hb1 rfl
 have c1 : w1.cell? ⟨w.heap.size, 1, none⟩ = some (.int .i64 dk) := box_cell hb1 rfl
 have c2 : w1.cell? ⟨w.heap.size, 2, none⟩ = some (.int .i64 dn) := box_cell hb1 rfl
 have c3 : w1.cell? ⟨w.heap.size, 3, none⟩ = some (.string ds) := box_cell hb1 rfl
 have c4 : w1.cell? ⟨w.heap.size, 4, none⟩ = some (.slice dA dl dc) := box_cell hb1 rfl
 have c5 : w1.cell? ⟨w.heap.size, 5, none⟩ = some (.string S) := box_cell hb1 rfl
 have c6 : w1.cell? ⟨w.heap.size, 6, none⟩ = some (.int .i64 N) := box_cell hb1 rfl
 have c7 : w1.cell? ⟨w.heap.size, 7, none⟩ = some (.slice An nl nc) := box_cell hb1 rfl
 have c8 : w1.cell? ⟨w.heap.size, 8, none⟩ = some (.slice Aa al ac) := box_cell hb1 rfl
 clear hb1
 go_wp2_with fail
 refine (named_any (HX.out.below HB1.out) (HM.out.below HB1.out) (HS.out.below HB1.out) hsl hsc HK.out).mono ?_
 rintro e w2 ⟨rfl, hb2⟩
 rw [HNB.out]
 have HB2 := Lib.hid (HB1.out.trans (hb2.mono HB1.out.size))
 have hs2 : w.heap.size < w2.heap.size := Nat.lt_of_lt_of_le hs1 hb2.size
 have d0 : w2.cell? ⟨w.heap.size, 0, none⟩ = some (.int .i64 10) := (hb2.cell (p := ⟨w.heap.size, 0, none⟩) hs1).trans c0
 have d1 : w2.cell? ⟨w.heap.size, 1, none⟩ = some (.int .i64 dk) := (hb2.cell (p := ⟨w.heap.size, 1, none⟩) hs1).trans c1
 have d2 : w2.cell? ⟨w.heap.size, 2, none⟩ = some (.int .i64 dn) := (hb2.cell (p := ⟨w.heap.size, 2, none⟩) hs1).trans c2
 have d3 : w2.cell? ⟨w.heap.size, 3, none⟩ = some (.string ds) := (hb2.cell (p := ⟨w.heap.size, 3, none⟩) hs1).trans c3
 have d4 : w2.cell? ⟨w.heap.size, 4, none⟩ = some (.slice dA dl dc) := (hb2.cell (p := ⟨w.heap.size, 4, none⟩) hs1).trans c4
 have d5 : w2.cell? ⟨w.heap.size, 5, none⟩ = some (.string S) := (hb2.cell (p := ⟨w.heap.size, 5, none⟩) hs1).trans c5
 have d6 : w2.cell? ⟨w.heap.size, 6, none⟩ = some (.int .i64 N) := (hb2.cell (p := ⟨w.heap.size, 6, none⟩) hs1).trans c6
 have d7 : w2.cell? ⟨w.heap.size, 7, none⟩ = some (.slice An nl nc) := (hb2.cell (p := ⟨w.heap.size, 7, none⟩) hs1).trans c7
 have d8 : w2.cell? ⟨w.heap.size, 8, none⟩ = some (.slice Aa al ac) := (hb2.cell (p := ⟨w.heap.size, 8, none⟩) hs1).trans c8
 clear hb2 c0 c1 c2 c3 c4 c5 c6 c7 c8
 have ho0 : 0 <= olds := ho.1
 have OWN := Lib.hid (show Own (n := n) (⟨10, df, S, N, names⟩, args) scope olds from ⟨f, by simp, by simp⟩)
 clear f
 go_wp2_with fail
 go_loopg [72] al (fun g i wr => ∃ j : Nat, g = al - j /\ j <= al /\ i = .int .i64 j /\ wr.cell? ⟨w.heap.size, 0, none⟩ = some (.int .i64 10) /\ wr.cell? ⟨w.heap.size, 8, none⟩ = some (.slice Aa al ac) /\ w.heap.size < wr.heap.size /\ Below w.heap.size w wr /\ ∀ i, (hi : i < args.length) -> i < j -> argF (n := n) (⟨10, df, S, N, names⟩, args) scope olds i hi = 0)
 case atStart => exact ⟨0, by omega, by omega, rfl, d0, d8, hs2, HB2.out, fun i hi h => absurd h (by omega)⟩
 case round =>
  obtain ⟨j, hg, hj, rfl, e0, e8, hs3, hb, hall⟩ := hrel
  have HG := Lib.hid hg
  have HALL := Lib.hid hall
  have HB := Lib.hid hb
  have hsz := hb.size
  clear hg hall hb
  by_cases hlt : j < al
  ·
   obtain ⟨b, o, rfl, hbw, hr⟩ := HROW.out (by omega)
   obtain ⟨cs', hl', hrj, hex⟩ := hr j (by rw [hxa]; exact hlt)
   obtain ⟨q0, q1, q2, q3, q4a, q4, q4c, q5, q6, q7a, q7, q7c, q8a, q8, q8c, rfl⟩ := hex.cells
   have HEX := Lib.hid (hex.below HB.out)
   have r0 : wr.cell? ⟨b, o + j * 9, none⟩ = some (.int .i64 q0) := (HB.out.cell (p := ⟨b, o + j * 9, none⟩) hbw).trans (by simpa using hrj 0 (by simp))
   have r1 : wr.cell? ⟨b, o + j * 9 + 1, none⟩ = some (.int .i64 q1) := (HB.out.cell (p := ⟨b, o + j * 9 + 1, none⟩) hbw).trans (by simpa using hrj 1 (by simp))
   have r2 : wr.cell? ⟨b, o + j * 9 + 2, none⟩ = some (.int .i64 q2) := (HB.out.cell (p := ⟨b, o + j * 9 + 2, none⟩) hbw).trans (by simpa using hrj 2 (by simp))
   have r3 : wr.cell? ⟨b, o + j * 9 + 3, none⟩ = some (.string q3) := (HB.out.cell (p := ⟨b, o + j * 9 + 3, none⟩) hbw).trans (by simpa using hrj 3 (by simp))
   have r4 : wr.cell? ⟨b, o + j * 9 + 4, none⟩ = some (.slice q4a q4 q4c) := (HB.out.cell (p := ⟨b, o + j * 9 + 4, none⟩) hbw).trans (by simpa using hrj 4 (by simp))
   have r5 : wr.cell? ⟨b, o + j * 9 + 5, none⟩ = some (.string q5) := (HB.out.cell (p := ⟨b, o + j * 9 + 5, none⟩) hbw).trans (by simpa using hrj 5 (by simp))
   have r6 : wr.cell? ⟨b, o + j * 9 + 6, none⟩ = some (.int .i64 q6) := (HB.out.cell (p := ⟨b, o + j * 9 + 6, none⟩) hbw).trans (by simpa using hrj 6 (by simp))
   have r7 : wr.cell? ⟨b, o + j * 9 + 7, none⟩ = some (.slice q7a q7 q7c) := (HB.out.cell (p := ⟨b, o + j * 9 + 7, none⟩) hbw).trans (by simpa using hrj 7 (by simp))
   have r8 : wr.cell? ⟨b, o + j * 9 + 8, none⟩ = some (.slice q8a q8 q8c) := (HB.out.cell (p := ⟨b, o + j * 9 + 8, none⟩) hbw).trans (by simpa using hrj 8 (by simp))
   clear hrj hex hr
   have hjx : j < args.length := by rw [hxa]; exact hlt
   obtain ⟨ev, hev⟩ : ∃ ev, exprF n args[j] scope olds = ev := ⟨_, rfl⟩
   have hav : argF (n := n) (⟨10, df, S, N, names⟩, args) scope olds j hjx = ev := by rw [<- hev]; simp [argF, inB2]
   have HEV := Lib.hid hev
   have HAV := Lib.hid hav
   clear hev hav
   by_cases hz : ev = 0
   all_goals
    go_wp2_with fail
    refine (HIH.out _ _ _ As sl sc scope olds (HEX.out.below ((Below.refl _ _).alloc (Nat.le_refl _) _)) (HM.out.below (HB.out.alloc HB.out.size _)) (HS.out.below (HB.out.alloc HB.out.size _)) h40 hsl hsc ho).mono ?_
    rintro e w3 ⟨rfl, hb3⟩
    rw [HEV.out]
    have HB3 := Lib.hid ((HB.out.alloc HB.out.size _).trans (hb3.mono (Nat.le_trans HB.out.size (by simp))))
    have g0 : w3.cell? ⟨w.heap.size, 0, none⟩ = some (.int .i64 10) := ((box_below hb3).cell (p := ⟨w.heap.size, 0, none⟩) hs3).trans e0
    have g8 : w3.cell? ⟨w.heap.size, 8, none⟩ = some (.slice (some ⟨b, o, none⟩) al ac) := ((box_below hb3).cell (p := ⟨w.heap.size, 8, none⟩) hs3).trans e8
    have hs4 : w.heap.size < w3.heap.size := Nat.lt_of_lt_of_le hs3 (Nat.le_trans (by simp) hb3.size)
    clear hb3
    go_wp2_with fail
   ·
    subst hz
    go_roundg (al - (j + 1))
    case measure => have := HG.out; omega
    case rel =>
     refine ⟨j + 1, rfl, hlt, rfl, g0, g8, hs4, HB3.out, fun i hi hij => ?_⟩
     by_cases hji : i = j
     ·
      subst hji; exact HAV.out
     exact HALL.out i hi (by omega)
   go_ret
   exact ⟨ret_i (by rw [exprF_at OWN.out hjx (fun i hi => HALL.out i _ hi) (by rw [HAV.out]; exact hz), HAV.out]), HB3.out⟩
  ·
   obtain rfl : j = al := by omega
   go_wp2_with fail
   go_ret
   exact ⟨ret_i (exprF_zero OWN.out fun i hi => HALL.out i hi (by rw [<- hxa]; exact hi)).symm, HB.out⟩
end
/- Contract of code.check at every expression; of code.Check and code.CheckMove. -/
set_option maxRecDepth 20000
section
variable {H : Type} {enc : TypeId × Value -> H}
theorem codecheck_any : (n : Nat) -> CheckSays enc n
 | 0 => fun w cs x As sl sc scope olds hx => hx.elim
 | n + 1 => by
  intro w cs x As sl sc scope olds hx hm hs h40 hsl hsc ho
  have ih := codecheck_any n
  obtain ⟨dk, dn, ds, dA, dl, dc, An, nl, nc, Aa, al, ac, h1, h2, h3⟩ := hx
  obtain ⟨h, args⟩ := x
  by_cases hk : h.kind < 1 \/ 15 < h.kind
  ·
   rw [exprF_kind (n := n) (x := (h, args)) hk]
   exact check_kind_ h1 hm hs hsl hsc hk
  cases hc : countB h.kind al h.S h.names
  ·
   have hc' : countB h.kind args.length h.S h.names = false := by
    have : args.length = al := h2
    rw [this]; exact hc
   rw [exprF_count (n := n) (x := (h, args)) hk hc']
   exact check_count_ h1 hm hs hsl hsc hk hc
  have hc' : countB h.kind args.length h.S h.names = true := by
   have : args.length = al := h2
   rw [this]; exact hc
  cases hn : namedB h.kind h.N h.S h.names scope
  ·
   rw [exprF_named (n := n) (x := (h, args)) hk hc' hn]
   exact check_named_ h1 hm hs hsl hsc hk hc hn
  have f : Fine (n := n) (h, args) scope := ⟨hk, hc', hn⟩
  rcases kinds hk with hk0 | hk0 | hk0 | hk0 | hk0 | hk0 | hk0 | hk0 | hk0 | hk0 | hk0 | hk0 | hk0 | hk0 | hk0
  ·
   exact check_1 h1 hm hs hsl hsc ho h2 f hk0
  ·
   exact check_pure h1 hm hs hsl hsc ho h2 f hk (by omega)
  ·
   exact check_pure h1 hm hs hsl hsc ho h2 f hk (by omega)
  ·
   exact check_4 h1 hm hs hsl hsc ho h2 f hk0 h3 ih h40
  ·
   exact check_pure h1 hm hs hsl hsc ho h2 f hk (by omega)
  ·
   exact check_pure h1 hm hs hsl hsc ho h2 f hk (by omega)
  ·
   exact check_pure h1 hm hs hsl hsc ho h2 f hk (by omega)
  ·
   exact check_pure h1 hm hs hsl hsc ho h2 f hk (by omega)
  ·
   exact check_pure h1 hm hs hsl hsc ho h2 f hk (by omega)
  ·
   exact check_10 h1 hm hs hsl hsc ho h2 f hk0 h3 ih h40
  ·
   exact check_pure h1 hm hs hsl hsc ho h2 f hk (by omega)
  ·
   exact check_pure h1 hm hs hsl hsc ho h2 f hk (by omega)
  ·
   exact check_pure h1 hm hs hsl hsc ho h2 f hk (by omega)
  ·
   exact check_pure h1 hm hs hsl hsc ho h2 f hk (by omega)
  exact check_15 h1 hm hs hsl hsc ho h2 f hk0
theorem strs_nil (w : World) : zt w none 0 [] := ⟨rfl, fun h => absurd h (by omega)⟩
set_option maxHeartbeats 400000 in
theorem codeCheckMove_any {n : Nat} {w : World} {cs : List Value} {x : Tr n} (hx : ExAt enc w n cs x) (hm : CMaps w) (olds : Int) (ho : -9223372036854775808 <= olds /\ olds <= 9223372036854775807) :
  Calls Tryz.prog 12 #[.agg cs.toArray, .int .i64 olds] w fun e w' => e = .returned (.int .i64 (if olds < 0 \/ 6 < olds then 2 else exprF n x [] olds)) /\ Below w.heap.size w w' := by
 obtain ⟨k, dk, dn, ds, dA, dl, dc, S, N, An, nl, nc, Aa, al, ac, rfl⟩ := hx.cells
 have HX := Lib.hid hx
 have HM := Lib.hid hm
 clear hx hm
 have HW := Lib.hid ((Below.refl w.heap.size w).alloc (Nat.le_refl _) (.cells #[.int .i64 k, .int .i64 dk, .int .i64 dn, .string ds, .slice dA dl dc, .string S, .int .i64 N, .slice An nl nc, .slice Aa al ac] 28))
 obtain ⟨v, hv⟩ : ∃ v, (if olds < 0 \/ 6 < olds then 2 else exprF n x [] olds) = v := ⟨_, rfl⟩
 rw [hv]
 by_cases h0 : olds < 0
 ·
  obtain rfl : 2 = v := by rw [<- hv, if_pos (Or.inl h0)]
  clear hv
  go_enter Tryz.func12, Tryz.ntmps12
  go_wp2_with fail
  go_ret
  exact ⟨rfl, HW.out⟩
 by_cases h6 : 6 < olds
 ·
  obtain rfl : 2 = v := by rw [<- hv, if_pos (Or.inr h6)]
  clear hv
  go_enter Tryz.func12, Tryz.ntmps12
  go_wp2_with fail
  go_ret
  exact ⟨rfl, HW.out⟩
 have HV := Lib.hid (show exprF n x [] olds = v by rw [<- hv, if_neg (by omega)])
 clear hv
 go_enter Tryz.func12, Tryz.ntmps12
 go_wp2_with fail
 refine (codecheck_any n _ _ x none 0 0 [] olds (HX.out.below HW.out) (HM.out.below HW.out) (strs_nil _) (by omega) (by omega) (by unfold maxLen; omega) (by omega)).mono ?_
 rintro e w1 ⟨rfl, hb1⟩
 have HB1 := Lib.hid (HW.out.trans (hb1.mono HW.out.size))
 clear hb1
 rw [HV.out]
 go_wp2_with fail
 go_ret
 exact ⟨rfl, HB1.out⟩
end
end Go.Proofs.YtfhbdlobhjegcaaGreatDoor
