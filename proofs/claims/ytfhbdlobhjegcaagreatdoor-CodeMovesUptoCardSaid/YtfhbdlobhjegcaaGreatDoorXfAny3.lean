import Derived.Test.YtfhbdlobhjegcaaGreatDoorGCheck
import Derived.Test.YtfhbdlobhjegcaaGreatDoorGXFA
import Derived.Test.YtfhbdlobhjegcaaGreatDoorXf3_B
import Derived.Test.YtfhbdlobhjegcaaGreatDoorXf3_C
import Derived.Test.YtfhbdlobhjegcaaGreatDoorXf3_D
import Derived.Test.YtfhbdlobhjegcaaGreatDoorGXFE
namespace Go.Proofs.YtfhbdlobhjegcaaGreatDoor
open Go.RowKit Go.ChangeShapes Go.WideShapes Go.Deep Go.ChangeAt
set_option linter.unusedVariables false
section
variable {H : Type} {enc : TypeId × Value -> H}
set_option maxRecDepth 100000 in
set_option maxHeartbeats 2000000 in
theorem xf_kind_ {w : World} {cs : List Value} {h : ExHead} {dk dn : Int} {ds : ByteArray} {dA : Option Addr} {dl dc : Nat} {An : Option Addr} {nl nc : Nat} {Aa : Option Addr} {al ac : Nat} {As : Option Addr} {sl sc : Nat} {olds : Int}
  (hx : ExC enc w cs h dk dn ds dA dl dc An nl nc Aa al ac) (hk : h.kind < 1 \/ 15 < h.kind) : XfIs w cs As sl sc olds 3 := by
 obtain ⟨k, df, S, N, names⟩ := h
 obtain ⟨rfl, hkr, hnr, hS, hdf, hns, hes, hn1, hn2, ha1, ha2⟩ := hx
 simp only at hk
 have h1 : (k == 1) = false := by rw [beq_eq_false_iff_ne]; omega
 have h2 : (k == 2) = false := by rw [beq_eq_false_iff_ne]; omega
 have h3 : (k == 3) = false := by rw [beq_eq_false_iff_ne]; omega
 have h4 : (k == 4) = false := by rw [beq_eq_false_iff_ne]; omega
 have h5 : (k == 5) = false := by rw [beq_eq_false_iff_ne]; omega
 have h6 : (k == 6) = false := by rw [beq_eq_false_iff_ne]; omega
 have h7 : (k == 7) = false := by rw [beq_eq_false_iff_ne]; omega
 have h8 : (k == 8) = false := by rw [beq_eq_false_iff_ne]; omega
 have h9 : (k == 9) = false := by rw [beq_eq_false_iff_ne]; omega
 have h10 : (k == 10) = false := by rw [beq_eq_false_iff_ne]; omega
 have h11 : (k == 11) = false := by rw [beq_eq_false_iff_ne]; omega
 have h12 : (k == 12) = false := by rw [beq_eq_false_iff_ne]; omega
 have h13 : (k == 13) = false := by rw [beq_eq_false_iff_ne]; omega
 have h14 : (k == 14) = false := by rw [beq_eq_false_iff_ne]; omega
 have h15 : (k == 15) = false := by rw [beq_eq_false_iff_ne]; omega
 clear hns hes hdf hk
 unfold XfIs
 go_enter Tryz.func15, Tryz.ntmps15
 go_wp2_with fail
 go_ret
 exact ⟨rfl, (Below.refl _ _).alloc (Nat.le_refl _) _⟩
theorem xf_says : (n : Nat) -> XfSays enc n
 | 0 => fun w cs x As sl sc scope olds hx => hx.elim
 | n + 1 => by
  intro w cs x As sl sc scope olds hx hs h40 hsl hsc ho
  have ih := xf_says n
  obtain ⟨dk, dn, ds, dA, dl, dc, An, nl, nc, Aa, al, ac, h1, h2, h3⟩ := hx
  obtain ⟨h, args⟩ := x
  by_cases hk : h.kind < 1 \/ 15 < h.kind
  ·
   rw [exprF_kind (n := n) (x := (h, args)) hk]
   exact xf_kind_ h1 hk
  rcases kinds hk with hk0 | hk0 | hk0 | hk0 | hk0 | hk0 | hk0 | hk0 | hk0 | hk0 | hk0 | hk0 | hk0 | hk0 | hk0
  ·
   exact xf_1 h1 hs hsl hsc ho h2 hk0 h3 ih h40
  ·
   exact xf_2 h1 hs hsl hsc ho h2 hk0 h3 ih h40
  ·
   exact xf_3 h1 hs hsl hsc ho h2 hk0 h3 ih h40
  ·
   exact xf_4 h1 hs hsl hsc ho h2 hk0 h3 ih h40
  ·
   exact xf_5 h1 hs hsl hsc ho h2 hk0 h3 ih h40
  ·
   exact xf_6 h1 hs hsl hsc ho h2 hk0 h3 ih h40
  ·
   exact xf_7 h1 hs hsl hsc ho h2 hk0 h3 ih h40
  ·
   exact xf_8 h1 hs hsl hsc ho h2 hk0 h3 ih h40
  ·
   exact xf_9 h1 hs hsl hsc ho h2 hk0 h3 ih h40
  ·
   exact xf_10 h1 hs hsl hsc ho h2 hk0 h3 ih h40
  ·
   exact xf_11 h1 hs hsl hsc ho h2 hk0 h3 ih h40
  ·
   exact xf_12 h1 hs hsl hsc ho h2 hk0 h3 ih h40
  ·
   exact xf_13 h1 hs hsl hsc ho h2 hk0 h3 ih h40
  ·
   exact xf_14 h1 hs hsl hsc ho h2 hk0 h3 ih h40
  exact xf_15 h1 hs hsl hsc ho h2 hk0 h3 ih h40
set_option maxHeartbeats 400000 in
theorem moveFault_any {n : Nat} {w : World} {cs : List Value} {x : Tr n} (hx : ExAt enc w n cs x) (olds : Int) :
  Calls Tryz.prog 5 #[.agg cs.toArray, .int .i64 olds] w fun e w' => e = .returned (.int .i64 (if olds < 0 \/ 6 < olds then 2 else exprF n x [] olds)) /\ Below w.heap.size w w' := by
 obtain ⟨k, dk, dn, ds, dA, dl, dc, S, N, An, nl, nc, Aa, al, ac, rfl⟩ := hx.cells
 have HX := Lib.hid hx
 clear hx
 have HW := Lib.hid ((Below.refl w.heap.size w).alloc (Nat.le_refl _) (.cells #[.int .i64 k, .int .i64 dk, .int .i64 dn, .string ds, .slice dA dl dc, .string S, .int .i64 N, .slice An nl nc, .slice Aa al ac] 28))
 obtain ⟨v, hv⟩ : ∃ v, (if olds < 0 \/ 6 < olds then 2 else exprF n x [] olds) = v := ⟨_, rfl⟩
 rw [hv]
 by_cases h0 : olds < 0 \/ 6 < olds
 ·
  obtain rfl : 2 = v := by rw [<- hv, if_pos h0]
  have hin := in_any olds 0 6
  rw [inB_no h0] at hin
  have HIN := Lib.hid hin
  clear hv h0 hin
  go_enter Tryz.func5, Tryz.ntmps5
  go_wp2_with fail
  refine (HIN.out _).mono ?_
  rintro e w1 ⟨rfl, rfl⟩
  go_wp2_with fail
  go_ret
  exact ⟨rfl, HW.out⟩
 have HV := Lib.hid (show exprF n x [] olds = v by rw [<- hv, if_neg h0])
 have hin := in_any olds 0 6
 rw [inB_yes (by omega)] at hin
 have HIN := Lib.hid hin
 have ho : 0 <= olds /\ olds <= 6 := by omega
 clear hv h0 hin
 go_enter Tryz.func5, Tryz.ntmps5
 go_wp2_with fail
 refine (HIN.out _).mono ?_
 rintro e w1 ⟨rfl, rfl⟩
 go_wp2_with fail
 refine (xf_says n _ _ x none 0 0 [] olds (HX.out.below HW.out) (strs_nil _) (by omega) (by omega) (by unfold maxLen; omega) ho).mono ?_
 rintro e w1 ⟨rfl, hb1⟩
 have HB1 := Lib.hid (HW.out.trans (hb1.mono HW.out.size))
 clear hb1
 rw [HV.out]
 go_wp2_with fail
 go_ret
 exact ⟨rfl, HB1.out⟩
end
end Go.Proofs.YtfhbdlobhjegcaaGreatDoor
