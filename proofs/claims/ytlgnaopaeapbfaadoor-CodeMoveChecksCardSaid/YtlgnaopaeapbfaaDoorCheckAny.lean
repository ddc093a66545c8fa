/- Contract of code.check at every expression; of code.Check and code.CheckMove. -/
import Derived.Test.YtlgnaopaeapbfaaDoorCodeCheck2
namespace Go.Proofs.YtlgnaopaeapbfaaDoor
open Go.RowKit Go.ChangeShapes Go.WideShapes Go.Deep Go.ChangeAt
set_option linter.unusedVariables false

section
variable {H : Type} {enc : TypeId × Value → H}

theorem codecheck_any : (n : Nat) → CheckSays enc n
  | 0 => fun w cs x As sl sc scope olds hx => hx.elim
  | n + 1 => by
    intro w cs x As sl sc scope olds hx hm hs h40 hsl hsc ho
    have ih := codecheck_any n
    obtain ⟨dk, dn, ds, dA, dl, dc, An, nl, nc, Aa, al, ac, h1, h2, h3⟩ := hx
    obtain ⟨h, args⟩ := x
    by_cases hk : h.kind < 1 ∨ 15 < h.kind
    · rw [exprF_kind (n := n) (x := (h, args)) hk]
      exact check_kind_ h1 hm hs hsl hsc hk
    cases hc : countB h.kind al h.S h.names
    · have hc' : countB h.kind args.length h.S h.names = false := by
        have : args.length = al := h2
        rw [this]; exact hc
      rw [exprF_count (n := n) (x := (h, args)) hk hc']
      exact check_count_ h1 hm hs hsl hsc hk hc
    have hc' : countB h.kind args.length h.S h.names = true := by
      have : args.length = al := h2
      rw [this]; exact hc
    cases hn : namedB h.kind h.N h.S h.names scope
    · rw [exprF_named (n := n) (x := (h, args)) hk hc' hn]
      exact check_named_ h1 hm hs hsl hsc hk hc hn
    have f : Fine (n := n) (h, args) scope := ⟨hk, hc', hn⟩
    rcases kinds hk with hk0 | hk0 | hk0 | hk0 | hk0 | hk0 | hk0 | hk0 | hk0 | hk0 | hk0 | hk0 | hk0 | hk0 | hk0
    · exact check_1 h1 hm hs hsl hsc ho h2 f hk0
    · exact check_2 h1 hm hs hsl hsc ho h2 f hk0 h3 ih h40
    · exact check_3 h1 hm hs hsl hsc ho h2 f hk0 h3 ih h40
    · exact check_4 h1 hm hs hsl hsc ho h2 f hk0 h3 ih h40
    · exact check_5 h1 hm hs hsl hsc ho h2 f hk0 h3 ih h40
    · exact check_6 h1 hm hs hsl hsc ho h2 f hk0 h3 ih h40
    · exact check_7 h1 hm hs hsl hsc ho h2 f hk0 h3 ih h40
    · exact check_8 h1 hm hs hsl hsc ho h2 f hk0 h3 ih h40
    · exact check_9 h1 hm hs hsl hsc ho h2 f hk0 h3 ih h40
    · exact check_10 h1 hm hs hsl hsc ho h2 f hk0 h3 ih h40
    · exact check_11 h1 hm hs hsl hsc ho h2 f hk0 h3 ih h40
    · exact check_12 h1 hm hs hsl hsc ho h2 f hk0 h3 ih h40
    · exact check_13 h1 hm hs hsl hsc ho h2 f hk0 h3 ih h40
    · exact check_14 h1 hm hs hsl hsc ho h2 f hk0 h3 ih h40
    · exact check_15 h1 hm hs hsl hsc ho h2 f hk0

theorem strs_nil (w : World) : StrsAt w none 0 [] := ⟨rfl, fun h => absurd h (by omega)⟩

set_option maxHeartbeats 400000 in
theorem codeCheck_any {n : Nat} {w : World} {cs : List Value} {x : Tr n} (hx : ExAt enc w n cs x) (hm : CMaps w) :
    Calls Tryd.prog 11 #[.agg cs.toArray] w fun e w' => e = .returned (.int .i64 (exprF n x [] (-1))) ∧ Below w.heap.size w w' := by
  obtain ⟨k, dk, dn, ds, dA, dl, dc, S, N, An, nl, nc, Aa, al, ac, rfl⟩ := hx.cells
  have HX := Lib.hid hx
  have HM := Lib.hid hm
  clear hx hm
  obtain ⟨v, hv⟩ : ∃ v, exprF n x [] (-1) = v := ⟨_, rfl⟩
  rw [hv]
  have HV := Lib.hid hv
  clear hv
  go_enter Tryd.func11, Tryd.ntmps11
  go_wp2_with fail
  have HW := Lib.hid ((Below.refl w.heap.size w).alloc (Nat.le_refl _) (.cells #[.int .i64 k, .int .i64 dk, .int .i64 dn, .string ds, .slice dA dl dc, .string S, .int .i64 N, .slice An nl nc, .slice Aa al ac] 38))
  refine (codecheck_any n _ _ x none 0 0 [] (-1) (HX.out.below HW.out) (HM.out.below HW.out) (strs_nil _) (by omega) (by omega) (by unfold maxLen; omega) (by omega)).mono ?_
  rintro e w1 ⟨rfl, hb1⟩
  have HB1 := Lib.hid (HW.out.trans (hb1.mono HW.out.size))
  clear hb1
  rw [HV.out]
  go_wp2_with fail
  go_ret
  exact ⟨rfl, HB1.out⟩

set_option maxHeartbeats 400000 in
theorem codeCheckMove_any {n : Nat} {w : World} {cs : List Value} {x : Tr n} (hx : ExAt enc w n cs x) (hm : CMaps w) (olds : Int) (ho : -9223372036854775808 ≤ olds ∧ olds ≤ 9223372036854775807) :
    Calls Tryd.prog 13 #[.agg cs.toArray, .int .i64 olds] w fun e w' => e = .returned (.int .i64 (if olds < 0 ∨ 6 < olds then 2 else exprF n x [] olds)) ∧ Below w.heap.size w w' := by
  obtain ⟨k, dk, dn, ds, dA, dl, dc, S, N, An, nl, nc, Aa, al, ac, rfl⟩ := hx.cells
  have HX := Lib.hid hx
  have HM := Lib.hid hm
  clear hx hm
  have HW := Lib.hid ((Below.refl w.heap.size w).alloc (Nat.le_refl _) (.cells #[.int .i64 k, .int .i64 dk, .int .i64 dn, .string ds, .slice dA dl dc, .string S, .int .i64 N, .slice An nl nc, .slice Aa al ac] 38))
  obtain ⟨v, hv⟩ : ∃ v, (if olds < 0 ∨ 6 < olds then 2 else exprF n x [] olds) = v := ⟨_, rfl⟩
  rw [hv]
  by_cases h0 : olds < 0
  · obtain rfl : 2 = v := by rw [← hv, if_pos (Or.inl h0)]
    clear hv
    go_enter Tryd.func13, Tryd.ntmps13
    go_wp2_with fail
    go_ret
    exact ⟨rfl, HW.out⟩
  by_cases h6 : 6 < olds
  · obtain rfl : 2 = v := by rw [← hv, if_pos (Or.inr h6)]
    clear hv
    go_enter Tryd.func13, Tryd.ntmps13
    go_wp2_with fail
    go_ret
    exact ⟨rfl, HW.out⟩
  have HV := Lib.hid (show exprF n x [] olds = v by rw [← hv, if_neg (by omega)])
  clear hv
  go_enter Tryd.func13, Tryd.ntmps13
  go_wp2_with fail
  refine (codecheck_any n _ _ x none 0 0 [] olds (HX.out.below HW.out) (HM.out.below HW.out) (strs_nil _) (by omega) (by omega) (by unfold maxLen; omega) ho).mono ?_
  rintro e w1 ⟨rfl, hb1⟩
  have HB1 := Lib.hid (HW.out.trans (hb1.mono HW.out.size))
  clear hb1
  rw [HV.out]
  go_wp2_with fail
  go_ret
  exact ⟨rfl, HB1.out⟩
end
end Go.Proofs.YtlgnaopaeapbfaaDoor
