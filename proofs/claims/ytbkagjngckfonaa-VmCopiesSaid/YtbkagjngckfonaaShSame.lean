/- Contracts of grafterylaw.sameShapes, slices.Grow and slices.Concat at shapes. -/
import Derived.Test.YtbkagjngckfonaaShUse
namespace Go.Proofs.Ytbkagjngckfonaa
open Go.RowKit Go.ChangeShapes Go.WideShapes Go.Deep Go.ChangeAt
set_option linter.unusedVariables false

/-- A quiet callee's contract, met behind draws. -/
theorem quiet_add {P : Program} {f : FuncId} {args : Array Value} {w : World} {a n : Nat} {v : Value}
    (h : Calls P f args (w.drewN (a + n)) fun e w' => e = .returned v ∧ ∃ m, w' = (w.drewN (a + n)).drewN m) : Calls P f args (w.drewN (a + n)) fun e w'' => e = .returned v ∧ ∃ m, w'' = w.drewN (a + m) :=
  h.mono fun _ _ ⟨he, m, hm⟩ => ⟨he, n + m, by rw [hm, World.drewN_drewN, Nat.add_assoc]⟩

set_option maxHeartbeats 2000000 in
theorem sameShapes_any (A B : Option Addr) (len c1 c2 : Nat) (X Y : List Shp) (w : World) (h1 : len ≤ c1) (h2 : len ≤ c2) (hc1 : c1 ≤ maxLen) (hc2 : c2 ≤ maxLen) (hA : ShapesAt w A len X) (hB : ShapesAt w B len Y) (hXY : X.map Shp.sh = Y.map Shp.sh) :
    Calls Try.prog 13 #[.slice A len c1, .slice B len c2] w fun e w' => e = .returned (.bool true) ∧ ∃ n, w' = w.drewN n := by
  have hlen : len ≤ 9223372036854775807 := by unfold maxLen at hc1; omega
  have HA := Lib.hid hA
  have HB := Lib.hid hB
  have HXY := Lib.hid hXY
  clear hA hB hXY
  go_enter Try.func13, Try.ntmps13
  go_wp2_with fail
  go_loopg [5] len (fun g i wx => ∃ k : Nat, g = len - k ∧ k ≤ len ∧ i = .int .i64 k ∧ ∃ n, w.drewN n = wx)
  case atStart => exact ⟨0, by omega, by omega, rfl, 0, rfl⟩
  case round =>
    obtain ⟨k, hg, hk, rfl, n, rfl⟩ := hrel
    have HG := Lib.hid hg
    clear hg
    by_cases hlt : k < len
    · obtain ⟨b, o, rfl, hbw, hrow⟩ := HA.out.at_ (by omega)
      obtain ⟨b', o', rfl, hbw', hrow'⟩ := HB.out.at_ (by omega)
      have hkx : k < X.length := by rw [HA.out.size]; exact hlt
      have hky : k < Y.length := by rw [HB.out.size]; exact hlt
      have x1 := hrow k hkx
      have x2 := hrow' k hky
      have HX := Lib.hid (HA.out.each X[k] (List.getElem_mem hkx))
      have HY := Lib.hid (HB.out.each Y[k] (List.getElem_mem hky))
      have hsh : X[k].sh = Y[k].sh := by
        have e1 : (X.map Shp.sh)[k]'(by simpa using hkx) = (Y.map Shp.sh)[k]'(by simpa using hky) := by simp only [HXY.out]
        simpa using e1
      generalize X[k] = x at x1 HX hsh
      generalize Y[k] = y at x2 HY hsh
      obtain ⟨n1, A1, l1, d1, s1⟩ := x
      obtain ⟨n2, A2, l2, d2, s2⟩ := y
      simp only [Shp.sh, Prod.mk.injEq] at hsh
      obtain ⟨rfl, rfl⟩ := hsh
      obtain rfl : l1 = l2 := HX.out.strs.size.symm.trans HY.out.strs.size
      obtain ⟨x1a, x1b⟩ := x1
      obtain ⟨x2a, x2b⟩ := x2
      simp only at x1a x1b x2a x2b
      have y1 : (k : Int) < (c1 : Int) := by omega
      have y2 : (k : Int) < (c2 : Int) := by omega
      have y3 : (0 : Int) ≤ (k : Int) := Int.natCast_nonneg _
      have y4 : (k : Int) < (len : Int) := by omega
      clear hrow hrow'
      go_wp2_with fail
      go_quiet ((go_at_call 29; exact quiet_add (sameTexts_any _ _ _ _ _ _ _ HX.out.le HY.out.le HX.out.cap_ HY.out.cap_ (HX.out.strs.drewN _) (HY.out.strs.drewN _))))
      go_wp2_with fail
      go_roundg (len - (k + 1))
      case rel => exact ⟨k + 1, rfl, by omega, by go_num, _, rfl⟩
      case measure => have := HG.out; omega
    · obtain rfl : k = len := by omega
      go_wp2_with fail
      go_ret
      exact ⟨rfl, _, rfl⟩

/-- Room for so many shapes. -/
theorem grow_any (n : Nat) (w : World) (hn : n ≤ 1099511627776) :
    Calls Try.prog 34 #[.slice none 0 0, .int .i64 n] w fun e w' => ∃ v, e = .returned v ∧ w'.ownsRow w.heap.size 69 2 v 0 [] ∧ Below w.heap.size w w' := by
  obtain ⟨i0, hi, hz0, hz1, hz2⟩ := info_parts infoShape
  by_cases h0 : n = 0
  · subst h0
    refine (Any8.slices_Grow_room Try.growE none 0 0 0 w (by omega) (by omega) (by omega) (by omega)).mono ?_
    rintro e w' ⟨rfl, rfl⟩
    exact ⟨_, rfl, World.ownsRow_nil _ _ _ _, Below.refl _ _⟩
  · have h := Any8.slices_Grow_grow Try.growE i0 _ hi hz0 (by rw [hz1]; decide) none 0 0 n [] w (by omega) (by omega) (by rw [hz2]; omega) (by omega) (by simp) (fun _ => rfl) (fun a ha => by cases ha)
    refine Calls.mono h ?_
    rintro e w' ⟨rfl, rfl⟩
    have hge := grownCap_ge w (0 + n) 0 69
    have hcm : grownCap w (0 + n) 0 69 ≤ maxLen := grownCap_le_maxLen w (0 + n) 0 _ (by unfold maxLen; omega)
    refine ⟨_, rfl, ?_, ?_⟩
    · exact World.ownsRow_made (w := w.drew) _ _ (Nat.le_refl _) hcm (by
        simp only [Array.size_append, List.size_toArray, List.length_nil, size_zeroCells]
        have hz : (Value.agg #[.string ByteArray.empty, .slice none 0 0]).cells.size = 2 := rfl
        rw [hz]
        show 0 + (0 + n - 0) * 2 + (grownCap w (0 + n) 0 (Try.growE_ren.t 25) - (0 + n)) * 2 = grownCap w (0 + n) 0 (Try.growE_ren.t 25) * 2
        have : 0 + n ≤ grownCap w (0 + n) 0 (Try.growE_ren.t 25) := hge
        omega)
    · exact ((Below.refl _ _).drew).alloc (Nat.le_refl _) _

/-- 'append(s, x...)' of shapes onto a row of the call's own. -/
theorem wpList_shapes {w : World} {ops : Array Oper} {rest : List Oper} {o : Oper} {act : Act} {Q : Exit → Act → World → Prop} (hgd : o.guard = none) (s x : Operand)
    (ho : o.op = .call { callee := .builtin .append, args := #[s, x], argTypes := #[43, 43] })
    (base : Nat) (v : Value) (n : Nat) (xs : List Value) (hs : act.eval s = v) (hown : w.ownsRow base 69 2 v n xs)
    (A : Option Addr) (m c : Nat) (X : List Shp) (hx : act.eval x = .slice A m c) (hst : ShapesAt w A m X)
    (hnm : n + m ≤ 1099511627776) (hbase : base ≤ w.heap.size)
    (h : ∀ v' w', w'.ownsRow base 69 2 v' (n + m) (xs ++ cellsL X) → Below base w w' → wpList Try.prog ops Q rest (act.put o.dst v') w') : wpList Try.prog ops Q (o :: rest) act w := by
  obtain ⟨i0, hi, hz0, hz1, hz2⟩ := info_parts infoShape
  rcases Nat.eq_zero_or_pos m with h0 | h0
  · subst h0
    have hX : X = [] := List.length_eq_zero_iff.1 hst.size
    subst hX
    refine wpList_plain hgd fun K hK => ?_
    have hr := run_append_zero (P := Try.prog) base 43 o.type 69 i0 2 Try.underlying43 hi v n xs hown A c
    unfold Oper.wp execOp
    simp only [ho, resolve, invoke, builtin, Sem.run_bind, Sem.run_pure, Result.andThen_ok, List.map_toArray, List.map_cons, List.map_nil, hs, hx, hr]
    exact hK _ _ (h v w (by simpa [cellsL] using hown) (Below.refl _ _))
  · obtain ⟨b, o', rfl, hb, hrow⟩ := hst.at_ h0
    refine wpList_append_own _ hgd s x 43 ho base 69 i0 _ 2 40 Try.underlying43 hi hz0 hz1 hz2 rfl (by decide) v n xs hs hown ⟨b, o', none⟩ m c (cellsL X) hx (by rw [cellsL_length, hst.size]) ?_ (cellsL_one _) (by unfold maxLen; omega) (by omega) hbase fun v' w' h1 h2 _ => h v' w' h1 ((Below.refl _ _).grown h2 hbase (own_from hown))
    intro j u hj
    have hjl : j < X.length * 2 := by
      have := (List.getElem?_eq_some_iff.1 hj).1
      rwa [cellsL_length] at this
    have h2 : (Addr.add ⟨b, o', none⟩ j) = ⟨b, o' + j, none⟩ := by unfold Addr.add; by_cases h0 : j = 0 <;> simp [h0]
    rw [h2]
    obtain ⟨i, hji⟩ : ∃ i, j = i * 2 ∨ j = i * 2 + 1 := ⟨j / 2, by omega⟩
    rcases hji with rfl | rfl
    · have hi2 : i < X.length := by omega
      rw [(cellsL_at X i hi2).1] at hj
      rw [← hj]
      exact (hrow i hi2).1
    · have hi2 : i < X.length := by omega
      rw [(cellsL_at X i hi2).2] at hj
      rw [← hj, ← Nat.add_assoc]
      exact (hrow i hi2).2
end Go.Proofs.Ytbkagjngckfonaa
