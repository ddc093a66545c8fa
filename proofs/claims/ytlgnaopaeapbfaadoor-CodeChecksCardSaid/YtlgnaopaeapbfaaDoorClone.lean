/- Contract of slices.Clone at []string, whatever the slice. -/
import Derived.Test.YtlgnaopaeapbfaaDoorNamed
import Derived.Test.YtlgnaopaeapbfaaDoorTexts
import Derived.Test.YtlgnaopaeapbfaaDoorShelf
namespace Go.Proofs.YtlgnaopaeapbfaaDoor
open Go.RowKit Go.ChangeShapes Go.WideShapes Go.Deep Go.ChangeAt
set_option linter.unusedVariables false

theorem clone_any (A : Option Addr) (len cap : Nat) (ss : List ByteArray) (w : World) (hs : StrsAt w A len ss) (hl : len ≤ 1099511627776) :
    Calls Tryd.prog 37 #[.slice A len cap] w fun e w' => ∃ v, e = .returned v ∧ w'.ownsRow w.heap.size 9 1 v len (ss.map Value.string) ∧ Below w.heap.size w w' := by
  rcases Nat.eq_zero_or_pos len with h0 | h0
  · subst h0
    have hss : ss = [] := List.length_eq_zero_iff.1 hs.size
    subst hss
    cases A with
    | none =>
      refine (Tryd.slices_Clone_string_nil 0 cap w).mono ?_
      rintro e w' ⟨rfl, rfl⟩
      exact ⟨_, rfl, World.ownsRow_nil _ _ _ _, Below.refl _ _⟩
    | some a =>
      refine (Tryd.slices_Clone_string_zero a cap w).mono ?_
      rintro e w' ⟨v, rfl, h1, _, h2⟩
      exact ⟨v, rfl, h1, h2⟩
  · obtain ⟨b, o, rfl, hb, hrow⟩ := hs.at_ h0
    have hsz := hs.size
    refine (Tryd.slices_Clone_string b o len cap ss w (by omega) (by omega) (fun j hj => by rw [hrow j hj]; simp [hj])).mono ?_
    rintro e w' ⟨v, rfl, h1, _, h2⟩
    rw [List.take_of_length_le (by omega)] at h1
    exact ⟨v, rfl, h1, h2⟩

/-- Nothing is appended to a row of the call's own: it stays. -/
theorem run_append_zero {w : World} {P : Program} (base : Nat) (t ty e : TypeId) (i : TypeInfo) (size : Nat) (ht : P.underlying t = some (.slice e)) (hi : P.info? e = some i)
    (v : Value) (n : Nat) (xs : List Value) (hown : w.ownsRow base e size v n xs) (A : Option Addr) (c : Nat) : (Builtin.append_ #[t, t] ty #[v, .slice A 0 c]).run P w = .ok v w := by
  rcases hown.2 with ⟨rfl, rfl⟩ | ⟨g, cap, cur, rfl, hg, hh, hr⟩
  · cases A <;> simp [Builtin.append_, run_underlying ht, sizeOf, typeInfo, hi, Builtin.lenOf, Builtin.firstCells, loadCells, loadCellsFrom]
  · cases A <;> simp [Builtin.append_, run_underlying ht, sizeOf, typeInfo, hi, Builtin.lenOf, Builtin.firstCells, loadCells, loadCellsFrom, hr.1, storeCells]

/-- 'append(s, x...)' of texts onto a row of the call's own, in a region that draws. -/
theorem step_append_strs {w : World} {ops : Array Oper} {o : Oper} {a : Act} {K : Act → World → Prop} {Q : Exit → Act → World → Prop} {E : Prop} (hgd : o.guard = none) (s x : Operand)
    (ho : o.op = .call { callee := .builtin .append, args := #[s, x], argTypes := #[22, 22] })
    (base : Nat) (v : Value) (n : Nat) (xs : List Value) (hs : a.eval s = v) (hown : w.ownsRow base 9 1 v n xs)
    (A : Option Addr) (m c : Nat) (names : List ByteArray) (hx : a.eval x = .slice A m c) (hst : StrsAt w A m names)
    (hnm : n + m ≤ 1099511627776) (hbase : base ≤ w.heap.size)
    (h : ∀ v' w', w'.ownsRow base 9 1 v' (n + m) (xs ++ names.map Value.string) → Below base w w' → K (a.put o.dst v') w') :
    if Region.wanted o (yielded ops a.tmps) = true then Oper.wp Tryd.prog o a w K Q else E := by
  have hw : Region.wanted o (yielded ops a.tmps) = true := by simp [Region.wanted, hgd]
  rw [if_pos hw]
  obtain ⟨i0, hi, hz0, hz1, hz2⟩ := info_parts infoString
  cases A with
  | none =>
    have hm : m = 0 := by
      rcases Nat.eq_zero_or_pos m with h0 | h0
      · exact h0
      · obtain ⟨b, o, hA, _⟩ := hst.at_ h0
        cases hA
    subst hm
    have hnn : names = [] := List.length_eq_zero_iff.1 hst.size
    subst hnn
    have hr := run_append_zero (P := Tryd.prog) base 22 o.type 9 i0 1 Tryd.underlying22 hi v n xs hown none c
    unfold Oper.wp execOp
    simp only [ho, resolve, invoke, builtin, Sem.run_bind, Sem.run_pure, Result.andThen_ok, List.map_toArray, List.map_cons, List.map_nil, hs, hx, hr]
    exact h v w (by simpa using hown) (Below.refl _ _)
  | some ad =>
    refine wp_append_own w s x 22 ho base 9 i0 _ 1 16 Tryd.underlying22 hi hz0 hz1 hz2 rfl (by decide) v n xs hs hown ad m c (names.map Value.string) hx (by simp [hst.size]) ?_ ?_ (by unfold maxLen; omega) (by omega) hbase fun v' w' h1 h2 _ => h v' w' h1 ((Below.refl _ _).grown h2 hbase (own_from hown))
    · intro j u hj
      have hjl : j < names.length := by
        have := List.getElem?_eq_some_iff.1 hj
        simpa using this.1
      obtain ⟨b, o', hA, hb, hrow⟩ := hst.at_ (by rw [← hst.size]; omega)
      cases hA
      have h1 := hrow j hjl
      have h2 : (Addr.add ⟨b, o', none⟩ j) = ⟨b, o' + j, none⟩ := by unfold Addr.add; by_cases h0 : j = 0 <;> simp [h0]
      rw [h2, h1]
      simpa [hjl] using hj
    · intro u hu
      obtain ⟨s', _, rfl⟩ := List.mem_map.1 hu
      rfl
end Go.Proofs.YtlgnaopaeapbfaaDoor
