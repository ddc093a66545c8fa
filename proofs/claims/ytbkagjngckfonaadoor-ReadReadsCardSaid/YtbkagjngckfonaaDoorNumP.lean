/- A whole number's text, plainly: what Atoi and Itoa answer of it, and what grafteryref.wholeIn and fits64 do. -/
import Derived.Test.YtbkagjngckfonaaDoorPP
import Derived.Test.YtbkagjngckfonaaDoorDec
namespace Go.Proofs.YtbkagjngckfonaaDoor
open Go.RowKit
set_option linter.unusedVariables false

def isD (c : UInt8) : Bool := decide (48 ≤ c.toNat ∧ c.toNat ≤ 57)
def valL : List UInt8 → Nat → Nat
  | [], acc => acc
  | c :: r, acc => valL r (acc * 10 + (c.toNat - 48))
def val (acc : Nat) (l : List UInt8) : Nat := valL l acc
theorem val_nil (a : Nat) : val a [] = a := rfl
theorem val_cons (a : Nat) (c : UInt8) (r : List UInt8) : val a (c :: r) = val (a * 10 + (c.toNat - 48)) r := by
  show valL (c :: r) a = valL r (a * 10 + (c.toNat - 48))
  rw [valL]
theorem val_ge (d : List UInt8) : ∀ (acc : Nat), acc ≤ val acc d := by
  induction d with
  | nil => intro acc; exact Nat.le_refl _
  | cons c r ih =>
    intro acc
    have h1 := ih (acc * 10 + (c.toNat - 48))
    show acc ≤ val (acc * 10 + (c.toNat - 48)) r
    generalize val (acc * 10 + (c.toNat - 48)) r = x at h1 ⊢
    generalize c.toNat - 48 = y at h1
    omega
theorem val_snoc : ∀ (d : List UInt8) (c : UInt8) (acc : Nat), val acc (d ++ [c]) = val acc d * 10 + (c.toNat - 48)
  | [], c, acc => rfl
  | x :: r, c, acc => val_snoc r c _
theorem val_acc (d : List UInt8) : ∀ (acc : Nat), val acc d = acc * 10 ^ d.length + val 0 d := by
  induction d with
  | nil =>
    intro acc
    show acc = acc * 1 + 0
    omega
  | cons c r ih =>
    intro acc
    show val (acc * 10 + (c.toNat - 48)) r = acc * 10 ^ (r.length + 1) + val (0 * 10 + (c.toNat - 48)) r
    generalize c.toNat - 48 = y
    have i1 := ih (acc * 10 + y)
    have i2 := ih (0 * 10 + y)
    generalize hA : val (acc * 10 + y) r = A at i1 ⊢
    generalize hB : val (0 * 10 + y) r = B at i2 ⊢
    rw [i1, i2, Nat.pow_succ]
    clear i1 i2 hA hB
    generalize 10 ^ r.length = P
    generalize val 0 r = V
    have e : (acc * 10 + y) * P = acc * (P * 10) + y * P := by rw [Nat.add_mul, Nat.mul_assoc, Nat.mul_comm 10 P]
    rw [e, Nat.zero_mul, Nat.zero_add, Nat.add_assoc]
theorem val_lt (d : List UInt8) : (∀ c ∈ d, isD c = true) → val 0 d < 10 ^ d.length := by
  induction d with
  | nil =>
    intro _
    show 0 < 1
    omega
  | cons c r ih =>
    intro h
    have h1 := ih fun x hx => h x (by simp [hx])
    have hc : 48 ≤ c.toNat ∧ c.toNat ≤ 57 := by simpa [isD] using h c (by simp)
    show val (0 * 10 + (c.toNat - 48)) r < 10 ^ (r.length + 1)
    have hy : c.toNat - 48 ≤ 9 := by omega
    generalize c.toNat - 48 = y at hy ⊢
    have i1 := val_acc r (0 * 10 + y)
    generalize hA : val (0 * 10 + y) r = A at i1 ⊢
    rw [i1, Nat.pow_succ]
    clear i1 hA
    generalize 10 ^ r.length = P at h1 ⊢
    generalize val 0 r = V at h1 ⊢
    have h2 : (0 * 10 + y) * P ≤ 9 * P := Nat.mul_le_mul_right _ (by omega)
    omega

/-- Digits as Dec writes them. -/
def Canon (d : List UInt8) : Prop := d ≠ [] ∧ (∀ c ∈ d, isD c = true) ∧ (d.head? = some 48 → d = [48])
theorem dg8_isD {u : Nat} (hu : u < 10) : isD (dg8 u) = true := by
  unfold isD
  rw [dg8_nat hu]
  simp
  omega
theorem dec_shape (u : Nat) : Canon (Lib.decDigits u) ∧ val 0 (Lib.decDigits u) = u ∧ (1 ≤ u → (Lib.decDigits u).head? ≠ some 48) := by
  induction u using Nat.strongRecOn with
  | _ u ih =>
    by_cases h : u < 10
    · have e : Lib.decDigits u = [dg8 u] := Lib.decDigits_one h
      have hn := dg8_nat h
      rw [e]
      refine ⟨⟨by simp, ?_, ?_⟩, ?_, fun h1 hh => ?_⟩
      · intro c hc
        have : c = dg8 u := by simpa using hc
        rw [this]; exact dg8_isD h
      · intro hh
        have : dg8 u = 48 := by simpa using hh
        rw [this]
      · rw [val_cons, val_nil, hn]; omega
      · have hd : dg8 u = 48 := by simpa using hh
        rw [hd] at hn
        have : (48 : UInt8).toNat = 48 := rfl
        omega
    · obtain ⟨⟨h1, h2, h3⟩, h4, h5⟩ := ih (u / 10) (by omega)
      have h6 := h5 (by omega)
      rw [decDigits_big h]
      have hr : u % 10 < 10 := by omega
      have hhd : ∀ (l : List UInt8) (x : UInt8), l ≠ [] → (l ++ [x]).head? = l.head? := by intro l x hl; cases l with | nil => exact absurd rfl hl | cons a b => rfl
      refine ⟨⟨by simp, ?_, ?_⟩, ?_, fun _ hh => ?_⟩
      · intro c hc
        rcases List.mem_append.1 hc with hc | hc
        · exact h2 c hc
        · have : c = dg8 (u % 10) := by simpa using hc
          rw [this]; exact dg8_isD hr
      · intro hh
        rw [hhd _ _ h1] at hh
        exact absurd hh h6
      · rw [val_snoc, h4, dg8_nat hr]; omega
      · rw [hhd _ _ h1] at hh
        exact h6 hh
theorem isD_dg8 {c : UInt8} (h : isD c = true) : dg8 (c.toNat - 48) = c := by
  have hc : 48 ≤ c.toNat ∧ c.toNat ≤ 57 := by simpa [isD] using h
  apply UInt8.toNat_inj.1
  rw [dg8_nat (by omega)]
  omega
/-- Digits in Dec's form are Dec's. -/
theorem canon_dec {d : List UInt8} (h : Canon d) : Lib.decDigits (val 0 d) = d := by
  obtain ⟨h1, h2, h3⟩ := h
  -- from the right
  suffices H : ∀ (n : Nat) (d : List UInt8), d.length = n → d ≠ [] → (∀ c ∈ d, isD c = true) → (d.head? = some 48 → d = [48]) → Lib.decDigits (val 0 d) = d from H d.length d rfl h1 h2 h3
  intro n
  induction n with
  | zero => intro d hl h1; exact absurd (List.length_eq_zero_iff.1 hl) h1
  | succ n ih =>
    intro d hl h1 h2 h3
    obtain ⟨e, c, rfl⟩ : ∃ e c, d = e ++ [c] := ⟨d.dropLast, d.getLast h1, (List.dropLast_concat_getLast h1).symm⟩
    have hc : isD c = true := h2 c (by simp)
    have hcn : 48 ≤ c.toNat ∧ c.toNat ≤ 57 := by simpa [isD] using hc
    rw [val_snoc]
    cases e with
    | nil =>
      rw [List.nil_append, val_nil]
      have e1 : Lib.decDigits (0 * 10 + (c.toNat - 48)) = [dg8 (0 * 10 + (c.toNat - 48))] := Lib.decDigits_one (by omega)
      rw [e1, Nat.zero_mul, Nat.zero_add, isD_dg8 hc]
    | cons x r =>
      have hx : x ≠ 48 := fun hx => by
        subst hx
        have := h3 rfl
        simp at this
      have hxd : isD x = true := h2 x (by simp)
      have hxn : 48 ≤ x.toNat ∧ x.toNat ≤ 57 := by simpa [isD] using hxd
      have hx1 : 1 ≤ x.toNat - 48 := by
        rcases Nat.lt_or_ge 48 x.toNat with h | h
        · omega
        · exact absurd (UInt8.toNat_inj.1 (show x.toNat = (48 : UInt8).toNat from by show x.toNat = 48; omega)) hx
      have hv : 1 ≤ val 0 (x :: r) := by
        rw [val_cons]
        exact Nat.le_trans (by omega) (val_ge r _)
      have he := ih (x :: r) (by simpa using hl) (by simp) (fun y hy => h2 y (by simp only [List.mem_append]; exact Or.inl hy)) (fun hh => absurd (by simpa using hh) hx)
      rw [decDigits_big (by omega), show (val 0 (x :: r) * 10 + (c.toNat - 48)) / 10 = val 0 (x :: r) by omega, show (val 0 (x :: r) * 10 + (c.toNat - 48)) % 10 = c.toNat - 48 by omega, he, isD_dg8 hc]

theorem parse_ok : ∀ (d : List UInt8) (acc : Nat), (∀ c ∈ d, isD c = true) → val acc d < 18446744073709551616 → Lib.parseUint10 acc d = .ok (val acc d)
  | [], acc, _, _ => rfl
  | c :: r, acc, h, hv => by
    have hc : 48 ≤ c.toNat ∧ c.toNat ≤ 57 := by simpa [isD] using h c (by simp)
    rw [val_cons] at hv ⊢
    have h1 := val_ge r (acc * 10 + (c.toNat - 48))
    rw [Lib.parseUint10, if_pos hc, if_neg (by omega), if_neg (by omega)]
    exact parse_ok r _ (fun x hx => h x (by simp [hx])) hv
theorem parse_range : ∀ (d : List UInt8) (acc : Nat), (∀ c ∈ d, isD c = true) → 18446744073709551616 ≤ val acc d → acc < 18446744073709551616 → ∀ u, Lib.parseUint10 acc d ≠ .ok u
  | [], acc, _, hv, ha, u => by rw [val_nil] at hv; omega
  | c :: r, acc, h, hv, ha, u => by
    have hc : 48 ≤ c.toNat ∧ c.toNat ≤ 57 := by simpa [isD] using h c (by simp)
    rw [val_cons] at hv
    rw [Lib.parseUint10, if_pos hc]
    split
    · intro e; cases e
    · split
      · intro e; cases e
      · exact parse_range r _ (fun x hx => h x (by simp [hx])) hv (by omega) u
theorem atoi_pos {d : List UInt8} (h : Canon d) {v : Int} (hv : Lib.atoiAll d = .ok v) : v = val 0 d ∧ val 0 d < 9223372036854775808 := by
  obtain ⟨h1, h2, h3⟩ := h
  cases d with
  | nil => exact absurd rfl h1
  | cons c r =>
    have hc : 48 ≤ c.toNat ∧ c.toNat ≤ 57 := by simpa [isD] using h2 c (by simp)
    unfold Lib.atoiAll at hv
    simp only [show ¬ c.toNat = 43 by omega, show ¬ c.toNat = 45 by omega, or_self, if_false, not_false_eq_true, true_and, false_and] at hv
    by_cases hr : val 0 (c :: r) < 18446744073709551616
    · rw [Lib.parseMag, if_neg (by simp), parse_ok _ _ h2 hr] at hv
      simp only at hv
      split at hv
      · cases hv
      · injection hv with hv
        subst hv
        exact ⟨rfl, by omega⟩
    · exfalso
      rw [Lib.parseMag, if_neg (by simp)] at hv
      cases hp : Lib.parseUint10 0 (c :: r) with
      | ok u => exact parse_range _ 0 h2 (by omega) (by omega) u hp
      | _ => rw [hp] at hv; cases hv
theorem atoi_pos' {d : List UInt8} (h : Canon d) (hv : val 0 d < 9223372036854775808) : Lib.atoiAll d = .ok (val 0 d : Int) := by
  obtain ⟨h1, h2, h3⟩ := h
  cases d with
  | nil => exact absurd rfl h1
  | cons c r =>
    have hc : 48 ≤ c.toNat ∧ c.toNat ≤ 57 := by simpa [isD] using h2 c (by simp)
    unfold Lib.atoiAll
    simp only [show ¬ c.toNat = 43 by omega, show ¬ c.toNat = 45 by omega, or_self, if_false, not_false_eq_true, true_and, false_and]
    rw [Lib.parseMag, if_neg (by simp), parse_ok _ _ h2 (by omega)]
    simp only
    rw [if_neg (by omega)]
theorem atoi_neg' {d : List UInt8} (h : Canon d) (hv : val 0 d ≤ 9223372036854775808) : Lib.atoiAll (45 :: d) = .ok (-(val 0 d : Int)) := by
  obtain ⟨h1, h2, h3⟩ := h
  unfold Lib.atoiAll
  have e : (45 : UInt8).toNat = 45 := rfl
  simp only [e, or_true, if_true, not_true_eq_false, false_and, true_and, if_false]
  rw [Lib.parseMag, if_neg h1, parse_ok _ _ h2 (by omega)]
  simp only
  rw [if_neg (by omega)]

/-- numB on Dec's digits. -/
theorem numB_pos {d : List UInt8} (h : Canon d) : numB d = if val 0 d < 9223372036854775808 then some (val 0 d : Int) else none := by
  by_cases hv : val 0 d < 9223372036854775808
  · rw [if_pos hv]
    unfold numB
    rw [atoi_pos' h hv]
    simp only
    rw [if_pos (by rw [Lib.itoa_nonneg]; exact canon_dec h)]
  · rw [if_neg hv]
    unfold numB
    cases hx : Lib.atoiAll d with
    | ok v => exact absurd (atoi_pos h hx).2 hv
    | _ => rfl
theorem numB_some {l : List UInt8} {v : Int} (h : numB l = some v) : -9223372036854775808 ≤ v ∧ v ≤ 9223372036854775807 ∧ Lib.itoa v = l := by
  unfold numB at h
  cases hx : Lib.atoiAll l with
  | ok u =>
    rw [hx] at h
    simp only at h
    split at h
    · rename_i he
      cases h
      have : -9223372036854775808 ≤ v ∧ v ≤ 9223372036854775807 := by
        unfold Lib.atoiAll at hx
        cases l with
        | nil => cases hx
        | cons c r =>
          simp only at hx
          split at hx
          · cases hx
          · cases hx
          · split at hx
            · cases hx
            · split at hx
              · cases hx
              · injection hx with hx
                subst hx
                split <;> omega
      exact ⟨this.1, this.2, he⟩
    · cases h
  | _ => rw [hx] at h; cases h
theorem numB_neg {d : List UInt8} (h : Canon d) (h0 : 1 ≤ val 0 d) : numB (45 :: d) = if val 0 d ≤ 9223372036854775808 then some (-(val 0 d : Int)) else none := by
  by_cases hv : val 0 d ≤ 9223372036854775808
  · rw [if_pos hv]
    unfold numB
    rw [atoi_neg' h hv]
    simp only
    rw [if_pos (by rw [Lib.itoa_neg _ h0, canon_dec h])]
  · rw [if_neg hv]
    cases hn : numB (45 :: d) with
    | none => rfl
    | some v =>
      exfalso
      obtain ⟨v1, v2, he⟩ := numB_some hn
      by_cases hneg : v < 0
      · obtain ⟨u, hu1, rfl⟩ : ∃ u : Nat, 1 ≤ u ∧ v = -(u : Int) := ⟨v.natAbs, by omega, by omega⟩
        rw [Lib.itoa_neg u hu1] at he
        have e2 : Lib.decDigits u = d := by simpa using he
        have e3 := (dec_shape u).2.1
        rw [e2] at e3
        omega
      · obtain ⟨u, rfl⟩ : ∃ u : Nat, v = u := ⟨v.toNat, by omega⟩
        rw [Lib.itoa_nonneg] at he
        have h1 := (dec_shape u).1.2.1 45 (by rw [he]; simp)
        revert h1; decide
/-- What numB takes is Dec's. -/
theorem numB_canon {l : List UInt8} {v : Int} (h : numB l = some v) : (∃ d, Canon d ∧ l = d) ∨ (∃ d, Canon d ∧ 1 ≤ val 0 d ∧ l = 45 :: d) := by
  obtain ⟨v1, v2, he⟩ := numB_some h
  by_cases hneg : v < 0
  · obtain ⟨u, hu1, rfl⟩ : ∃ u : Nat, 1 ≤ u ∧ v = -(u : Int) := ⟨v.natAbs, by omega, by omega⟩
    rw [Lib.itoa_neg u hu1] at he
    exact Or.inr ⟨_, (dec_shape u).1, by rw [(dec_shape u).2.1]; exact hu1, he.symm⟩
  · obtain ⟨u, rfl⟩ : ∃ u : Nat, v = u := ⟨v.toNat, by omega⟩
    rw [Lib.itoa_nonneg] at he
    exact Or.inl ⟨_, (dec_shape u).1, he.symm⟩
end Go.Proofs.YtbkagjngckfonaaDoor
