/- Whole numbers as grafteryref.wholeIn and fits64 take them. -/
import Derived.Test.YtbkagjngckfonaaDoorNumP
namespace Go.Proofs.YtbkagjngckfonaaDoor
open Go.RowKit
set_option linter.unusedVariables false

theorem isD_dig (c : UInt8) : isD c = digB c := by unfold isD digB; rw [Bool.eq_iff_iff]; simp
theorem digB_bd {c : UInt8} (h : digB c = true) : 48 ≤ c.toNat ∧ c.toNat ≤ 57 := by unfold digB at h; simpa using h
def digsOf : List UInt8 → List UInt8
  | [] => []
  | c :: r => if c = 45 then r else c :: r
/-- Has the text a whole number's form? -/
def wholeB (l : List UInt8) : Bool := !(digsOf l).isEmpty && (digsOf l).all digB && !(decide ((digsOf l).head? = some 48) && !(l == [48]))
def negB (l : List UInt8) : Bool := decide (l.head? = some 45)
def most (l : List UInt8) : Nat := if negB l then 9223372036854775808 else 9223372036854775807
def signed (l : List UInt8) : Int := if negB l then -(val 0 (digsOf l) : Int) else (val 0 (digsOf l) : Int)

theorem wholeB_iff (l : List UInt8) : wholeB l = true ↔ digsOf l ≠ [] ∧ (∀ c ∈ digsOf l, isD c = true) ∧ ((digsOf l).head? = some 48 → l = [48]) := by
  unfold wholeB
  simp only [Bool.and_eq_true, Bool.not_eq_true', List.all_eq_true, List.isEmpty_eq_false_iff, and_assoc, isD_dig]
  refine and_congr Iff.rfl (and_congr Iff.rfl ?_)
  by_cases h : (digsOf l).head? = some 48
  · by_cases h2 : l = [48] <;> simp [h, h2]
  · simp [h]
theorem val_first {x : UInt8} {r : List UInt8} (hd : isD x = true) (hx : x ≠ 48) : 10 ^ r.length ≤ val 0 (x :: r) := by
  have hxn : 48 ≤ x.toNat ∧ x.toNat ≤ 57 := by simpa [isD] using hd
  have hx1 : 1 ≤ x.toNat - 48 := by
    rcases Nat.lt_or_ge 48 x.toNat with h | h
    · omega
    · exact absurd (UInt8.toNat_inj.1 (show x.toNat = (48 : UInt8).toNat from by show x.toNat = 48; omega)) hx
  rw [val_cons]
  generalize x.toNat - 48 = y at hx1 ⊢
  have i1 := val_acc r (0 * 10 + y)
  generalize hA : val (0 * 10 + y) r = A at i1 ⊢
  rw [i1]
  clear i1 hA
  generalize 10 ^ r.length = P
  have h2 : 1 * P ≤ (0 * 10 + y) * P := Nat.mul_le_mul_right _ (by omega)
  omega
theorem numB_whole (l : List UInt8) : numB l = if wholeB l = true ∧ val 0 (digsOf l) ≤ most l then some (signed l) else none := by
  by_cases hw : wholeB l = true
  · obtain ⟨h1, h2, h3⟩ := (wholeB_iff l).1 hw
    cases l with
    | nil => exact absurd rfl h1
    | cons c r =>
      by_cases hc : c = 45
      · subst hc
        have e1 : digsOf (45 :: r) = r := by simp [digsOf]
        have e2 : negB (45 :: r) = true := by simp [negB]
        unfold most signed
        rw [hw]
        simp only [e1, e2, if_true, true_and] at h1 h2 h3 ⊢
        have hh : r.head? ≠ some 48 := fun h => by have := h3 h; simp at this
        cases r with
        | nil => exact absurd rfl h1
        | cons x q =>
          have hx : x ≠ 48 := fun h => hh (by simp [h])
          have hv := val_first (r := q) (h2 x (by simp)) hx
          have hp : 0 < 10 ^ q.length := Nat.pow_pos (by omega)
          exact numB_neg ⟨h1, h2, fun h => absurd h hh⟩ (by omega)
      · have e1 : digsOf (c :: r) = c :: r := by simp [digsOf, hc]
        have e2 : negB (c :: r) = false := by simp [negB, hc]
        unfold most signed
        rw [hw]
        simp only [e1, e2, true_and, Bool.false_eq_true, if_false] at h1 h2 h3 ⊢
        rw [numB_pos ⟨h1, h2, h3⟩]
        by_cases hx : val 0 (c :: r) < 9223372036854775808
        · rw [if_pos hx, if_pos (by omega)]
        · rw [if_neg hx, if_neg (by omega)]
  · rw [if_neg (fun h => hw h.1)]
    cases hn : numB l with
    | none => rfl
    | some v =>
      exfalso
      refine hw ((wholeB_iff l).2 ?_)
      rcases numB_canon hn with ⟨d, hd, rfl⟩ | ⟨d, hd, h1, rfl⟩
      · obtain ⟨a1, a2, a3⟩ := hd
        cases l with
        | nil => exact absurd rfl a1
        | cons c r =>
          have hc : c ≠ 45 := fun h => by
            have := a2 c (by simp)
            rw [h] at this
            exact absurd this (by decide)
          have e1 : digsOf (c :: r) = c :: r := by simp [digsOf, hc]
          rw [e1]
          exact ⟨a1, a2, a3⟩
      · obtain ⟨a1, a2, a3⟩ := hd
        have e1 : digsOf (45 :: d) = d := by simp [digsOf]
        rw [e1]
        refine ⟨a1, a2, fun h => ?_⟩
        have := a3 h
        rw [this] at h1
        exact absurd h1 (by decide)

/-- The order of digits of one length is the order of bytes. -/
theorem lex_val : ∀ (a b : List UInt8), a.length = b.length → (∀ c ∈ a, isD c = true) → (∀ c ∈ b, isD c = true) → ((Op.bytesLess a b || a == b) = true ↔ val 0 a ≤ val 0 b)
  | [], [], _, _, _ => by simp [val_nil]
  | [], _ :: _, h, _, _ => by simp at h
  | _ :: _, [], h, _, _ => by simp at h
  | x :: a, y :: b, h, ha, hb => by
    have hl : a.length = b.length := by simpa using h
    have ih := lex_val a b hl (fun c hc => ha c (by simp [hc])) (fun c hc => hb c (by simp [hc]))
    have h1 := val_lt a (fun c hc => ha c (by simp [hc]))
    have h2 := val_lt b (fun c hc => hb c (by simp [hc]))
    have hx : 48 ≤ x.toNat ∧ x.toNat ≤ 57 := by simpa [isD] using ha x (by simp)
    have hy : 48 ≤ y.toNat ∧ y.toNat ≤ 57 := by simpa [isD] using hb y (by simp)
    rw [val_cons, val_cons, Op.bytesLess]
    have hlt : x < y ↔ x.toNat < y.toNat := UInt8.lt_iff_toNat_lt
    have heq : x = y ↔ x.toNat = y.toNat := UInt8.toNat_inj.symm
    have hc : ((decide (x < y) || (x == y && Op.bytesLess a b)) || x :: a == y :: b) = true ↔ x.toNat < y.toNat ∨ (x.toNat = y.toNat ∧ (Op.bytesLess a b || a == b) = true) := by
      rw [← hlt, ← heq]
      simp only [Bool.or_eq_true, decide_eq_true_eq, Bool.and_eq_true, beq_iff_eq, List.cons.injEq]
      constructor
      · rintro ((h | ⟨h, h'⟩) | ⟨h, h'⟩)
        · exact Or.inl h
        · exact Or.inr ⟨h, Or.inl h'⟩
        · exact Or.inr ⟨h, Or.inr h'⟩
      · rintro (h | ⟨h, h' | h'⟩)
        · exact Or.inl (Or.inl h)
        · exact Or.inl (Or.inr ⟨h, h'⟩)
        · exact Or.inr ⟨h, h'⟩
    rw [hc, ih]
    clear hc hlt heq ih ha hb
    rw [hl] at h1
    have i1 := val_acc a (0 * 10 + (x.toNat - 48))
    have i2 := val_acc b (0 * 10 + (y.toNat - 48))
    rw [hl] at i1
    obtain ⟨p, hp⟩ : ∃ p, x.toNat - 48 = p := ⟨_, rfl⟩
    obtain ⟨q, hq⟩ : ∃ q, y.toNat - 48 = q := ⟨_, rfl⟩
    have ex : x.toNat = 48 + p := by omega
    have ey : y.toNat = 48 + q := by omega
    rw [hp] at i1 ⊢
    rw [hq] at i2 ⊢
    rw [ex, ey]
    generalize hA : val (0 * 10 + p) a = A at i1 ⊢
    generalize hB : val (0 * 10 + q) b = B at i2 ⊢
    generalize val 0 a = Va at *
    generalize val 0 b = Vb at *
    generalize 10 ^ b.length = P at *
    rw [i1, i2]
    clear i1 i2 hA hB ex ey hp hq hx hy
    rcases Nat.lt_trichotomy p q with hpq | hpq | hpq
    · have : (0 * 10 + p + 1) * P ≤ (0 * 10 + q) * P := Nat.mul_le_mul_right _ (by omega)
      rw [Nat.add_mul] at this
      constructor
      · intro _; omega
      · intro _; left; omega
    · subst hpq
      constructor
      · rintro (h | ⟨_, h⟩)
        · omega
        · omega
      · intro h; right; exact ⟨rfl, by omega⟩
    · have : (0 * 10 + q + 1) * P ≤ (0 * 10 + p) * P := Nat.mul_le_mul_right _ (by omega)
      rw [Nat.add_mul] at this
      constructor
      · rintro (h | ⟨h, _⟩) <;> omega
      · intro h; omega

def most19 : List UInt8 := [57, 50, 50, 51, 51, 55, 50, 48, 51, 54, 56, 53, 52, 55, 55, 53, 56, 48, 55]
def most19n : List UInt8 := [57, 50, 50, 51, 51, 55, 50, 48, 51, 54, 56, 53, 52, 55, 55, 53, 56, 48, 56]
theorem most19_val : val 0 most19 = 9223372036854775807 := by decide +kernel
theorem most19n_val : val 0 most19n = 9223372036854775808 := by decide +kernel
def fitB (d m : List UInt8) : Bool := decide (d.length < 19) || (decide (d.length = 19) && (Op.bytesLess d m || d == m))
def fitsB (l : List UInt8) : Bool := fitB (digsOf l) (if negB l then most19n else most19)
theorem fitB_val (d m : List UInt8) (h1 : d ≠ []) (h2 : ∀ c ∈ d, isD c = true) (h3 : d.head? = some 48 → d = [48]) (hm : m.length = 19) (hmd : ∀ c ∈ m, isD c = true) (hlo : 1000000000000000000 ≤ val 0 m) : fitB d m = true ↔ val 0 d ≤ val 0 m := by
  unfold fitB
  have hv := val_lt d h2
  have hmv := val_lt m hmd
  rw [hm] at hmv
  rcases Nat.lt_trichotomy d.length 19 with h | h | h
  · have : 10 ^ d.length ≤ 10 ^ 18 := Nat.pow_le_pow_right (by omega) (by omega)
    simp only [h, decide_true, Bool.true_or, true_iff]
    have e : (10 : Nat) ^ 18 = 1000000000000000000 := by decide
    omega
  · rw [← lex_val d m (by omega) h2 hmd]
    simp [h]
  · have hd : ¬ val 0 d ≤ val 0 m := by
      cases d with
      | nil => exact absurd rfl h1
      | cons x r =>
        have hx : x ≠ 48 := fun hx => by
          subst hx
          have := h3 rfl
          rw [this] at h
          simp at h
        have := val_first (r := r) (h2 x (by simp)) hx
        have : 10 ^ 19 ≤ 10 ^ r.length := Nat.pow_le_pow_right (by omega) (by simp at h; omega)
        omega
    have e1 : ¬ d.length < 19 := by omega
    have e2 : ¬ d.length = 19 := by omega
    simp [e1, e2, hd]
/-- What the two tests of a word come to. -/
theorem numB_fits (l : List UInt8) (hw : wholeB l = true) : numB l = if fitsB l then some (signed l) else none := by
  rw [numB_whole, hw]
  obtain ⟨h1, h2, h3⟩ := (wholeB_iff l).1 hw
  have h3' : (digsOf l).head? = some 48 → digsOf l = [48] := fun h => by
    have := h3 h
    rw [this]
    rfl
  have key : fitsB l = true ↔ val 0 (digsOf l) ≤ most l := by
    unfold fitsB most
    cases hn : negB l
    · rw [if_neg (by decide), if_neg (by decide), fitB_val _ _ h1 h2 h3' (by decide) (by decide) (by rw [most19_val]; omega), most19_val]
    · rw [if_pos rfl, if_pos rfl, fitB_val _ _ h1 h2 h3' (by decide) (by decide) (by rw [most19n_val]; omega), most19n_val]
  by_cases hf : fitsB l = true
  · rw [if_pos ⟨rfl, key.1 hf⟩, if_pos hf]
  · rw [if_neg (fun h => hf (key.2 h.2)), if_neg hf]
theorem numB_form (l : List UInt8) (hw : wholeB l = false) : numB l = none := by
  rw [numB_whole, hw, if_neg (by simp)]

/-- The number grows no further than it must. -/
def capL : List UInt8 → Nat → Nat
  | [], n => n
  | c :: r, n => capL r (if n < 1125899906842624 then 10 * n + (c.toNat - 48) else n)
theorem cap_snoc : ∀ (l : List UInt8) (c : UInt8) (n : Nat), capL (l ++ [c]) n = if capL l n < 1125899906842624 then 10 * capL l n + (c.toNat - 48) else capL l n
  | [], c, n => rfl
  | x :: l, c, n => by
    rw [List.cons_append, capL, cap_snoc l c, capL]
theorem cap_val : ∀ (l : List UInt8) (n v : Nat), n = v ∨ (1125899906842624 ≤ n ∧ 1125899906842624 ≤ v) → capL l n = val v l ∨ (1125899906842624 ≤ capL l n ∧ 1125899906842624 ≤ val v l)
  | [], n, v, h => by rw [val_nil, capL]; exact h
  | c :: r, n, v, h => by
    rw [val_cons, capL]
    refine cap_val r _ _ ?_
    generalize c.toNat - 48 = y
    split
    · rcases h with h | h
      · left; omega
      · omega
    · right; omega
end Go.Proofs.YtbkagjngckfonaaDoor
