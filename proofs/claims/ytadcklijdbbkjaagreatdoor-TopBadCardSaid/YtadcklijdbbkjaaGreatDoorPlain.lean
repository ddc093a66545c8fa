/- Plain definitions and laws on names: no program in sight. -/
import Derived.WalkKit
import Derived.Lib.Strings
import Derived.Lib.Bytealg
namespace Go.Proofs.YtadcklijdbbkjaaGreatDoor
open Go.RowKit
set_option linter.unusedVariables false

def signs : List UInt8 := [43, 45, 42, 47, 60, 62, 61, 63, 33, 95]
def digB (c : UInt8) : Bool := decide (48 ≤ c.toNat) && decide (c.toNat ≤ 57)
def okB (c : UInt8) : Bool := (decide (97 ≤ c.toNat) && decide (c.toNat ≤ 122)) || digB c || signs.contains c
/-- May a text be a name (P1.1)? -/
def nameB (l : List UInt8) : Bool :=
  match l with
  | [] => false
  | [a] => !digB a && okB a
  | a :: b :: r => decide (l.length ≤ 16) && !digB a && l.all okB && !(a == 45 && digB b)

theorem nameB_nil : nameB [] = false := rfl
theorem nameB_long {l : List UInt8} (h : 16 < l.length) : nameB l = false := by
  match l, h with
  | [a], h => simp at h
  | a :: b :: r, h => simp only [nameB]; rw [decide_eq_false (by omega)]; rfl
theorem nameB_digit {a : UInt8} {r : List UInt8} (h : digB a = true) : nameB (a :: r) = false := by
  cases r <;> simp [nameB, h]
theorem nameB_bad {l : List UInt8} (c : UInt8) (hc : c ∈ l) (h : okB c = false) : nameB l = false := by
  match l, hc with
  | [a], hc => simp at hc; subst hc; simp [nameB, h]
  | a :: b :: r, hc =>
    have : (a :: b :: r).all okB = false := by
      rw [List.all_eq_false]; exact ⟨c, hc, by simp [h]⟩
    simp only [nameB, this]; simp
theorem nameB_minus {b : UInt8} {r : List UInt8} (h : digB b = true) : nameB (45 :: b :: r) = false := by
  simp [nameB, h]
theorem nameB_one {a : UInt8} (h1 : digB a = false) (h : okB a = true) : nameB [a] = true := by simp [nameB, h1, h]
theorem nameB_yes {a b : UInt8} {r : List UInt8} (hl : (a :: b :: r).length ≤ 16) (h1 : digB a = false) (h : ∀ c ∈ a :: b :: r, okB c = true) (h2 : a ≠ 45 ∨ digB b = false) : nameB (a :: b :: r) = true := by
  have h3 : (a :: b :: r).all okB = true := List.all_eq_true.2 h
  have h4 : (a == 45 && digB b) = false := by
    rcases h2 with h2 | h2
    · simp [h2]
    · simp [h2]
  simp only [nameB, h3, h4, h1]
  simp
  simp at hl
  omega

theorem str_nil {s : ByteArray} (h : s.size = 0) : s.toList = [] := by
  rw [ByteArray.toList_eq]; exact List.length_eq_zero_iff.1 ((Lib.size_eq s).symm.trans h)
theorem str_some {s : ByteArray} (h : 0 < s.size) : ¬ s.toList = [] := by
  rw [ByteArray.toList_eq]; intro e; have h2 := Lib.size_eq s; rw [e, List.length_nil] at h2; omega
theorem str_empty {s : ByteArray} (h : 0 < s.size) : s.toList.isEmpty = false := by
  have := str_some h; simp [this]
theorem str_cons {s : ByteArray} (h : 0 < s.size) : s.data.toList = s[0] :: s.data.toList.tail := by
  have hl : s.data.toList.length = s.size := by simp
  have hn : s.data.toList ≠ [] := by intro e; rw [e] at hl; simp at hl; omega
  conv => lhs; rw [← List.cons_head_tail hn]
  congr 1
  rw [List.head_eq_getElem]; rfl
theorem str_mem {s : ByteArray} {k : Nat} (h : k < s.size) : s[k] ∈ s.data.toList :=
  List.getElem_mem (l := s.data.toList) (n := k) (by simpa using h)

theorem nameB_first {s : ByteArray} (h : 0 < s.size) (hd : digB s[0] = true) : nameB s.data.toList = false := by
  rw [str_cons h]; exact nameB_digit hd
theorem index_signs (c : UInt8) : 0 ≤ Lib.indexByte [43, 45, 42, 47, 60, 62, 61, 63, 33, 95] c ↔ signs.contains c = true := by
  have h : ∀ n : Fin 256, 0 ≤ Lib.indexByte [43, 45, 42, 47, 60, 62, 61, 63, 33, 95] (UInt8.ofNat n.1) ↔ signs.contains (UInt8.ofNat n.1) = true := by decide +kernel
  have := h ⟨c.toNat, c.toNat_lt⟩
  simpa using this
theorem okB_iff (c : UInt8) : okB c = true ↔ (97 ≤ (c.toNat : Int) ∧ (c.toNat : Int) ≤ 122) ∨ (48 ≤ (c.toNat : Int) ∧ (c.toNat : Int) ≤ 57) ∨ 0 ≤ Lib.indexByte [43, 45, 42, 47, 60, 62, 61, 63, 33, 95] c := by
  rw [index_signs]; unfold okB digB; simp only [Bool.or_eq_true, Bool.and_eq_true, decide_eq_true_eq]
  constructor
  · rintro ((⟨h1, h2⟩ | ⟨h1, h2⟩) | h)
    · exact Or.inl ⟨by omega, by omega⟩
    · exact Or.inr (Or.inl ⟨by omega, by omega⟩)
    · exact Or.inr (Or.inr h)
  · rintro (⟨h1, h2⟩ | ⟨h1, h2⟩ | h)
    · exact Or.inl (Or.inl ⟨by omega, by omega⟩)
    · exact Or.inl (Or.inr ⟨by omega, by omega⟩)
    · exact Or.inr h
theorem nameB_not {s : ByteArray} {k : Nat} (h : k < s.size) (hb : ¬ okB s[k] = true) : nameB s.data.toList = false :=
  nameB_bad s[k] (str_mem h) (by simpa using hb)
theorem nameB_end1 {s : ByteArray} (h0 : s.size = 1) (hd : digB (s[0]'(by omega)) = false) (hall : ∀ j, (h' : j < s.size) → okB s[j] = true) : nameB s.data.toList = true := by
  have hc := str_cons (s := s) (by omega)
  have hl : s.data.toList.tail = [] := List.length_eq_zero_iff.1 (by rw [List.length_tail, ← Lib.size_eq, h0])
  rw [hc, hl]
  exact nameB_one hd (hall 0 (by omega))
theorem nameB_end2 {s : ByteArray} (h0 : 1 < s.size) (h16 : s.size ≤ 16) (hd : digB (s[0]'(by omega)) = false) (hall : ∀ j, (h' : j < s.size) → okB s[j] = true) :
    nameB s.data.toList = !(decide (((s[0]'(by omega)).toNat : Int) = 45) && digB s[1]) := by
  have hs := Lib.size_eq s
  have hall' : ∀ c ∈ s.data.toList, okB c = true := by
    intro c hc
    obtain ⟨i, hi, rfl⟩ := List.getElem_of_mem hc
    exact hall i (by omega)
  obtain ⟨a, b, r, hr⟩ : ∃ a b r, s.data.toList = a :: b :: r := by
    match h : s.data.toList with
    | [] => rw [h] at hs; rw [hs] at h0; simp at h0
    | [a] => rw [h] at hs; rw [hs] at h0; simp at h0
    | a :: b :: r => exact ⟨a, b, r, rfl⟩
  have ha : s[0]'(by omega) = a := by
    have : s.data.toList[0]'(by omega) = a := by simp [hr]
    exact this
  have hb : s[1] = b := by
    have : s.data.toList[1]'(by omega) = b := by simp [hr]
    exact this
  rw [ha] at hd
  rw [ha, hb, hr]
  rw [hr] at hall' hs
  cases hdb : digB b
  · rw [nameB_yes (by omega) hd hall' (Or.inr hdb)]; simp
  · by_cases h45 : a = 45
    · subst h45; rw [nameB_minus hdb]; rfl
    · rw [nameB_yes (by omega) hd hall' (Or.inl h45)]
      have : ¬ ((a.toNat : Int) = 45) := by
        intro e; apply h45; apply UInt8.toNat_inj.1; simp; omega
      simp [this]

theorem nameB_end2' {s : ByteArray} (h1 : 1 < s.size) (h45 : ((s[0]'(by omega)).toNat : Int) = 45) : s.data.toList = List.cons (45 : UInt8) (List.cons (s[1]) s.data.toList.tail.tail) := by
  have h2 : s[0]'(by omega) = (45 : UInt8) := by apply UInt8.toNat_inj.1; simp; omega
  have hl := Lib.size_eq s
  have hn : s.data.toList.tail ≠ [] := by
    intro e; have := congrArg List.length e; rw [List.length_tail, List.length_nil] at this; omega
  rw [str_cons (by omega), h2]
  congr 1
  conv => lhs; rw [← List.cons_head_tail hn]
  congr 1
  rw [List.head_eq_getElem, List.getElem_tail]; rfl
def okAt (c : UInt8) (m : Nat) : Bool := (decide (97 ≤ c.toNat) && decide (c.toNat ≤ 122)) || digB c || (signs.take m).contains c
theorem okAt_succ {c : UInt8} {m : Nat} (h : m < 10) : okAt c (m + 1) = (okAt c m || c == signs[m]'h) := by
  have e : signs.take (m + 1) = signs.take m ++ [signs[m]'h] := List.take_succ_eq_append_getElem h
  unfold okAt
  rw [e, List.contains_append, Bool.or_assoc]
  have e2 : [signs[m]'h].contains c = (c == signs[m]'h) := by
    rw [Bool.eq_iff_iff]; simp
  rw [e2]
  simp only [Bool.or_assoc]
theorem okAt_dig {c : UInt8} (h : digB c = true) : okAt c 0 = true := by simp [okAt, h]
theorem okAt_lo {c : UInt8} (h : ¬ digB c = true) (h2 : 97 ≤ (c.toNat : Int)) : okAt c 0 = decide ((c.toNat : Int) ≤ 122) := by
  have h3 : 97 ≤ c.toNat := by omega
  have h4 : digB c = false := by simpa using h
  unfold okAt
  rw [h4, decide_eq_true h3, Bool.eq_iff_iff]
  simp
  omega
theorem okAt_no {c : UInt8} (h : ¬ digB c = true) (h2 : (c.toNat : Int) < 97) : okAt c 0 = false := by
  have h3 : ¬ 97 ≤ c.toNat := by omega
  have h4 : digB c = false := by simpa using h
  unfold okAt
  rw [h4, decide_eq_false h3]
  simp
theorem okAt_end (c : UInt8) : okAt c 10 = okB c := rfl
theorem signs_get {m : Nat} (h : m < 10) (c : UInt8) (hs : m < (ByteArray.mk #[43, 45, 42, 47, 60, 62, 61, 63, 33, 95]).size) :
    ((c.toNat : Int) == (((ByteArray.mk #[43, 45, 42, 47, 60, 62, 61, 63, 33, 95])[m]'hs).toNat : Int)) = (c == signs[m]'h) := by
  have e : (ByteArray.mk #[43, 45, 42, 47, 60, 62, 61, 63, 33, 95])[m]'hs = signs[m]'h := rfl
  rw [e, Bool.eq_iff_iff]
  simp only [beq_iff_eq]
  constructor
  · intro h'; apply UInt8.toNat_inj.1; omega
  · rintro rfl; rfl

/-- grafteryref.In's answer, as one word for the walk. -/
def inB (a b c : Int) : Bool := decide (b ≤ a) && decide (a ≤ c)
theorem inB_yes {a b c : Int} (h : b ≤ a ∧ a ≤ c) : inB a b c = true := by unfold inB; simp; omega
theorem inB_no {a b c : Int} (h : a < b ∨ c < a) : inB a b c = false := by
  unfold inB
  rcases h with h | h
  · rw [decide_eq_false (by omega)]; rfl
  · rw [decide_eq_false (p := a ≤ c) (by omega)]; simp
theorem inB_or (a b c : Int) : (inB a b c = true ∧ b ≤ a ∧ a ≤ c) ∨ (inB a b c = false ∧ (a < b ∨ c < a)) := by
  by_cases h : b ≤ a ∧ a ≤ c
  · exact Or.inl ⟨inB_yes h, h⟩
  · exact Or.inr ⟨inB_no (by omega), by omega⟩
end Go.Proofs.YtadcklijdbbkjaaGreatDoor
