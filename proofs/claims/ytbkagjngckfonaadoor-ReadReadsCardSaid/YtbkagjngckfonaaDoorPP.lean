/- The parse of a text, plainly: what read.Read and grafteryref.DataOf both do. -/
import Derived.Test.YtbkagjngckfonaaDoorPlain
import Derived.Lib.AtoiAll
import Derived.Lib.ItoaMem
namespace Go.Proofs.YtbkagjngckfonaaDoor
open Go.RowKit
set_option linter.unusedVariables false

def isBlank (c : UInt8) : Bool := c == 32 || c == 10 || c == 9
def isEnd (c : UInt8) : Bool := c == 32 || c == 10 || c == 9 || c == 40 || c == 41 || c == 59 || c == 39
/-- How many bytes of blanks and comments lie ahead ('true': inside a comment). -/
def bl : Bool → List UInt8 → Nat
  | _, [] => 0
  | false, c :: r => if isBlank c then bl false r + 1 else if c = 59 then bl true r + 1 else 0
  | true, c :: r => if c = 10 then bl false r + 1 else bl true r + 1
/-- How many bytes a word has. -/
def wl : List UInt8 → Nat
  | [] => 0
  | c :: r => if isEnd c then 0 else wl r + 1
theorem bl_le : ∀ (m : Bool) (l : List UInt8), bl m l ≤ l.length
  | false, [] => by simp [bl]
  | true, [] => by simp [bl]
  | false, c :: r => by
    have h1 := bl_le false r
    have h2 := bl_le true r
    simp only [bl, List.length_cons]
    split
    · omega
    · split <;> omega
  | true, c :: r => by
    have h1 := bl_le false r
    have h2 := bl_le true r
    simp only [bl, List.length_cons]
    split <;> omega
theorem wl_le : ∀ (l : List UInt8), wl l ≤ l.length
  | [] => by simp [wl]
  | c :: r => by
    have h := wl_le r
    simp only [wl, List.length_cons]
    split <;> omega

def lst (s : ByteArray) : List UInt8 := s.data.toList
theorem lst_len (s : ByteArray) : (lst s).length = s.size := (Lib.size_eq s).symm
theorem lst_drop (s : ByteArray) (k : Nat) (h : k < s.size) : (lst s).drop k = s[k] :: (lst s).drop (k + 1) := by
  have h2 : k < (lst s).length := by rw [lst_len]; exact h
  rw [List.drop_eq_getElem_cons h2]
  rfl
theorem lst_end (s : ByteArray) : (lst s).drop s.size = [] := by rw [← lst_len]; simp

/-- Where blanks and comments end. -/
def skipA (s : ByteArray) (k : Nat) : Nat := k + bl false ((lst s).drop k)
/-- Where the word that begins there ends. -/
def wordA (s : ByteArray) (k : Nat) : Nat := k + wl ((lst s).drop k)
theorem skipA_le (s : ByteArray) (k : Nat) (h : k ≤ s.size) : skipA s k ≤ s.size := by
  have := bl_le false ((lst s).drop k)
  rw [List.length_drop, lst_len] at this
  unfold skipA
  omega
theorem skipA_ge (s : ByteArray) (k : Nat) : k ≤ skipA s k := Nat.le_add_right _ _
theorem wordA_le (s : ByteArray) (k : Nat) (h : k ≤ s.size) : wordA s k ≤ s.size := by
  have := wl_le ((lst s).drop k)
  rw [List.length_drop, lst_len] at this
  unfold wordA
  omega
theorem wordA_ge (s : ByteArray) (k : Nat) : k ≤ wordA s k := Nat.le_add_right _ _
theorem skip_end (s : ByteArray) (m : Bool) : s.size + bl m ((lst s).drop s.size) = s.size := by rw [lst_end]; cases m <;> simp [bl]
theorem skip_blank (s : ByteArray) (k : Nat) (h : k < s.size) (hb : isBlank s[k] = true) : k + bl false ((lst s).drop k) = k + 1 + bl false ((lst s).drop (k + 1)) := by
  rw [lst_drop s k h, bl, if_pos hb]; omega
theorem skip_semi (s : ByteArray) (k : Nat) (h : k < s.size) (hc : s[k] = 59) : k + bl false ((lst s).drop k) = k + bl true ((lst s).drop k) := by
  rw [lst_drop s k h, hc, bl, bl, if_neg (by decide), if_pos rfl, if_neg (by decide)]
theorem skip_other (s : ByteArray) (k : Nat) (h : k < s.size) (hb : isBlank s[k] = false) (hc : s[k] ≠ 59) : k + bl false ((lst s).drop k) = k := by
  rw [lst_drop s k h, bl, if_neg (by simp [hb]), if_neg hc]; omega
theorem skip_com (s : ByteArray) (k : Nat) (h : k < s.size) (hc : s[k] ≠ 10) : k + bl true ((lst s).drop k) = k + 1 + bl true ((lst s).drop (k + 1)) := by
  rw [lst_drop s k h, bl, if_neg hc]; omega
theorem skip_nl (s : ByteArray) (k : Nat) (h : k < s.size) (hc : s[k] = 10) : k + bl true ((lst s).drop k) = k + bl false ((lst s).drop k) := by
  rw [lst_drop s k h, hc, bl, bl, if_pos rfl, if_pos (by decide)]
theorem word_end (s : ByteArray) : wordA s s.size = s.size := by unfold wordA; rw [lst_end]; simp [wl]
theorem word_stop (s : ByteArray) (k : Nat) (h : k < s.size) (he : isEnd s[k] = true) : wordA s k = k := by
  unfold wordA; rw [lst_drop s k h, wl, if_pos he]; rfl
theorem word_on (s : ByteArray) (k : Nat) (h : k < s.size) (he : isEnd s[k] = false) : wordA s k = wordA s (k + 1) := by
  unfold wordA; rw [lst_drop s k h, wl, if_neg (by simp [he])]; omega

/-- A datum as a tree. -/
inductive Dt where
  | mk (k n : Int) (s : ByteArray) (l : List Dt)

/-- A number in digits as Itoa writes it. -/
def numB (l : List UInt8) : Option Int :=
  match Lib.atoiAll l with
  | .ok v => if Lib.itoa v = l then some v else none
  | _ => none
/-- What a word is: a fault, or a datum. -/
inductive AR where
  | bad (e : Int)
  | good (k n : Int) (s : ByteArray)
def atomR (W : ByteArray) : AR :=
  if W = ⟨#[35, 116]⟩ then .good 2 1 ⟨#[]⟩
  else if W = ⟨#[35, 102]⟩ then .good 2 0 ⟨#[]⟩
  else if nameB W.data.toList then .good 3 0 W
  else match numB W.data.toList with
    | none => .bad 4
    | some n => if n < -1099511627776 ∨ 1099511627776 < n then .bad 2 else .good 1 n ⟨#[]⟩

/-- How a parse ends. -/
inductive PR where
  | bad (at_ : Nat) (e : Int)
  | good (at_ cnt : Nat) (t : Dt)
def quoteS : ByteArray := ⟨#[113, 117, 111, 116, 101]⟩
def PR.quoted : PR → PR
  | .bad p e => .bad p e
  | .good a c x => .good a c (.mk 4 0 ⟨#[]⟩ [.mk 3 0 quoteS [], x])
/-- Is a closing parenthesis there? -/
def closeB (s : ByteArray) (a : Nat) : Bool := if h : a < s.size then s[a] == 41 else false
/-- 'false': a datum; 'true': the rest of a list. -/
def pdl (s : ByteArray) : Nat → Bool → Int → Nat → Nat → List Dt → PR
  | 0, _, _, _, _, _ => .bad 0 0
  | f + 1, false, lev, k, cnt, _ =>
    if h : skipA s k < s.size then
      if 400 < cnt + 1 then .bad (skipA s k) 1
      else if 40 < lev then .bad (skipA s k) 8
      else if s[skipA s k] = 41 then .bad (skipA s k) 4
      else if s[skipA s k] = 39 then (pdl s f false (lev + 1) (skipA s k + 1) (cnt + 1) []).quoted
      else if s[skipA s k] = 40 then pdl s f true lev (skipA s k + 1) (cnt + 1) []
      else match atomR (s.extract (skipA s k) (wordA s (skipA s k))) with
        | .bad e => .bad (skipA s k) e
        | .good a b t => .good (wordA s (skipA s k)) (cnt + 1) (.mk a b t [])
    else .bad (skipA s k) 5
  | f + 1, true, lev, k, cnt, acc =>
    if closeB s (skipA s k) then .good (skipA s k + 1) cnt (.mk 4 0 ⟨#[]⟩ acc)
    else match pdl s f false (lev + 1) (skipA s k) cnt [] with
      | .bad p e => .bad p e
      | .good a c x => pdl s f true lev a c (acc ++ [x])
end Go.Proofs.YtbkagjngckfonaaDoor
