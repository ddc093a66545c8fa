import Derived.WalkKit
import Derived.Lib.Strings
import Derived.Lib.Bytealg
import Derived.Test.YtfhbdlobhjegcaaGreatDoorRows
import Derived.Test.YtfhbdlobhjegcaaGreatDoorShelf
import Derived.WalkSpells
import Derived.WalkLawsBesides
import Derived.Lib.Hide
import Derived.BigQuiet
import Derived.Deep.QuietTactic
import Derived.Deep.LoopGhost
import Derived.ProofKit
import Derived.Deep.Slices
import Derived.ChangeStays
import Derived.Below
import Derived.ChangeSame
import Derived.OpenShut
import Derived.LaidMore
import Derived.Stop.Joined
namespace Go.Proofs.YtfhbdlobhjegcaaGreatDoor
open Go.RowKit
set_option linter.unusedVariables false
def signs : List UInt8 := [43, 45, 42, 47, 60, 62, 61, 63, 33, 95]
def digB (c : UInt8) : Bool := decide (48 <= c.toNat) && decide (c.toNat <= 57)
def okB (c : UInt8) : Bool := (decide (97 <= c.toNat) && decide (c.toNat <= 122)) || digB c || signs.contains c
def nameB (l : List UInt8) : Bool :=
 match l with
 | [] => false
 | [a] => !digB a && okB a
 | a :: b :: r => decide (l.length <= 16) && !digB a && l.all okB && !(a == 45 && digB b)
theorem nameB_nil : nameB [] = false := rfl
theorem nameB_long {l : List UInt8} (h : 16 < l.length) : nameB l = false := by
 match l, h with
 | [a], h => simp at h
 | a :: b :: r, h => simp only [nameB]; rw [decide_eq_false (by omega)]; rfl
theorem nameB_digit {a : UInt8} {r : List UInt8} (h : digB a = true) : nameB (a :: r) = false := by
 cases r <;> simp [nameB, h]
theorem nameB_bad {l : List UInt8} (c : UInt8) (hc : c ∈ l) (h : okB c = false) : nameB l = false := by
 match l, hc with
 | [a], hc => simp at hc; subst hc; simp [nameB, h]
 | a :: b :: r, hc =>
  have : (a :: b :: r).all okB = false := by
   rw [List.all_eq_false]; exact ⟨c, hc, by simp [h]⟩
  simp only [nameB, this]; simp
theorem nameB_minus {b : UInt8} {r : List UInt8} (h : digB b = true) : nameB (45 :: b :: r) = false := by
 simp [nameB, h]
theorem nameB_one {a : UInt8} (h1 : digB a = false) (h : okB a = true) : nameB [a] = true := by simp [nameB, h1, h]
theorem nameB_yes {a b : UInt8} {r : List UInt8} (hl : (a :: b :: r).length <= 16) (h1 : digB a = false) (h : ∀ c ∈ a :: b :: r, okB c = true) (h2 : a ≠ 45 \/ digB b = false) : nameB (a :: b :: r) = true := by
 have h3 : (a :: b :: r).all okB = true := List.all_eq_true.2 h
 have h4 : (a == 45 && digB b) = false := by
  rcases h2 with h2 | h2
  ·
   simp [h2]
  simp [h2]
 simp only [nameB, h3, h4, h1]
 simp
 simp at hl
 omega
theorem str_nil {s : ByteArray} (h : s.size = 0) : s.toList = [] := by
 rw [ByteArray.toList_eq]; exact List.length_eq_zero_iff.1 ((Lib.size_eq s).symm.trans h)
theorem str_some {s : ByteArray} (h : 0 < s.size) : ¬ s.toList = [] := by
 rw [ByteArray.toList_eq]; intro e; have h2 := Lib.size_eq s; rw [e, List.length_nil] at h2; omega
theorem str_empty {s : ByteArray} (h : 0 < s.size) : s.toList.isEmpty = false := by
 have := str_some h; simp [this]
theorem str_cons {s : ByteArray} (h : 0 < s.size) : s.data.toList = s[0] :: s.data.toList.tail := by
 have hl : s.data.toList.length = s.size := by simp
 have hn : s.data.toList ≠ [] := by intro e; rw [e] at hl; simp at hl; omega
 conv => lhs; rw [<- List.cons_head_tail hn]
 congr 1
 rw [List.head_eq_getElem]; rfl
theorem str_mem {s : ByteArray} {k : Nat} (h : k < s.size) : s[k] ∈ s.data.toList :=
 List.getElem_mem (l := s.data.toList) (n := k) (by simpa using h)
theorem nameB_first {s : ByteArray} (h : 0 < s.size) (hd : digB s[0] = true) : nameB s.data.toList = false := by
 rw [str_cons h]; exact nameB_digit hd
theorem index_signs (c : UInt8) : 0 <= Lib.indexByte [43, 45, 42, 47, 60, 62, 61, 63, 33, 95] c ↔ signs.contains c = true := by
 have h : ∀ n : Fin 256, 0 <= Lib.indexByte [43, 45, 42, 47, 60, 62, 61, 63, 33, 95] (UInt8.ofNat n.1) ↔ signs.contains (UInt8.ofNat n.1) = true := by decide +kernel
 have := h ⟨c.toNat, c.toNat_lt⟩
 simpa using this
theorem okB_iff (c : UInt8) : okB c = true ↔ (97 <= (c.toNat : Int) /\ (c.toNat : Int) <= 122) \/ (48 <= (c.toNat : Int) /\ (c.toNat : Int) <= 57) \/ 0 <= Lib.indexByte [43, 45, 42, 47, 60, 62, 61, 63, 33, 95] c := by
 rw [index_signs]; unfold okB digB; simp only [Bool.or_eq_true, Bool.and_eq_true, decide_eq_true_eq]
 constructor
 ·
  rintro ((⟨h1, h2⟩ | ⟨h1, h2⟩) | h)
  ·
   exact Or.inl ⟨by omega, by omega⟩
  ·
   exact Or.inr (Or.inl ⟨by omega, by omega⟩)
  exact Or.inr (Or.inr h)
 rintro (⟨h1, h2⟩ | ⟨h1, h2⟩ | h)
 ·
  exact Or.inl (Or.inl ⟨by omega, by omega⟩)
 ·
  exact Or.inl (Or.inr ⟨by omega, by omega⟩)
 exact Or.inr h
theorem nameB_not {s : ByteArray} {k : Nat} (h : k < s.size) (hb : ¬ okB s[k] = true) : nameB s.data.toList = false :=
 nameB_bad s[k] (str_mem h) (by simpa using hb)
theorem nameB_end1 {s : ByteArray} (h0 : s.size = 1) (hd : digB (s[0]'(by omega)) = false) (hall : ∀ j, (h' : j < s.size) -> okB s[j] = true) : nameB s.data.toList = true := by
 have hc := str_cons (s := s) (by omega)
 have hl : s.data.toList.tail = [] := List.length_eq_zero_iff.1 (by rw [List.length_tail, <- Lib.size_eq, h0])
 rw [hc, hl]
 exact nameB_one hd (hall 0 (by omega))
theorem nameB_end2 {s : ByteArray} (h0 : 1 < s.size) (h16 : s.size <= 16) (hd : digB (s[0]'(by omega)) = false) (hall : ∀ j, (h' : j < s.size) -> okB s[j] = true) :
  nameB s.data.toList = !(decide (((s[0]'(by omega)).toNat : Int) = 45) && digB s[1]) := by
 have hs := Lib.size_eq s
 have hall' : ∀ c ∈ s.data.toList, okB c = true := by
  intro c hc
  obtain ⟨i, hi, rfl⟩ := List.getElem_of_mem hc
  exact hall i (by omega)
 obtain ⟨a, b, r, hr⟩ : ∃ a b r, s.data.toList = a :: b :: r := by
  match h : s.data.toList with
  | [] => rw [h] at hs; rw [hs] at h0; simp at h0
  | [a] => rw [h] at hs; rw [hs] at h0; simp at h0
  | a :: b :: r => exact ⟨a, b, r, rfl⟩
 have ha : s[0]'(by omega) = a := by
  have : s.data.toList[0]'(by omega) = a := by simp [hr]
  exact this
 have hb : s[1] = b := by
  have : s.data.toList[1]'(by omega) = b := by simp [hr]
  exact this
 rw [ha] at hd
 rw [ha, hb, hr]
 rw [hr] at hall' hs
 cases hdb : digB b
 ·
  rw [nameB_yes (by omega) hd hall' (Or.inr hdb)]; simp
 by_cases h45 : a = 45
 ·
  subst h45; rw [nameB_minus hdb]; rfl
 rw [nameB_yes (by omega) hd hall' (Or.inl h45)]
 have : ¬ ((a.toNat : Int) = 45) := by
  intro e; apply h45; apply UInt8.toNat_inj.1; simp; omega
 simp [this]
theorem nameB_end2' {s : ByteArray} (h1 : 1 < s.size) (h45 : ((s[0]'(by omega)).toNat : Int) = 45) : s.data.toList = List.cons (45 : UInt8) (List.cons (s[1]) s.data.toList.tail.tail) := by
 have h2 : s[0]'(by omega) = (45 : UInt8) := by apply UInt8.toNat_inj.1; simp; omega
 have hl := Lib.size_eq s
 have hn : s.data.toList.tail ≠ [] := by
  intro e; have := congrArg List.length e; rw [List.length_tail, List.length_nil] at this; omega
 rw [str_cons (by omega), h2]
 congr 1
 conv => lhs; rw [<- List.cons_head_tail hn]
 congr 1
 rw [List.head_eq_getElem, List.getElem_tail]; rfl
def okAt (c : UInt8) (m : Nat) : Bool := (decide (97 <= c.toNat) && decide (c.toNat <= 122)) || digB c || (signs.take m).contains c
theorem okAt_succ {c : UInt8} {m : Nat} (h : m < 10) : okAt c (m + 1) = (okAt c m || c == signs[m]'h) := by
 have e : signs.take (m + 1) = signs.take m ++ [signs[m]'h] := List.take_succ_eq_append_getElem h
 unfold okAt
 rw [e, List.contains_append, Bool.or_assoc]
 have e2 : [signs[m]'h].contains c = (c == signs[m]'h) := by
  rw [Bool.eq_iff_iff]; simp
 rw [e2]
 simp only [Bool.or_assoc]
theorem okAt_dig {c : UInt8} (h : digB c = true) : okAt c 0 = true := by simp [okAt, h]
theorem okAt_lo {c : UInt8} (h : ¬ digB c = true) (h2 : 97 <= (c.toNat : Int)) : okAt c 0 = decide ((c.toNat : Int) <= 122) := by
 have h3 : 97 <= c.toNat := by omega
 have h4 : digB c = false := by simpa using h
 unfold okAt
 rw [h4, decide_eq_true h3, Bool.eq_iff_iff]
 simp
 omega
theorem okAt_no {c : UInt8} (h : ¬ digB c = true) (h2 : (c.toNat : Int) < 97) : okAt c 0 = false := by
 have h3 : ¬ 97 <= c.toNat := by omega
 have h4 : digB c = false := by simpa using h
 unfold okAt
 rw [h4, decide_eq_false h3]
 simp
theorem okAt_end (c : UInt8) : okAt c 10 = okB c := rfl
theorem signs_get {m : Nat} (h : m < 10) (c : UInt8) (hs : m < (ByteArray.mk #[43, 45, 42, 47, 60, 62, 61, 63, 33, 95]).size) :
  ((c.toNat : Int) == (((ByteArray.mk #[43, 45, 42, 47, 60, 62, 61, 63, 33, 95])[m]'hs).toNat : Int)) = (c == signs[m]'h) := by
 have e : (ByteArray.mk #[43, 45, 42, 47, 60, 62, 61, 63, 33, 95])[m]'hs = signs[m]'h := rfl
 rw [e, Bool.eq_iff_iff]
 simp only [beq_iff_eq]
 constructor
 ·
  intro h'; apply UInt8.toNat_inj.1; omega
 rintro rfl; rfl
def inB (a b c : Int) : Bool := decide (b <= a) && decide (a <= c)
theorem inB_yes {a b c : Int} (h : b <= a /\ a <= c) : inB a b c = true := by unfold inB; simp; omega
theorem inB_no {a b c : Int} (h : a < b \/ c < a) : inB a b c = false := by
 unfold inB
 rcases h with h | h
 ·
  rw [decide_eq_false (by omega)]; rfl
 rw [decide_eq_false (p := a <= c) (by omega)]; simp
theorem inB_or (a b c : Int) : (inB a b c = true /\ b <= a /\ a <= c) \/ (inB a b c = false /\ (a < b \/ c < a)) := by
 by_cases h : b <= a /\ a <= c
 ·
  exact Or.inl ⟨inB_yes h, h⟩
 exact Or.inr ⟨inB_no (by omega), by omega⟩
/- Contracts of grafteryref.In, grafteryref.digit, read.symbol, grafteryref.NameMay. -/
theorem zj {a b : Bool} (h : a = b) : Ending.returned (.bool a) = .returned (.bool b) := by rw [h]
set_option maxHeartbeats 400000 in
theorem in_any (a b c : Int) (w : World) :
  Calls Tryz.prog 14 #[.int .i64 a, .int .i64 b, .int .i64 c] w fun e w' => e = .returned (.bool (inB a b c)) /\ w = w' := by
 go_enter Tryz.func14, Tryz.ntmps14
 go_wp2
 all_goals go_ret
 all_goals exact ⟨zj (by unfold inB; simp; try omega), rfl⟩
set_option maxHeartbeats 400000 in
theorem digit_any (a : UInt8) (w : World) :
  Calls Tryz.prog 71 #[.int .u8 (a.toNat : Int)] w fun e w' => e = .returned (.bool (digB a)) /\ w = w' := by
 go_enter Tryz.func71, Tryz.ntmps71
 go_wp2
 all_goals go_ret
 all_goals exact ⟨zj (by unfold digB; rw [Bool.eq_iff_iff]; simp; try omega), rfl⟩
set_option maxHeartbeats 1000000 in
theorem symbol_any (s : ByteArray) (hs : s.size <= maxLen) (w : World) :
  Calls Tryz.prog 109 #[.string s] w fun e w' => e = .returned (.bool (nameB s.data.toList)) /\ w = w' := by
 unfold maxLen at hs
 by_cases h0 : s.size = 0
 ·
  have e1 := str_nil h0
  have e2 : s.toList.isEmpty = true := by simp [e1]
  have HF := Lib.hid (show nameB s.data.toList = false from by rw [<- ByteArray.toList_eq, e1]; rfl)
  clear h0
  go_enter Tryz.func109, Tryz.ntmps109
  go_wp2
  go_ret
  exact ⟨zj HF.out.symm, rfl⟩
 have hpos : 0 < s.size := by omega
 have e1 := str_some hpos
 have e2 := str_empty hpos
 by_cases h16 : 16 < s.size
 ·
  have HF := Lib.hid (nameB_long (l := s.data.toList) (by simpa using h16))
  go_enter Tryz.func109, Tryz.ntmps109
  go_wp2
  go_ret
  exact ⟨zj HF.out.symm, rfl⟩
 clear h0
 by_cases hd : 48 <= (s[0].toNat : Int) /\ (s[0].toNat : Int) <= 57
 ·
  obtain ⟨hd1, hd2⟩ := hd
  have HF := Lib.hid (nameB_first hpos (by simp [digB]; omega))
  go_enter Tryz.func109, Tryz.ntmps109
  go_wp2
  go_ret
  exact ⟨zj HF.out.symm, rfl⟩
 have HD := Lib.hid (show digB s[0] = false from by simp [digB]; omega)
 have hd' : (s[0].toNat : Int) < 48 \/ 57 < (s[0].toNat : Int) := by omega
 clear hd
 rcases hd' with hd | hd
 all_goals
  go_enter Tryz.func109, Tryz.ntmps109
  go_wp2
  go_loop [24] (fun i => ∃ k : Nat, k <= s.size /\ i = .int .i64 k /\ ∀ j, (h : j < k) -> (h' : j < s.size) -> okB s[j] = true) (fun i => s.size - (intOf i).toNat)
  case atStart => exact ⟨0, by omega, rfl, fun j h => absurd h (by omega)⟩
  case round =>
   obtain ⟨k, hk, rfl, hall⟩ := hrel
   have HA := Lib.hid hall
   clear hall
   by_cases hlt : k < s.size
   ·
    go_wp2_with (go_at_call 114; refine (Tryz.strings_IndexByte _ _ _).mono ?_; rintro e w' ⟨rfl, rfl⟩)
    all_goals first
     | (go_ret; exact ⟨zj (nameB_not hlt (by rw [okB_iff]; omega)).symm, rfl⟩)
     | (go_round
        case rel =>
         refine ⟨k + 1, by omega, by go_num, fun j hj hj' => ?_⟩
         by_cases hjk : j = k
         ·
          subst hjk; rw [okB_iff]; omega
         exact HA.out j (by omega) hj'
        case measure => simp [intOf]; omega)
   obtain rfl : k = s.size := by omega
   go_wp2
   all_goals
    go_ret
    first
     | exact ⟨zj (nameB_end1 (by omega) HD.out (fun j hj => HA.out j hj hj)).symm, rfl⟩
     | exact ⟨zj (by rw [nameB_end2 (by omega) (by omega) HD.out (fun j hj => HA.out j hj hj), Bool.eq_iff_iff]; simp [digB]; omega), rfl⟩
/- Contract of grafteryref.NameMay. -/
set_option maxHeartbeats 2000000 in
theorem nameMay_any (s : ByteArray) (hs : s.size <= maxLen) (w : World) :
  Calls Tryz.prog 34 #[.string s] w fun e w' => e = .returned (.bool (nameB s.data.toList)) /\ ∃ n, w' = w.drewN n := by
 unfold maxLen at hs
 by_cases h0 : s.size = 0
 ·
  have e1 := str_nil h0
  have e2 : s.toList.isEmpty = true := by simp [e1]
  have e3 : inB (s.size : Int) 1 16 = false := inB_no (by omega)
  have HF := Lib.hid (show nameB s.data.toList = false from by rw [<- ByteArray.toList_eq, e1]; rfl)
  go_enter Tryz.func34, Tryz.ntmps34
  go_wp2_with (first | (go_at_call 14; refine (in_any _ _ _ _).mono ?_; rintro e w' ⟨rfl, rfl⟩) | (go_at_call 71; refine (digit_any _ _).mono ?_; rintro e w' ⟨rfl, rfl⟩))
  go_ret
  exact ⟨zj HF.out.symm, 0, rfl⟩
 have hpos : 0 < s.size := by omega
 clear h0
 by_cases h16 : 16 < s.size
 ·
  have HF := Lib.hid (nameB_long (l := s.data.toList) (by simpa using h16))
  have e3 : inB (s.size : Int) 1 16 = false := inB_no (by omega)
  go_enter Tryz.func34, Tryz.ntmps34
  go_wp2_with (first | (go_at_call 14; refine (in_any _ _ _ _).mono ?_; rintro e w' ⟨rfl, rfl⟩) | (go_at_call 71; refine (digit_any _ _).mono ?_; rintro e w' ⟨rfl, rfl⟩))
  go_ret
  exact ⟨zj HF.out.symm, 0, rfl⟩
 have e3 : inB (s.size : Int) 1 16 = true := inB_yes (by omega)
 by_cases hd : digB s[0] = true
 ·
  have HF := Lib.hid (nameB_first hpos hd)
  go_enter Tryz.func34, Tryz.ntmps34
  go_wp2_with (first | (go_at_call 14; refine (in_any _ _ _ _).mono ?_; rintro e w' ⟨rfl, rfl⟩) | (go_at_call 71; refine (digit_any _ _).mono ?_; rintro e w' ⟨rfl, rfl⟩))
  go_ret
  exact ⟨zj HF.out.symm, 0, rfl⟩
 have hd0 : digB s[0] = false := by simpa using hd
 clear hd
 by_cases hbad : ∃ h : 1 < s.size, (s[0].toNat : Int) = 45 /\ digB s[1] = true
 ·
  obtain ⟨h1, h45, hd1⟩ := hbad
  have HF := Lib.hid (show nameB s.data.toList = false from by
   rw [nameB_end2' h1 h45]
   exact nameB_minus hd1)
  have h45' : ((s[0].toNat : Int) == 45) = true := by simpa using h45
  clear h45
  go_enter Tryz.func34, Tryz.ntmps34
  go_wp2_with (first | (go_at_call 14; refine (in_any _ _ _ _).mono ?_; rintro e w' ⟨rfl, rfl⟩) | (go_at_call 71; refine (digit_any _ _).mono ?_; rintro e w' ⟨rfl, rfl⟩))
  go_ret
  exact ⟨zj HF.out.symm, 0, rfl⟩
 have hgood : ((s[0].toNat : Int) == 45) = false \/ (((s[0].toNat : Int) == 45) = true /\ s.size <= 1) \/ (∃ h : 1 < s.size, ((s[0].toNat : Int) == 45) = true /\ digB s[1] = false) := by
  by_cases h45 : (s[0].toNat : Int) = 45
  ·
   by_cases h1 : 1 < s.size
   ·
    exact Or.inr (Or.inr ⟨h1, by simpa using h45, by simpa using fun h => hbad ⟨h1, h45, h⟩⟩)
   ·
    exact Or.inr (Or.inl ⟨by simpa using h45, by omega⟩)
  exact Or.inl (by simpa using h45)
 have HN := Lib.hid (show ∀ (h : 1 < s.size), (s[0].toNat : Int) = 45 -> digB s[1] = false from fun h h45 => by simpa using fun h' => hbad ⟨h, h45, h'⟩)
 clear hbad
 rcases hgood with h45 | ⟨h45, h1⟩ | ⟨h1, h45, hd1⟩
 all_goals
  go_enter Tryz.func34, Tryz.ntmps34
  go_wp2_with (first | (go_at_call 14; refine (in_any _ _ _ _).mono ?_; rintro e w' ⟨rfl, rfl⟩) | (go_at_call 71; refine (digit_any _ _).mono ?_; rintro e w' ⟨rfl, rfl⟩))
  go_loopg [3] s.size (fun g i wr => ∃ k n : Nat, g = s.size - k /\ k <= s.size /\ i = .int .i64 k /\ wr = w.drewN n /\ ∀ j, (h : j < k) -> (h' : j < s.size) -> okB s[j] = true)
  case atStart => exact ⟨0, 0, by omega, by omega, rfl, rfl, fun j h => absurd h (by omega)⟩
  case round =>
   obtain ⟨k, n, hg, hk, rfl, rfl, hall⟩ := hrel
   have HG := Lib.hid hg
   clear hg
   have HA := Lib.hid hall
   clear hall
   by_cases hlt : k < s.size
   ·
    go_wp2_with (first | (go_at_call 71; refine (digit_any _ _).mono ?_; rintro e w' ⟨rfl, rfl⟩))
    all_goals
     go_loopw [4, 5] (fun b i wr => ∃ m n' : Nat, m <= 10 /\ i = .int .i64 m /\ b = .bool (okAt s[k] m) /\ wr = w.drewN n') (fun _ i _ => 10 - (intOf i).toNat)
     case atStart => exact ⟨0, n, by omega, rfl, congrArg Value.bool (by first | rw [okAt_dig ‹_›] | rw [okAt_lo ‹_› ‹_›] | rw [okAt_no ‹_› ‹_›]), rfl⟩
     obtain ⟨m, n', hm, rfl, rfl, rfl⟩ := hrel
     by_cases hm' : m < 10
     ·
      cases hb : okAt s[k] m
      ·
       go_wp2
       go_quiet (fail)
       go_wp2
       go_roundw
       case rel => exact ⟨m + 1, _, by omega, by go_num, by rw [okAt_succ hm', hb, signs_get hm']; rfl, rfl⟩
       case measure => simp [intOf]; omega
      go_wp2
      go_quiet (fail)
      go_wp2
      go_roundw
      case rel => exact ⟨m + 1, _, by omega, by go_num, by rw [okAt_succ hm', hb]; rfl, rfl⟩
      case measure => simp [intOf]; omega
     obtain rfl : m = 10 := by omega
     cases hb : okAt s[k] 10
     ·
      go_wp2
      go_ret
      exact ⟨zj (nameB_bad s[k] (str_mem hlt) hb).symm, _, rfl⟩
     go_wp2
     have hg := HG.out
     go_roundg (s.size - (k + 1))
     case measure => omega
     case rel =>
      refine ⟨k + 1, _, rfl, by omega, by go_num, rfl, fun j hj hj' => ?_⟩
      by_cases hjk : j = k
      ·
       subst hjk; exact hb
      exact HA.out j (by omega) hj'
   obtain rfl : k = s.size := by omega
   go_wp2
   go_ret
   refine ⟨zj ?_, n, rfl⟩
   by_cases h1 : s.size = 1
   ·
    exact (nameB_end1 h1 hd0 (fun j hj => HA.out j hj hj)).symm
   ·
    rw [nameB_end2 (by omega) (by omega) hd0 (fun j hj => HA.out j hj hj)]
    cases h45 : decide ((s[0].toNat : Int) = 45)
    ·
     rfl
    rw [HN.out (by omega) (of_decide_eq_true h45)]; rfl
/- How values of this program read in memory: 'Rd w t cs d': the cells cs of type t read, in w, as the datum d. It stays while memory below the heap's end stays. -/
open Go.RowKit Go.ChangeShapes Go.WideShapes Go.Deep
theorem laidOut : laidOutB Tryz.prog = true := by kernel_rfl
section
variable {H : Type} {enc : TypeId × Value -> H}
def Rd (enc : TypeId × Value -> H) (w : World) (t : TypeId) (cs : List Value) (d : DataW H) : Prop :=
 ∃ n ps, DataW.trod enc Tryz.prog w 0 (fun _ => true) true n t cs = some (d, ps)
theorem Rd.below {w w' : World} {t : TypeId} {cs : List Value} {d : DataW H} (hr : Tryz.prog.readableRec t = true) (ht : t < Tryz.prog.types.size) (h : Rd enc w t cs d) (hb : Below w.heap.size w w') : Rd enc w' t cs d := by
 obtain ⟨n, ps, h⟩ := h
 exact ⟨n, ps, DataW.trod_stays (kids_book laidOut hr) (book_sized hr) (fun h => by cases h) ⟨ht, book_self t⟩ h (fun x hx => hb.same (DataW.trod_lt _ _ _ _ h x hx)) (fun _ _ => rfl)⟩
theorem Rd.int {w : World} {t : TypeId} {cs : List Value} {d : DataW H} (ht : Tryz.prog.underlying t = some (.int .i64)) (h : Rd enc w t cs d) :
  ∃ n : Int, cs = [.int .i64 n] /\ d = .lit (.int .i64 n) /\ -9223372036854775808 <= n /\ n <= 9223372036854775807 := by
 obtain ⟨f, ps, h⟩ := h
 obtain ⟨n, hc, hx, hw⟩ := DataW.trod_int ht h
 simp only [Prod.mk.injEq] at hx
 have hx' : -9223372036854775808 <= n /\ n <= 9223372036854775807 := by simpa [Lit.wf, IntKind.min, IntKind.max, IntKind.signed, IntKind.bits] using hw
 exact ⟨n, hc, hx.1, hx'⟩
theorem Rd.string {w : World} {t : TypeId} {cs : List Value} {d : DataW H} (ht : Tryz.prog.underlying t = some .string) (h : Rd enc w t cs d) :
  ∃ s : ByteArray, cs = [.string s] /\ d = .lit (.string s.data.toList) /\ s.size <= maxLen := by
 obtain ⟨f, ps, h⟩ := h
 obtain ⟨s, hc, hx, hw⟩ := DataW.trod_string ht h
 simp only [Prod.mk.injEq] at hx
 exact ⟨s, hc, hx.1, hw⟩
def elems : DataW H -> List (DataW H)
 | .slice es _ => es
 | _ => []
def RowAt (w : World) (b o : Nat) (cs : List Value) : Prop := ∀ j, j < cs.length -> w.cell? ⟨b, o + j, none⟩ = cs[j]?
theorem RowAt.lt {w : World} {b o : Nat} {cs : List Value} (h : RowAt w b o cs) (hc : 0 < cs.length) : b < w.heap.size := by
 have := h 0 hc
 rw [List.getElem?_eq_getElem hc] at this
 unfold World.cell? at this
 split at this
 ·
  rename_i e; exact (Array.getElem?_eq_some_iff.1 e).1
 cases this
theorem spot_of {w : World} {a : Addr} {v : Value} (h : w.cell? a = some v) : a = ⟨a.block, a.off, none⟩ := by
 unfold World.cell? at h
 split at h
 ·
  split at h
  ·
   cases h
  rename_i hs
  obtain ⟨b, o, s⟩ := a
  cases s
  ·
   rfl
  simp at hs
 cases h
theorem Rd.slice {w : World} {t e C : Nat} {cs : List Value} {d : DataW H} (ht : Tryz.prog.underlying t = some (.slice e)) (hC : Tryz.prog.cellsOf e = C) (hC0 : 0 < C) (h : Rd enc w t cs d) :
  ∃ (A : Option Addr) (len cap : Nat), cs = [.slice A len cap] /\ len <= cap /\ cap <= maxLen /\ (elems d).length = len /\ (len = 0 -> d = .nil \/ ∃ r, d = .slice [] r) ∧
   (0 < len -> ∃ b o, A = some ⟨b, o, none⟩ /\ b < w.heap.size /\ ∀ i, (hi : i < (elems d).length) -> ∃ cs', cs'.length = C /\ RowAt w b (o + i * C) cs' /\ Rd enc w e cs' (elems d)[i]) := by
 obtain ⟨f, ps, h⟩ := h
 rcases open_slice ht h with ⟨hc, hx⟩ | ⟨a, len, cap, m, n, D, Pl, hc, hb, hl, hm, hmm, hx, hi⟩
 ·
  simp only [Prod.mk.injEq] at hx
  obtain ⟨rfl, _⟩ := hx
  exact ⟨none, 0, 0, hc, by omega, by unfold maxLen; omega, rfl, fun _ => Or.inl rfl, fun h => absurd h (by omega)⟩
 ·
  simp only [Prod.mk.injEq] at hx
  obtain ⟨rfl, _⟩ := hx
  refine ⟨some a, len, cap, hc, hl, hm, by simp [elems], fun h0 => Or.inr ⟨_, by rw [h0]; rfl⟩, fun hpos => ?_⟩
  simp only [if_true] at hmm
  have hrow : ∀ i, i < len -> ∃ cs', cs'.length = C /\ (∀ j, j < C -> w.cell? ((a.add (i * C)).add j) = cs'[j]?) /\ Rd enc w e cs' (D i) := by
   intro i hlt
   obtain ⟨cs', hcs, hr⟩ := hi i (by omega)
   obtain ⟨_, hlen, hat⟩ := World.cells?_some hcs
   rw [hC] at hlen hat
   exact ⟨cs', hlen, hat, n, _, hr⟩
  obtain ⟨cs0, hl0, hat0, _⟩ := hrow 0 hpos
  have h00 := hat0 0 hC0
  rw [List.getElem?_eq_getElem (by omega)] at h00
  have ha : a = ⟨a.block, a.off, none⟩ := by
   have e1 : (a.add (0 * C)).add 0 = a := by simp [Addr.add]
   rw [e1] at h00
   exact spot_of h00
  obtain ⟨b, o, s⟩ := a
  simp only [Addr.mk.injEq, true_and] at ha
  subst ha
  have hadd : ∀ i j, (Addr.add ⟨b, o, none⟩ (i * C)).add j = ⟨b, o + i * C + j, none⟩ := by
   intro i j
   unfold Addr.add
   by_cases h1 : i * C = 0 <;> by_cases h2 : j = 0 <;> simp [h1, h2]
  refine ⟨b, o, rfl, ?_, ?_⟩
  ·
   have e2 := hadd 0 0
   rw [e2] at h00
   unfold World.cell? at h00
   split at h00
   ·
    rename_i e; exact (Array.getElem?_eq_some_iff.1 e).1
   cases h00
  intro i hlt
  have hlt' : i < len := by simpa [elems] using hlt
  obtain ⟨cs', h1, h2, h3⟩ := hrow i hlt'
  refine ⟨cs', h1, ?_, ?_⟩
  ·
   intro j hj
   rw [<- h2 j (by omega), hadd]
  have e3 : (elems (DataW.slice (List.map D (List.range len)) (List.map (fun j => D (len + j)) (List.range (m - len)))))[i] = D i := by simp [elems]
  rw [e3]; exact h3
theorem RowAt.below {w w' : World} {b o : Nat} {cs : List Value} {B : Nat} (h : RowAt w b o cs) (hb : Below B w w') (hB : b < B) : RowAt w' b o cs :=
 fun j hj => (hb.cell (p := ⟨b, o + j, none⟩) hB).trans (h j hj)
end
/- Data (api.Datum) in memory, and what read.Check and grafteryref.DatumFault answer of one. -/
set_option maxRecDepth 20000
theorem readableDatum : Tryz.prog.readableRec 24 = true := by kernel_rfl
theorem rowDatum : 24 < Tryz.prog.types.size := of_decide_eq_true (by kernel_rfl)
theorem cellsDatum : Tryz.prog.cellsOf 24 = 4 := by kernel_rfl
theorem cellsInt : Tryz.prog.cellsOf 3 = 1 := by kernel_rfl
theorem cellsString : Tryz.prog.cellsOf 9 = 1 := by kernel_rfl
theorem cellsSlDatum : Tryz.prog.cellsOf 22 = 1 := by kernel_rfl
theorem ret_i {a b : Int} (h : a = b) : Ending.returned (.int .i64 a) = .returned (.int .i64 b) := by rw [h]
section
variable {H : Type} {enc : TypeId × Value -> H}
structure SlAt (enc : TypeId × Value -> H) (w : World) (e C : Nat) (A : Option Addr) (len cap : Nat) (it : DataW H) : Prop where
 le : len <= cap
 wide : cap <= maxLen
 size : (elems it).length = len
 at_ : 0 < len -> ∃ b o, A = some ⟨b, o, none⟩ /\ b < w.heap.size /\ ∀ i, (hi : i < (elems it).length) -> ∃ cs', cs'.length = C /\ RowAt w b (o + i * C) cs' /\ Rd enc w e cs' (elems it)[i]
theorem Rd.slAt {w : World} {t e C : Nat} {cs : List Value} {d : DataW H} (ht : Tryz.prog.underlying t = some (.slice e)) (hC : Tryz.prog.cellsOf e = C) (hC0 : 0 < C) (h : Rd enc w t cs d) :
  ∃ (A : Option Addr) (len cap : Nat), cs = [.slice A len cap] /\ SlAt enc w e C A len cap d := by
 obtain ⟨A, len, cap, h1, h2, h3, h4, _, h6⟩ := h.slice ht hC hC0
 exact ⟨A, len, cap, h1, h2, h3, h4, h6⟩
theorem Rd.datum {w : World} {cs : List Value} {d : DataW H} (h : Rd enc w 24 cs d) :
  ∃ (k n : Int) (s : ByteArray) (A : Option Addr) (len cap : Nat) (it : DataW H), cs = [.int .i64 k, .int .i64 n, .string s, .slice A len cap] ∧
   d = .agg [.lit (.int .i64 k), .lit (.int .i64 n), .lit (.string s.data.toList), it] /\ (-9223372036854775808 <= k /\ k <= 9223372036854775807) /\ (-9223372036854775808 <= n /\ n <= 9223372036854775807) /\ s.size <= maxLen ∧
   SlAt enc w 24 4 A len cap it := by
 obtain ⟨f, ps, h⟩ := h
 obtain ⟨xs, m, _, hx, hl, hlen, hf⟩ := DataW.trod_struct Tryz.underlying24 h
 rw [cellsDatum] at hl
 match cs, hl, xs, hlen with
 | [c0, c1, c2, c3], _, [y0, y1, y2, y3], _ =>
  simp only [Prod.mk.injEq] at hx
  have h0 : Rd enc w 3 [c0] y0.1 := ⟨m, y0.2, by simpa [cellsInt] using hf 0 _ rfl⟩
  have h1 : Rd enc w 3 [c1] y1.1 := ⟨m, y1.2, by simpa [cellsInt] using hf 1 _ rfl⟩
  have h2 : Rd enc w 9 [c2] y2.1 := ⟨m, y2.2, by simpa [cellsString] using hf 2 _ rfl⟩
  have h3 : Rd enc w 22 [c3] y3.1 := ⟨m, y3.2, by simpa [cellsSlDatum] using hf 3 _ rfl⟩
  obtain ⟨k, e0, d0, k1, k2⟩ := h0.int Tryz.underlying3
  obtain ⟨n, e1, d1, n1, n2⟩ := h1.int Tryz.underlying3
  obtain ⟨s, e2, d2, s1⟩ := h2.string Tryz.underlying9
  obtain ⟨A, len, cap, e3, hs⟩ := h3.slAt Tryz.underlying22 cellsDatum (by decide)
  simp only [List.cons.injEq, and_true] at e0 e1 e2 e3
  subst e0 e1 e2 e3
  refine ⟨k, n, s, A, len, cap, y3.1, rfl, ?_, ⟨k1, k2⟩, ⟨n1, n2⟩, s1, hs⟩
  rw [hx.1]
  simp [d0, d1, d2]
def dKind : DataW H -> Int
 | .agg (.lit (.int _ k) :: _) => k
 | _ => 0
def dN : DataW H -> Int
 | .agg (_ :: .lit (.int _ n) :: _) => n
 | _ => 0
def dS : DataW H -> List UInt8
 | .agg (_ :: _ :: .lit (.string s) :: _) => s
 | _ => []
def dItems : DataW H -> List (DataW H)
 | .agg (_ :: _ :: _ :: it :: _) => elems it
 | _ => []
def firstErr : List Int -> Int
 | [] => 0
 | e :: r => if e = 0 then firstErr r else e
def headFault (k n : Int) (nm : Bool) (z m : Nat) : Int :=
 if (k = 1 /\ (n < -1099511627776 \/ 1099511627776 < n)) \/ (k = 2 /\ (n < 0 \/ 1 < n)) then 2
 else if k = 3 /\ nm = false then 4
 else if (3 <= k /\ n ≠ 0) \/ (k ≠ 3 /\ z ≠ 0) \/ (k ≠ 4 /\ m ≠ 0) then 4 else 0
theorem hf2 {k n : Int} {nm : Bool} {z m : Nat} (h : (k = 1 /\ (n < -1099511627776 \/ 1099511627776 < n)) \/ (k = 2 /\ (n < 0 \/ 1 < n))) : headFault k n nm z m = 2 := by
 unfold headFault; rw [if_pos h]
theorem hf4n {k n : Int} {nm : Bool} {z m : Nat} (h : k = 3) (hn : nm = false) : headFault k n nm z m = 4 := by
 unfold headFault; rw [if_neg (by omega), if_pos ⟨h, hn⟩]
theorem hf4 {k n : Int} {nm : Bool} {z m : Nat} (h : ¬ ((k = 1 /\ (n < -1099511627776 \/ 1099511627776 < n)) \/ (k = 2 /\ (n < 0 \/ 1 < n)))) (hn : k = 3 -> nm = true) (h3 : (3 <= k /\ n ≠ 0) \/ (k ≠ 3 /\ z ≠ 0) \/ (k ≠ 4 /\ m ≠ 0)) : headFault k n nm z m = 4 := by
 unfold headFault; rw [if_neg h, if_neg (fun h' => by rw [hn h'.1] at h'; exact absurd h'.2 (by simp)), if_pos h3]
theorem hf0 {k n : Int} {nm : Bool} {z m : Nat} (h : ¬ ((k = 1 /\ (n < -1099511627776 \/ 1099511627776 < n)) \/ (k = 2 /\ (n < 0 \/ 1 < n)))) (hn : k = 3 -> nm = true) (h3 : ¬ ((3 <= k /\ n ≠ 0) \/ (k ≠ 3 /\ z ≠ 0) \/ (k ≠ 4 /\ m ≠ 0))) : headFault k n nm z m = 0 := by
 unfold headFault; rw [if_neg h, if_neg (fun h' => by rw [hn h'.1] at h'; exact absurd h'.2 (by simp)), if_neg h3]
def fault : Nat -> DataW H -> Int
 | 0, d => if dKind d < 1 \/ 4 < dKind d then 3 else 8
 | r + 1, d =>
  if dKind d < 1 \/ 4 < dKind d then 3
  else if headFault (dKind d) (dN d) (nameB (dS d)) (dS d).length (dItems d).length ≠ 0 then headFault (dKind d) (dN d) (nameB (dS d)) (dS d).length (dItems d).length
  else firstErr ((dItems d).map (fault r))
theorem firstErr_zero {l : List Int} (h : ∀ x ∈ l, x = 0) : firstErr l = 0 := by
 induction l with
 | nil => rfl
 | cons a l ih =>
  rw [firstErr, if_pos (h a (by simp))]
  exact ih fun x hx => h x (by simp [hx])
theorem firstErr_at {l : List Int} {i : Nat} (hi : i < l.length) (h : ∀ j, (hj : j < i) -> l[j] = 0) (hn : l[i] ≠ 0) : firstErr l = l[i] := by
 induction l generalizing i with
 | nil => simp at hi
 | cons a l ih =>
  cases i with
  | zero => simp at hn ⊢; rw [firstErr, if_neg hn]
  | succ i =>
   have h0 := h 0 (by omega)
   simp at h0
   rw [firstErr, if_pos h0]
   simp at hn ⊢
   exact ih (by simpa using hi) (fun j hj => by simpa using h (j + 1) (by omega)) hn
theorem fault_kind {r : Nat} {d : DataW H} (h : dKind d < 1 \/ 4 < dKind d) : fault r d = 3 := by
 cases r <;> simp only [fault] <;> rw [if_pos h]
theorem fault_deep {d : DataW H} (h : ¬ (dKind d < 1 \/ 4 < dKind d)) : fault 0 d = 8 := by
 simp only [fault]; rw [if_neg h]
theorem fault_head {r : Nat} {d : DataW H} (h : ¬ (dKind d < 1 \/ 4 < dKind d)) {e : Int} (he : headFault (dKind d) (dN d) (nameB (dS d)) (dS d).length (dItems d).length = e) (hne : e ≠ 0) : fault (r + 1) d = e := by
 simp only [fault]; rw [if_neg h, he, if_pos hne]
theorem fault_items {r : Nat} {d : DataW H} (h : ¬ (dKind d < 1 \/ 4 < dKind d)) (he : headFault (dKind d) (dN d) (nameB (dS d)) (dS d).length (dItems d).length = 0) : fault (r + 1) d = firstErr ((dItems d).map (fault r)) := by
 simp only [fault]; rw [if_neg h, he, if_neg (by simp)]
theorem fault_mk_kind {r : Nat} {k n : Int} {s : List UInt8} {it : DataW H} (hk : k < 1 \/ 4 < k) : fault r (.agg [.lit (.int .i64 k), .lit (.int .i64 n), .lit (.string s), it]) = 3 := fault_kind hk
theorem fault_mk_deep {k n : Int} {s : List UInt8} {it : DataW H} (hk : 1 <= k /\ k <= 4) : fault 0 (.agg [.lit (.int .i64 k), .lit (.int .i64 n), .lit (.string s), it]) = 8 := fault_deep (by simp only [dKind]; omega)
theorem fault_mk_bad {r : Nat} {k n e : Int} {s : List UInt8} {it : DataW H} (hk : 1 <= k /\ k <= 4) (he : headFault k n (nameB s) s.length (elems it).length = e) (hne : e ≠ 0) :
  fault (r + 1) (.agg [.lit (.int .i64 k), .lit (.int .i64 n), .lit (.string s), it]) = e := fault_head (by simp only [dKind]; omega) he hne
theorem fault_mk_ok {r : Nat} {k n : Int} {s : List UInt8} {it : DataW H} (hk : 1 <= k /\ k <= 4) (he : headFault k n (nameB s) s.length (elems it).length = 0) :
  fault (r + 1) (.agg [.lit (.int .i64 k), .lit (.int .i64 n), .lit (.string s), it]) = firstErr ((elems it).map (fault r)) := fault_items (by simp only [dKind]; omega) he
end
/- Contract of read.check. -/
section
variable {H : Type} {enc : TypeId × Value -> H}
set_option maxHeartbeats 1000000 in
theorem check_kind (k n lev : Int) (s : ByteArray) (A : Option Addr) (len cap : Nat) (w : World) (hk : k < 1 \/ 4 < k) :
  Calls Tryz.prog 96 #[.agg #[.int .i64 k, .int .i64 n, .string s, .slice A len cap], .int .i64 lev] w fun e w' => e = .returned (.int .i64 3) /\ Below w.heap.size w w' := by
 rcases hk with hk | hk
 all_goals
  go_enter Tryz.func96, Tryz.ntmps96
  go_wp2_with fail
  all_goals go_ret
  all_goals exact ⟨rfl, (Below.refl _ _).alloc (Nat.le_refl _) _⟩
set_option maxHeartbeats 1000000 in
theorem check_deep (k n lev : Int) (s : ByteArray) (A : Option Addr) (len cap : Nat) (w : World) (hk1 : 1 <= k) (hk4 : k <= 4) (hl : 40 < lev) :
  Calls Tryz.prog 96 #[.agg #[.int .i64 k, .int .i64 n, .string s, .slice A len cap], .int .i64 lev] w fun e w' => e = .returned (.int .i64 8) /\ Below w.heap.size w w' := by
 go_enter Tryz.func96, Tryz.ntmps96
 go_wp2_with fail
 go_ret
 exact ⟨rfl, (Below.refl _ _).alloc (Nat.le_refl _) _⟩
set_option maxHeartbeats 4000000 in
theorem check_step (r : Nat) (ih : ∀ (lev : Int) (w : World) (cs : List Value) (d : DataW H), lev + r = 41 -> 1 <= lev -> Rd enc w 24 cs d -> Calls Tryz.prog 96 #[.agg cs.toArray, .int .i64 lev] w fun e w' => e = .returned (.int .i64 (fault r d)) /\ Below w.heap.size w w')
  (k n lev : Int) (s : ByteArray) (A : Option Addr) (len cap : Nat) (it : DataW H) (w : World) (hl : lev + (r + 1 : Nat) = 41) (hl1 : 1 <= lev) (hk1 : 1 <= k) (hk4 : k <= 4) (hn : -9223372036854775808 <= n /\ n <= 9223372036854775807) (hs : s.size <= maxLen) (hA : SlAt enc w 24 4 A len cap it) :
  Calls Tryz.prog 96 #[.agg #[.int .i64 k, .int .i64 n, .string s, .slice A len cap], .int .i64 lev] w fun e w' => e = .returned (.int .i64 (fault (r + 1) (.agg [.lit (.int .i64 k), .lit (.int .i64 n), .lit (.string s.data.toList), it]))) /\ Below w.heap.size w w' := by
 have IH := Lib.hid ih
 have HL := Lib.hid hl
 have HA := Lib.hid hA
 have hl40 : lev <= 40 := by omega
 have hlen : len <= 9223372036854775807 := by have := hA.le; have := hA.wide; unfold maxLen at this; omega
 obtain ⟨hn1, hn2⟩ := hn
 clear ih hl hA
 have hz : (s.size = 0 /\ s.toList = [] /\ s.toList.isEmpty = true) \/ (0 < s.size /\ ¬ s.toList = [] /\ s.toList.isEmpty = false) := by
  by_cases h : s.size = 0
  ·
   exact Or.inl ⟨h, str_nil h, by simp [str_nil h]⟩
  exact Or.inr ⟨by omega, str_some (by omega), str_empty (by omega)⟩
 have hz0 : s.size = 0 \/ 0 < s.size := by omega
 have HF0 := Lib.hid (fault_mk_ok (r := r) (k := k) (n := n) (s := s.data.toList) (it := it) ⟨hk1, hk4⟩)
 have hn0 : n = 0 \/ (n == 0) = false := by
  by_cases h : n = 0
  ·
   exact Or.inl h
  exact Or.inr (by simpa using h)
 obtain rfl | rfl | rfl | rfl : k = 1 \/ k = 2 \/ k = 3 \/ k = 4 := by omega
 all_goals
  clear hk1 hk4
  rcases hz with ⟨hz1, hz2, hz3⟩ | ⟨hz1, hz2, hz3⟩
 all_goals
  rcases hn0 with rfl | hn0
 all_goals
  have HZ := Lib.hid hz1
  clear hz1 hz0
  go_enter Tryz.func96, Tryz.ntmps96
  go_wp2_with (go_at_call 109; refine (symbol_any _ hs _).mono ?_; rintro e w' ⟨rfl, rfl⟩)
  all_goals first
   | (go_ret
      have hz1 := HZ.out
      have hz5 : s.data.toList.length = s.size := (Lib.size_eq s).symm
      have hi := HA.out.size
      first
       | exact ⟨ret_i (fault_mk_bad (e := 2) (by omega) (hf2 (by omega)) (by decide)).symm, (Below.refl _ _).alloc (Nat.le_refl _) _⟩
       | exact ⟨ret_i (fault_mk_bad (e := 4) (by omega) (hf4n rfl (by simpa using ‹(!nameB _) = true›)) (by decide)).symm, (Below.refl _ _).alloc (Nat.le_refl _) _⟩
       | exact ⟨ret_i (fault_mk_bad (e := 4) (by omega) (hf4 (by omega) (by first | omega | exact fun _ => by simpa using ‹(!nameB _) = false›) (by omega)) (by decide)).symm, (Below.refl _ _).alloc (Nat.le_refl _) _⟩)
   | (have hz1 := HZ.out
      have hz5 : s.data.toList.length = s.size := (Lib.size_eq s).symm
      have hi := HA.out.size
      have HF := Lib.hid (HF0.out (hf0 (by omega) (by first | omega | exact fun _ => by simpa using ‹(!nameB _) = false›) (by omega)))
      clear hz1 hz5 hi
      go_loopw [92] (fun i wr => ∃ k : Nat, k <= len /\ i = .int .i64 k /\ Below w.heap.size w wr /\ ∀ j, j < k -> (hj : j < (elems it).length) -> fault r (elems it)[j] = 0) (fun i _ => len - (intOf i).toNat)
      case atStart => exact ⟨0, by omega, rfl, (Below.refl _ _).alloc (Nat.le_refl _) _, fun j h => absurd h (by omega)⟩
      case round =>
       obtain ⟨k, hk, rfl, hb, hall⟩ := hrel
       have HALL := Lib.hid hall
       clear hall
       by_cases hlt : k < len
       ·
        first
        | (exfalso; omega)
        | (obtain ⟨b, o, rfl, hbw, hrow⟩ := HA.out.at_ (by omega)
           obtain ⟨cs', hcl, hrw, hrd⟩ := hrow k (by rw [HA.out.size]; exact hlt)
           clear hrow
           obtain ⟨k', n', s', A', len', cap', it', rfl, hd', hk', hn', hs', hsl'⟩ := hrd.datum
           have hrw' := hrw.below hb hbw
           have c0 : wr.cell? ⟨b, o + k * 4, none⟩ = some (.int .i64 k') := hrw' 0 (by simp)
           have c1 : wr.cell? ⟨b, o + k * 4 + 1, none⟩ = some (.int .i64 n') := hrw' 1 (by simp)
           have c2 : wr.cell? ⟨b, o + k * 4 + 2, none⟩ = some (.string s') := hrw' 2 (by simp)
           have c3 : wr.cell? ⟨b, o + k * 4 + 3, none⟩ = some (.slice A' len' cap') := hrw' 3 (by simp)
           have HRD := Lib.hid hrd
           clear hrw hrw' hrd hd' hsl' hcl
           have hkl : k < (elems it).length := by rw [HA.out.size]; exact hlt
           obtain ⟨f, hf⟩ : ∃ f, f = fault r ((elems it)[k]'hkl) := ⟨_, rfl⟩
           have HFK := Lib.hid hf
           clear hf
           have HB := Lib.hid hb
           have hsz := hb.size
           clear hb
           go_wp2_with fail
           refine (IH.out (lev + 1) _ [.int .i64 k', .int .i64 n', .string s', .slice A' len' cap'] _ (by have := HL.out; omega) (by omega) (HRD.out.below readableDatum rowDatum (HB.out.alloc HB.out.size _))).mono ?_
           rintro e w1 ⟨rfl, hb1⟩
           rw [<- HFK.out]
           have HB1 := Lib.hid ((HB.out.alloc HB.out.size (.cells #[.int .i64 k', .int .i64 n', .string s', .slice A' len' cap'] 24)).trans (hb1.mono (by simp; omega)))
           clear hb1
           by_cases hf0 : f = 0
           ·
            have hf1 : (f != 0) = false := by simp [hf0]
            have HF0' := Lib.hid hf0
            clear hf0
            go_wp2_with fail
            go_roundw
            case rel =>
             refine ⟨k + 1, by omega, by go_num, HB1.out, fun j hj hj' => ?_⟩
             by_cases hjk : j = k
             ·
              subst hjk; exact HFK.out.symm.trans HF0'.out
             exact HALL.out j (by omega) hj'
            case measure => simp [intOf]; omega
           have hf1 : (f != 0) = true := by simpa using hf0
           have HF0' := Lib.hid hf0
           clear hf0
           go_wp2_with fail
           go_ret
           refine ⟨ret_i ?_, HB1.out⟩
           rw [HF.out, firstErr_at (i := k) (by simpa using hkl) (fun j hj => by simpa using HALL.out j hj (by omega)) (by simpa using HFK.out ▸ HF0'.out)]
           simpa using HFK.out)
       obtain rfl : k = len := by omega
       go_wp2_with fail
       go_ret
       refine ⟨ret_i ?_, hb⟩
       rw [HF.out, firstErr_zero]
       intro x hx
       obtain ⟨y, hy, rfl⟩ := List.mem_map.1 hx
       obtain ⟨i, hi, rfl⟩ := List.getElem_of_mem hy
       exact HALL.out i (by rw [<- HA.out.size]; exact hi) hi)
theorem check_any (r : Nat) : ∀ (lev : Int) (w : World) (cs : List Value) (d : DataW H), lev + r = 41 -> 1 <= lev -> Rd enc w 24 cs d →
  Calls Tryz.prog 96 #[.agg cs.toArray, .int .i64 lev] w fun e w' => e = .returned (.int .i64 (fault r d)) /\ Below w.heap.size w w' := by
 induction r with
 | zero =>
  intro lev w cs d hl hl1 hd
  obtain ⟨k, n, s, A, len, cap, it, rfl, rfl, hk, hn, hs, hA⟩ := hd.datum
  by_cases hk' : k < 1 \/ 4 < k
  ·
   rw [fault_mk_kind hk']
   exact check_kind k n lev s A len cap w hk'
  rw [fault_mk_deep (by omega)]
  exact check_deep k n lev s A len cap w (by omega) (by omega) (by omega)
 | succ r ih =>
  intro lev w cs d hl hl1 hd
  obtain ⟨k, n, s, A, len, cap, it, rfl, rfl, hk, hn, hs, hA⟩ := hd.datum
  by_cases hk' : k < 1 \/ 4 < k
  ·
   rw [fault_mk_kind hk']
   exact check_kind k n lev s A len cap w hk'
  exact check_step r ih k n lev s A len cap it w hl hl1 (by omega) (by omega) hn hs hA
end
/- Contract of grafteryref.datumFault. -/
section
variable {H : Type} {enc : TypeId × Value -> H}
set_option maxHeartbeats 1000000 in
theorem dfault_kind (k n lev : Int) (s : ByteArray) (A : Option Addr) (len cap : Nat) (w : World) (hk : k < 1 \/ 4 < k) :
  Calls Tryz.prog 73 #[.agg #[.int .i64 k, .int .i64 n, .string s, .slice A len cap], .int .i64 lev] w fun e w' => e = .returned (.int .i64 3) /\ Below w.heap.size w w' := by
 have hb := inB_no hk
 clear hk
 all_goals
  go_enter Tryz.func73, Tryz.ntmps73
  go_wp2_with (go_at_call 14; refine (in_any _ _ _ _).mono ?_; rintro e w' ⟨rfl, rfl⟩)
  all_goals go_ret
  all_goals exact ⟨rfl, (by first | exact (Below.refl _ _).alloc (Nat.le_refl _) _ | exact below_drewN ((Below.refl _ _).alloc (Nat.le_refl _) _) _)⟩
set_option maxHeartbeats 1000000 in
theorem dfault_deep (k n lev : Int) (s : ByteArray) (A : Option Addr) (len cap : Nat) (w : World) (hk1 : 1 <= k) (hk4 : k <= 4) (hl : 40 < lev) :
  Calls Tryz.prog 73 #[.agg #[.int .i64 k, .int .i64 n, .string s, .slice A len cap], .int .i64 lev] w fun e w' => e = .returned (.int .i64 8) /\ Below w.heap.size w w' := by
 have hb := inB_yes ⟨hk1, hk4⟩
 go_enter Tryz.func73, Tryz.ntmps73
 go_wp2_with (go_at_call 14; refine (in_any _ _ _ _).mono ?_; rintro e w' ⟨rfl, rfl⟩)
 go_ret
 exact ⟨rfl, (by first | exact (Below.refl _ _).alloc (Nat.le_refl _) _ | exact below_drewN ((Below.refl _ _).alloc (Nat.le_refl _) _) _)⟩
set_option maxHeartbeats 4000000 in
theorem dfault_step (r : Nat) (ih : ∀ (lev : Int) (w : World) (cs : List Value) (d : DataW H), lev + r = 41 -> 1 <= lev -> Rd enc w 24 cs d -> Calls Tryz.prog 73 #[.agg cs.toArray, .int .i64 lev] w fun e w' => e = .returned (.int .i64 (fault r d)) /\ Below w.heap.size w w')
  (k n lev : Int) (s : ByteArray) (A : Option Addr) (len cap : Nat) (it : DataW H) (w : World) (hl : lev + (r + 1 : Nat) = 41) (hl1 : 1 <= lev) (hk1 : 1 <= k) (hk4 : k <= 4) (hn : -9223372036854775808 <= n /\ n <= 9223372036854775807) (hs : s.size <= maxLen) (hA : SlAt enc w 24 4 A len cap it) :
  Calls Tryz.prog 73 #[.agg #[.int .i64 k, .int .i64 n, .string s, .slice A len cap], .int .i64 lev] w fun e w' => e = .returned (.int .i64 (fault (r + 1) (.agg [.lit (.int .i64 k), .lit (.int .i64 n), .lit (.string s.data.toList), it]))) /\ Below w.heap.size w w' := by
 have IH := Lib.hid ih
 have HL := Lib.hid hl
 have HA := Lib.hid hA
 have hl40 : lev <= 40 := by omega
 have hlen : len <= 9223372036854775807 := by have := hA.le; have := hA.wide; unfold maxLen at this; omega
 obtain ⟨hn1, hn2⟩ := hn
 clear ih hl hA
 have hz : (s.size = 0 /\ s.toList = [] /\ s.toList.isEmpty = true) \/ (0 < s.size /\ ¬ s.toList = [] /\ s.toList.isEmpty = false) := by
  by_cases h : s.size = 0
  ·
   exact Or.inl ⟨h, str_nil h, by simp [str_nil h]⟩
  exact Or.inr ⟨by omega, str_some (by omega), str_empty (by omega)⟩
 have hz0 : s.size = 0 \/ 0 < s.size := by omega
 have HF0 := Lib.hid (fault_mk_ok (r := r) (k := k) (n := n) (s := s.data.toList) (it := it) ⟨hk1, hk4⟩)
 have hn0 : n = 0 \/ (n == 0) = false := by
  by_cases h : n = 0
  ·
   exact Or.inl h
  exact Or.inr (by simpa using h)
 have hkb := inB_yes ⟨hk1, hk4⟩
 have hcase : (k = 1 /\ inB n (-1099511627776) 1099511627776 = true /\ -1099511627776 <= n /\ n <= 1099511627776) \/ (k = 1 /\ inB n (-1099511627776) 1099511627776 = false /\ (n < -1099511627776 \/ 1099511627776 < n)) ∨
   (k = 2 /\ inB n 0 1 = true /\ 0 <= n /\ n <= 1) \/ (k = 2 /\ inB n 0 1 = false /\ (n < 0 \/ 1 < n)) \/ k = 3 \/ k = 4 := by
  rcases inB_or n (-1099511627776) 1099511627776 with h1 | h1 <;> rcases inB_or n 0 1 with h2 | h2 <;> (have : k = 1 \/ k = 2 \/ k = 3 \/ k = 4 := by omega) <;> rcases this with h | h | h | h <;> simp [h, h1, h2]
 rcases hcase with ⟨rfl, hI, hJ⟩ | ⟨rfl, hI, hJ⟩ | ⟨rfl, hI, hJ⟩ | ⟨rfl, hI, hJ⟩ | rfl | rfl
 all_goals
  clear hk1 hk4
  rcases hz with ⟨hz1, hz2, hz3⟩ | ⟨hz1, hz2, hz3⟩
 all_goals
  rcases hn0 with rfl | hn0
 all_goals try (exfalso; omega)
 all_goals
  have HZ := Lib.hid hz1
  clear hz1 hz0
  go_enter Tryz.func73, Tryz.ntmps73
  go_wp2_with (first | (go_at_call 14; refine (in_any _ _ _ _).mono ?_; rintro e w' ⟨rfl, rfl⟩) | (go_at_call 34; refine (nameMay_any _ hs _).mono ?_; rintro e w' ⟨rfl, nd, rfl⟩))
  all_goals first
   | (go_ret
      have hz1 := HZ.out
      have hz5 : s.data.toList.length = s.size := (Lib.size_eq s).symm
      have hi := HA.out.size
      first
       | exact ⟨ret_i (fault_mk_bad (e := 2) (by omega) (hf2 (by omega)) (by decide)).symm, (by first | exact (Below.refl _ _).alloc (Nat.le_refl _) _ | exact below_drewN ((Below.refl _ _).alloc (Nat.le_refl _) _) _)⟩
       | exact ⟨ret_i (fault_mk_bad (e := 4) (by omega) (hf4n rfl (by simpa using ‹(!nameB _) = true›)) (by decide)).symm, (by first | exact (Below.refl _ _).alloc (Nat.le_refl _) _ | exact below_drewN ((Below.refl _ _).alloc (Nat.le_refl _) _) _)⟩
       | exact ⟨ret_i (fault_mk_bad (e := 4) (by omega) (hf4 (by omega) (by first | omega | exact fun _ => by simpa using ‹(!nameB _) = false›) (by omega)) (by decide)).symm, (by first | exact (Below.refl _ _).alloc (Nat.le_refl _) _ | exact below_drewN ((Below.refl _ _).alloc (Nat.le_refl _) _) _)⟩)
   | (have hz1 := HZ.out
      have hz5 : s.data.toList.length = s.size := (Lib.size_eq s).symm
      have hi := HA.out.size
      have HF := Lib.hid (HF0.out (hf0 (by omega) (by first | omega | exact fun _ => by simpa using ‹(!nameB _) = false›) (by omega)))
      clear hz1 hz5 hi
      go_loopw [5] (fun i wr => ∃ k : Nat, k <= len /\ i = .int .i64 k /\ wr.cell? ⟨w.heap.size, 3, none⟩ = some (.slice A len cap) /\ w.heap.size < wr.heap.size /\ Below w.heap.size w wr /\ ∀ j, j < k -> (hj : j < (elems it).length) -> fault r (elems it)[j] = 0) (fun i _ => len - (intOf i).toNat)
      case atStart => exact ⟨0, by omega, rfl, by simp, by simp, (by first | exact (Below.refl _ _).alloc (Nat.le_refl _) _ | exact below_drewN ((Below.refl _ _).alloc (Nat.le_refl _) _) _), fun j h => absurd h (by omega)⟩
      case round =>
       obtain ⟨k, hk, rfl, hbox, hbs, hb, hall⟩ := hrel
       have HALL := Lib.hid hall
       clear hall
       by_cases hlt : k < len
       ·
        first
        | (exfalso; omega)
        | (obtain ⟨b, o, rfl, hbw, hrow⟩ := HA.out.at_ (by omega)
           obtain ⟨cs', hcl, hrw, hrd⟩ := hrow k (by rw [HA.out.size]; exact hlt)
           clear hrow
           obtain ⟨k', n', s', A', len', cap', it', rfl, hd', hk', hn', hs', hsl'⟩ := hrd.datum
           have hrw' := hrw.below hb hbw
           have c0 : wr.cell? ⟨b, o + k * 4, none⟩ = some (.int .i64 k') := hrw' 0 (by simp)
           have c1 : wr.cell? ⟨b, o + k * 4 + 1, none⟩ = some (.int .i64 n') := hrw' 1 (by simp)
           have c2 : wr.cell? ⟨b, o + k * 4 + 2, none⟩ = some (.string s') := hrw' 2 (by simp)
           have c3 : wr.cell? ⟨b, o + k * 4 + 3, none⟩ = some (.slice A' len' cap') := hrw' 3 (by simp)
           have HRD := Lib.hid hrd
           clear hrw hrw' hrd hd' hsl' hcl
           have hkl : k < (elems it).length := by rw [HA.out.size]; exact hlt
           obtain ⟨f, hf⟩ : ∃ f, f = fault r ((elems it)[k]'hkl) := ⟨_, rfl⟩
           have HFK := Lib.hid hf
           clear hf
           have HB := Lib.hid hb
           have hsz := hb.size
           clear hb
           go_wp2_with fail
           refine (IH.out (lev + 1) _ [.int .i64 k', .int .i64 n', .string s', .slice A' len' cap'] _ (by have := HL.out; omega) (by omega) (HRD.out.below readableDatum rowDatum HB.out)).mono ?_
           rintro e w1 ⟨rfl, hb1⟩
           rw [<- HFK.out]
           have HB1 := Lib.hid (HB.out.trans (hb1.mono hsz))
           have hbox1 : w1.cell? ⟨w.heap.size, 3, none⟩ = some (.slice (some ⟨b, o, none⟩) len cap) := (hb1.cell (p := ⟨w.heap.size, 3, none⟩) hbs).trans hbox
           have hbs1 : w.heap.size < w1.heap.size := Nat.lt_of_lt_of_le hbs hb1.size
           clear hb1
           by_cases hf0 : f = 0
           ·
            have hf1 : (f != 0) = false := by simp [hf0]
            have HF0' := Lib.hid hf0
            clear hf0
            go_wp2_with fail
            go_roundw
            case rel =>
             refine ⟨k + 1, by omega, by go_num, hbox1, hbs1, HB1.out, fun j hj hj' => ?_⟩
             by_cases hjk : j = k
             ·
              subst hjk; exact HFK.out.symm.trans HF0'.out
             exact HALL.out j (by omega) hj'
            case measure => simp [intOf]; omega
           have hf1 : (f != 0) = true := by simpa using hf0
           have HF0' := Lib.hid hf0
           clear hf0
           go_wp2_with fail
           go_ret
           refine ⟨ret_i ?_, HB1.out⟩
           rw [HF.out, firstErr_at (i := k) (by simpa using hkl) (fun j hj => by simpa using HALL.out j hj (by omega)) (by simpa using HFK.out ▸ HF0'.out)]
           simpa using HFK.out)
       obtain rfl : k = len := by omega
       go_wp2_with fail
       go_ret
       refine ⟨ret_i ?_, hb⟩
       rw [HF.out, firstErr_zero]
       intro x hx
       obtain ⟨y, hy, rfl⟩ := List.mem_map.1 hx
       obtain ⟨i, hi, rfl⟩ := List.getElem_of_mem hy
       exact HALL.out i (by rw [<- HA.out.size]; exact hi) hi)
theorem dfault_any (r : Nat) : ∀ (lev : Int) (w : World) (cs : List Value) (d : DataW H), lev + r = 41 -> 1 <= lev -> Rd enc w 24 cs d →
  Calls Tryz.prog 73 #[.agg cs.toArray, .int .i64 lev] w fun e w' => e = .returned (.int .i64 (fault r d)) /\ Below w.heap.size w w' := by
 induction r with
 | zero =>
  intro lev w cs d hl hl1 hd
  obtain ⟨k, n, s, A, len, cap, it, rfl, rfl, hk, hn, hs, hA⟩ := hd.datum
  by_cases hk' : k < 1 \/ 4 < k
  ·
   rw [fault_mk_kind hk']
   exact dfault_kind k n lev s A len cap w hk'
  rw [fault_mk_deep (by omega)]
  exact dfault_deep k n lev s A len cap w (by omega) (by omega) (by omega)
 | succ r ih =>
  intro lev w cs d hl hl1 hd
  obtain ⟨k, n, s, A, len, cap, it, rfl, rfl, hk, hn, hs, hA⟩ := hd.datum
  by_cases hk' : k < 1 \/ 4 < k
  ·
   rw [fault_mk_kind hk']
   exact dfault_kind k n lev s A len cap w hk'
  exact dfault_step r ih k n lev s A len cap it w hl hl1 (by omega) (by omega) hn hs hA
end
/- The last step of a law's row: a walk that returns true and leaves what was there as it was gives the row's 'post'. -/
section
variable {H : Type} {enc : TypeId × Value -> H} {P : Program}
theorem post_of_below {f : Func} {s : ChangeSpec} {apart fresh handsOn again : Bool} {W W' : World} {args : Array Value} {v : Value} {ds gs : List (DataW H)} {before pa pv : List MemPlace}
  (hW : DataW.Whole enc P f.params.toList s.vars apart W args.toList ds gs before)
  (hres : ∀ (b : Nat) (sp : Nat -> Bool) (hd : Bool), DataW.TrodAll enc P W' b sp hd f.resultTypes.toList (v.resultList f.resultTypes.size) (s.fn H (ds ++ gs)).results [])
  (hargs : ∀ sp : Nat -> Bool, (∀ p ∈ before, sp p.block = true) -> DataW.TrodAll enc P W' 0 sp true f.params.toList args.toList (s.fn H (ds ++ gs)).args pa)
  (hvars : ∀ sp : Nat -> Bool, (∀ p ∈ before, sp p.block = true) -> DataW.TrodVars enc P W' sp s.vars (s.fn H (ds ++ gs)).vars pv)
  (hps : before = pa ++ pv) (hb : Below W.heap.size W W')
  (hok : ∀ (j : Nat) (t : TypeId) (r : Value), f.resultTypes[j]? = some t -> (v.resultList f.resultTypes.size)[j]? = some r -> Value.okWide P W' .any 0 t r) :
  s.post enc P f apart fresh handsOn again W args v W' := by
 have hlt : ∀ p ∈ before, p.block < W.heap.size := fun p hp => hW.lt p hp
 have hold : ∀ p ∈ before, (fun b => decide (b < W.heap.size)) p.block = true := fun p hp => by simpa using hlt p hp
 refine ⟨ds, gs, before, [], pa, pv, hW, hres _ _ _, hargs _ hold, hvars _ hold, World.keptBut_mono (fun p hp => ⟨hp, ?_⟩) (hb.frame (· ∈ before)), fun _ => ?_⟩
 ·
  rw [hps, List.mem_append] at hp
  exact Or.inr hp
 obtain ⟨_, _, _, _, _, hz, hn⟩ := hW
 refine ⟨hok, _, _, ([] ++ pa) ++ pv, ⟨[] ++ pa, pv, trodAll_append (hargs _ (fun _ _ => rfl)) (hres _ _ _), hvars _ (fun _ _ => rfl), rfl, ?_, ?_⟩, ?_⟩
 ·
  intro b off hp
  have hin : MemPlace.cell b off ∈ before := by rw [hps]; simpa using hp
  rw [hb.frozen (hlt _ hin)]
  exact hz b off hin
 ·
  intro ha
  have := hn ha
  rw [hps] at this
  simpa using this
 intro p hp _
 rw [hps]
 simpa using hp
end
section
variable {H : Type} {enc : TypeId × Value -> H}
theorem trodAll_stays {W W' : World} (hb : Below W.heap.size W W') {sp : Nat -> Bool} :
  ∀ {ts : List TypeId} {vs : List Value} {ds : List (DataW H)} {ps : List MemPlace}, (∀ t ∈ ts, Tryz.prog.readableRec t = true /\ t < Tryz.prog.types.size) -> (∀ p ∈ ps, sp p.block = true) →
   DataW.TrodAll enc Tryz.prog W 0 (fun _ => true) true ts vs ds ps -> DataW.TrodAll enc Tryz.prog W' 0 sp true ts vs ds ps
 | [], _, _, _, _, _, h => by
  obtain ⟨rfl, rfl, rfl⟩ := trodAll_nil h
  exact trodAll_mk0
 | t :: ts, _, _, _, hr, hs, h => by
  have hlt := DataW.TrodAll.lt h
  obtain ⟨v, vs1, d, ds1, p, q, rfl, rfl, rfl, h1, h2⟩ := trodAll_cons h
  obtain ⟨h1r, h1t⟩ := hr t (by simp)
  refine trodAll_cons_mk (WideElems.Trod_stays laidOut h1r h1t h1 (fun x hx => hb.same (hlt x (List.mem_append_left _ hx))) (fun x hx => hs x (List.mem_append_left _ hx))) ?_
  exact trodAll_stays hb (fun t ht => hr t (by simp [ht])) (fun x hx => hs x (List.mem_append_right _ hx)) h2
theorem law_post {f : Func} {s : ChangeSpec} {again : Bool} {W W' : World} {args : Array Value} {ds gs : List (DataW H)} {before : List MemPlace}
  (hrt : f.resultTypes = #[4]) (hv : s.vars = []) (hs : (s.fn H (ds ++ gs)).results = [.lit (.bool true)] /\ (s.fn H (ds ++ gs)).args = ds /\ (s.fn H (ds ++ gs)).vars = [])
  (hr : ∀ t ∈ f.params.toList, Tryz.prog.readableRec t = true /\ t < Tryz.prog.types.size)
  (hW : DataW.Whole enc Tryz.prog f.params.toList s.vars false W args.toList ds gs before) (hb : Below W.heap.size W W') :
  s.post enc Tryz.prog f false true false again W args (.bool true) W' := by
 have hW' := hW
 obtain ⟨p, q, hA, hV, rfl, hfz, hnd⟩ := hW
 rw [hv] at hV
 obtain ⟨rfl, rfl⟩ := trodVars_none hV
 simp only [List.append_nil] at hW' hs
 refine post_of_below (pa := p) (pv := []) hW' ?_ ?_ ?_ (by simp) hb ?_
 ·
  intro b sp hd
  rw [hrt]
  simp only [List.append_nil]
  rw [hs.1]
  exact trodAll_cons_mk (shut_bool Tryz.underlying4 true) trodAll_mk0
 ·
  intro sp hsp
  simp only [List.append_nil]
  rw [hs.2.1]
  exact trodAll_stays hb hr hsp hA
 ·
  intro sp hsp
  simp only [List.append_nil]
  rw [hs.2.2, hv]
  rfl
 exact ok_one hrt rfl (okWide_bool_mk Tryz.underlying4 true)
end
theorem box_cell {w w1 : World} {cs : Array Value} {t : TypeId} (hb : Below (w.alloc (.cells cs t)).heap.size (w.alloc (.cells cs t)) w1) {j : Nat} {v : Value} (hv : cs[j]? = some v) : w1.cell? ⟨w.heap.size, j, none⟩ = some v := by
 rw [hb.cell (p := ⟨w.heap.size, j, none⟩) (by simp)]
 have : (w.alloc (.cells cs t)).heap[w.heap.size]? = some (.cells cs t) := (MapKept.heap_alloc w _).1
 unfold World.cell?
 rw [this]
 simpa using hv
/- Contracts of read.Check and grafteryref.DatumFault. -/
open Go.RowKit Go.ChangeShapes Go.WideShapes Go.Deep Go.ChangeAt
section
variable {H : Type} {enc : TypeId × Value -> H}
set_option maxHeartbeats 400000 in
theorem readCheck_any (w : World) (cs : List Value) (d : DataW H) (hd : Rd enc w 24 cs d) :
  Calls Tryz.prog 62 #[.agg cs.toArray] w fun e w' => e = .returned (.int .i64 (fault 40 d)) /\ Below w.heap.size w w' := by
 obtain ⟨k, n, s, A, len, cap, it, rfl, hdd, hk, hn, hs, hA⟩ := hd.datum
 have HD := Lib.hid hd
 clear hd hdd hk hn hs hA
 go_enter Tryz.func62, Tryz.ntmps62
 go_wp2_with fail
 refine (check_any 40 1 _ [.int .i64 k, .int .i64 n, .string s, .slice A len cap] d (by omega) (by omega) (HD.out.below readableDatum rowDatum ?_)).mono ?_
 ·
  exact (Below.refl _ _).alloc (Nat.le_refl _) _
 rintro e w1 ⟨rfl, hb1⟩
 go_wp2_with fail
 go_ret
 exact ⟨rfl, ((Below.refl _ _).alloc (Nat.le_refl _) _).trans (hb1.mono (by simp))⟩
set_option maxHeartbeats 400000 in
theorem datumFault_any (w : World) (cs : List Value) (d : DataW H) (hd : Rd enc w 24 cs d) :
  Calls Tryz.prog 37 #[.agg cs.toArray] w fun e w' => e = .returned (.int .i64 (fault 40 d)) /\ Below w.heap.size w w' := by
 obtain ⟨k, n, s, A, len, cap, it, rfl, hdd, hk, hn, hs, hA⟩ := hd.datum
 have HD := Lib.hid hd
 clear hd hdd hk hn hs hA
 go_enter Tryz.func37, Tryz.ntmps37
 go_wp2_with fail
 refine (dfault_any 40 1 _ [.int .i64 k, .int .i64 n, .string s, .slice A len cap] d (by omega) (by omega) (HD.out.below readableDatum rowDatum ?_)).mono ?_
 ·
  exact (Below.refl _ _).alloc (Nat.le_refl _) _
 rintro e w1 ⟨rfl, hb1⟩
 go_wp2_with fail
 go_ret
 exact ⟨rfl, ((Below.refl _ _).alloc (Nat.le_refl _) _).trans (hb1.mono (by simp))⟩
theorem Rd.ofName (enc : TypeId × Value -> H) (w : World) (s : ByteArray) (hs : s.size <= maxLen) :
  Rd enc w 24 [.int .i64 3, .int .i64 0, .string s, .slice none 0 0] (.agg [.lit (.int .i64 3), .lit (.int .i64 0), .lit (.string s.data.toList), .nil]) := by
 refine ⟨2, [], ?_⟩
 have e := trod_struct_mk (enc := enc) (P := Tryz.prog) (w := w) (base := 0) (spare := fun _ => true) (held := true) (n := 1) (cs := [.int .i64 3, .int .i64 0, .string s, .slice none 0 0])
  (xs := [(.lit (.int .i64 3), []), (.lit (.int .i64 0), []), (.lit (.string s.data.toList), []), (.nil, [])]) Tryz.underlying24 (by rw [cellsDatum]; rfl)
  (by simp [DataW.trod, cellsInt, cellsString, cellsSlDatum, Tryz.underlying3, Tryz.underlying9, Tryz.underlying22, hs, Lit.wf, IntKind.min, IntKind.max, IntKind.signed, IntKind.bits])
 simpa using e
theorem fault_name (s : List UInt8) : fault (H := H) 40 (.agg [.lit (.int .i64 3), .lit (.int .i64 0), .lit (.string s), .nil]) = if nameB s then 0 else 4 := by
 cases h : nameB s
 ·
  exact fault_mk_bad (by omega) (hf4n rfl h) (by decide)
 rw [fault_mk_ok (by omega) (hf0 (by omega) (fun _ => h) (by simp [elems]))]
 rfl
end
/- Contracts of grafteryref.primArgs, isIn, isWord, freeName. -/
def prims2 : List (List UInt8) := [[43], [45], [42], [113, 117, 111, 116, 105, 101, 110, 116], [114, 101, 109, 97, 105, 110, 100, 101, 114], [61], [60], [99, 111, 110, 115], [101, 113, 63]]
def prims1 : List (List UInt8) := [[99, 97, 114], [99, 100, 114], [110, 117, 108, 108, 63], [112, 97, 105, 114, 63], [110, 111, 116], [101, 114, 114, 111, 114]]
def primN (l : List UInt8) : Int := if l ∈ prims2 then 2 else if l ∈ prims1 then 1 else -1
theorem primN_at {l c : List UInt8} {n : Int} (h : (l == c) = true) (hn : primN c = n) : n = primN l := by
 rw [beq_iff_eq.1 h]; exact hn.symm
theorem primN_no {l : List UInt8} (h : ∀ c ∈ prims2 ++ prims1, (l == c) = false) : -1 = primN l := by
 have h2 : l ∉ prims2 := fun hm => by have := h l (List.mem_append_left _ hm); simp at this
 have h1 : l ∉ prims1 := fun hm => by have := h l (List.mem_append_right _ hm); simp at this
 unfold primN; rw [if_neg h2, if_neg h1]
set_option maxHeartbeats 2000000 in
theorem primArgs_any (s : ByteArray) (w : World) :
  Calls Tryz.prog 33 #[.string s] w fun e w' => e = .returned (.int .i64 (primN s.toList)) /\ w = w' := by
 cases h0 : (s.toList == [43])
 case true =>
  go_enter Tryz.func33, Tryz.ntmps33
  go_wp2_with fail
  go_ret
  exact ⟨ret_i (primN_at h0 rfl), rfl⟩
 cases h1 : (s.toList == [45])
 case true =>
  go_enter Tryz.func33, Tryz.ntmps33
  go_wp2_with fail
  go_ret
  exact ⟨ret_i (primN_at h1 rfl), rfl⟩
 cases h2 : (s.toList == [42])
 case true =>
  go_enter Tryz.func33, Tryz.ntmps33
  go_wp2_with fail
  go_ret
  exact ⟨ret_i (primN_at h2 rfl), rfl⟩
 cases h3 : (s.toList == [113, 117, 111, 116, 105, 101, 110, 116])
 case true =>
  go_enter Tryz.func33, Tryz.ntmps33
  go_wp2_with fail
  go_ret
  exact ⟨ret_i (primN_at h3 rfl), rfl⟩
 cases h4 : (s.toList == [114, 101, 109, 97, 105, 110, 100, 101, 114])
 case true =>
  go_enter Tryz.func33, Tryz.ntmps33
  go_wp2_with fail
  go_ret
  exact ⟨ret_i (primN_at h4 rfl), rfl⟩
 cases h5 : (s.toList == [61])
 case true =>
  go_enter Tryz.func33, Tryz.ntmps33
  go_wp2_with fail
  go_ret
  exact ⟨ret_i (primN_at h5 rfl), rfl⟩
 cases h6 : (s.toList == [60])
 case true =>
  go_enter Tryz.func33, Tryz.ntmps33
  go_wp2_with fail
  go_ret
  exact ⟨ret_i (primN_at h6 rfl), rfl⟩
 cases h7 : (s.toList == [99, 111, 110, 115])
 case true =>
  go_enter Tryz.func33, Tryz.ntmps33
  go_wp2_with fail
  go_ret
  exact ⟨ret_i (primN_at h7 rfl), rfl⟩
 cases h8 : (s.toList == [101, 113, 63])
 case true =>
  go_enter Tryz.func33, Tryz.ntmps33
  go_wp2_with fail
  go_ret
  exact ⟨ret_i (primN_at h8 rfl), rfl⟩
 cases h9 : (s.toList == [99, 97, 114])
 case true =>
  go_enter Tryz.func33, Tryz.ntmps33
  go_wp2_with fail
  go_ret
  exact ⟨ret_i (primN_at h9 rfl), rfl⟩
 cases h10 : (s.toList == [99, 100, 114])
 case true =>
  go_enter Tryz.func33, Tryz.ntmps33
  go_wp2_with fail
  go_ret
  exact ⟨ret_i (primN_at h10 rfl), rfl⟩
 cases h11 : (s.toList == [110, 117, 108, 108, 63])
 case true =>
  go_enter Tryz.func33, Tryz.ntmps33
  go_wp2_with fail
  go_ret
  exact ⟨ret_i (primN_at h11 rfl), rfl⟩
 cases h12 : (s.toList == [112, 97, 105, 114, 63])
 case true =>
  go_enter Tryz.func33, Tryz.ntmps33
  go_wp2_with fail
  go_ret
  exact ⟨ret_i (primN_at h12 rfl), rfl⟩
 cases h13 : (s.toList == [110, 111, 116])
 case true =>
  go_enter Tryz.func33, Tryz.ntmps33
  go_wp2_with fail
  go_ret
  exact ⟨ret_i (primN_at h13 rfl), rfl⟩
 cases h14 : (s.toList == [101, 114, 114, 111, 114])
 case true =>
  go_enter Tryz.func33, Tryz.ntmps33
  go_wp2_with fail
  go_ret
  exact ⟨ret_i (primN_at h14 rfl), rfl⟩
 go_enter Tryz.func33, Tryz.ntmps33
 go_wp2_with fail
 go_ret
 refine ⟨ret_i (primN_no ?_), rfl⟩
 intro c hc
 simp only [prims2, prims1, List.cons_append, List.nil_append, List.mem_cons, List.not_mem_nil, or_false] at hc
 rcases hc with rfl | rfl | rfl | rfl | rfl | rfl | rfl | rfl | rfl | rfl | rfl | rfl | rfl | rfl | rfl <;> assumption
structure zt (w : World) (A : Option Addr) (len : Nat) (ss : List ByteArray) : Prop where
 size : ss.length = len
 at_ : 0 < len -> ∃ b o, A = some ⟨b, o, none⟩ /\ b < w.heap.size /\ ∀ i, (h : i < ss.length) -> w.cell? ⟨b, o + i, none⟩ = some (.string ss[i])
theorem zt.below {w w' : World} {A : Option Addr} {len : Nat} {ss : List ByteArray} (h : zt w A len ss) (hb : Below w.heap.size w w') : zt w' A len ss :=
 ⟨h.size, fun h0 => by
  obtain ⟨b, o, rfl, hl, hc⟩ := h.at_ h0
  exact ⟨b, o, rfl, Nat.lt_of_lt_of_le hl hb.size, fun i hi => (hb.cell (p := ⟨b, o + i, none⟩) hl).trans (hc i hi)⟩⟩
def inL (ss : List ByteArray) (s : ByteArray) : Bool := ss.any fun x => x.toList == s.toList
theorem inL_yes {ss : List ByteArray} {s : ByteArray} {k : Nat} (hk : k < ss.length) (h : (ss[k].toList == s.toList) = true) : inL ss s = true :=
 List.any_eq_true.2 ⟨ss[k], List.getElem_mem hk, h⟩
theorem inL_no {ss : List ByteArray} {s : ByteArray} (h : ∀ j, (hj : j < ss.length) -> (ss[j].toList == s.toList) = false) : inL ss s = false := by
 rw [inL, List.any_eq_false]
 intro x hx
 obtain ⟨i, hi, rfl⟩ := List.getElem_of_mem hx
 rw [h i hi]; simp
set_option maxHeartbeats 1000000 in
theorem isIn_any (s : ByteArray) (A : Option Addr) (len cap : Nat) (ss : List ByteArray) (w : World) (hc : cap <= maxLen) (hl : len <= cap) (hA : zt w A len ss) :
  Calls Tryz.prog 35 #[.slice A len cap, .string s] w fun e w' => e = .returned (.bool (inL ss s)) /\ w = w' := by
 have hlen : len <= 9223372036854775807 := by unfold maxLen at hc; omega
 have HA := Lib.hid hA
 clear hA
 go_enter Tryz.func35, Tryz.ntmps35
 go_wp2_with fail
 go_loop [5] (fun i => ∃ k : Nat, k <= len /\ i = .int .i64 k /\ ∀ j, j < k -> (hj : j < ss.length) -> (ss[j].toList == s.toList) = false) (fun i => len - (intOf i).toNat)
 case atStart => exact ⟨0, by omega, rfl, fun j h => absurd h (by omega)⟩
 case round =>
  obtain ⟨k, hk, rfl, hall⟩ := hrel
  have HALL := Lib.hid hall
  clear hall
  by_cases hlt : k < len
  ·
   obtain ⟨b, o, rfl, hbw, hrow⟩ := HA.out.at_ (by omega)
   have hks : k < ss.length := by rw [HA.out.size]; exact hlt
   have hc := hrow k hks
   clear hrow
   cases he : (ss[k].toList == s.toList)
   ·
    go_wp2_with fail
    go_round
    case rel =>
     refine ⟨k + 1, by omega, by go_num, fun j hj hj' => ?_⟩
     by_cases hjk : j = k
     ·
      subst hjk; exact he
     exact HALL.out j (by omega) hj'
    case measure => simp [intOf]; omega
   go_wp2_with fail
   go_ret
   exact ⟨zj (inL_yes hks he).symm, rfl⟩
  obtain rfl : k = len := by omega
  go_wp2_with fail
  go_ret
  exact ⟨zj (inL_no (fun j hj => HALL.out j (by rw [<- HA.out.size]; exact hj) hj)).symm, rfl⟩
theorem za (w : World) (cs : Array Value) (t : TypeId) (j : Nat) : (w.alloc (.cells cs t)).cell? ⟨w.heap.size, j, none⟩ = cs[j]? := by
 have : (w.alloc (.cells cs t)).heap[w.heap.size]? = some (.cells cs t) := (MapKept.heap_alloc w _).1
 unfold World.cell?
 rw [this]
 simp
theorem strsAt_new (w : World) (t : TypeId) (ss : List ByteArray) : zt (w.alloc (.cells (ss.map Value.string).toArray t)) (some ⟨w.heap.size, 0, none⟩) ss.length ss :=
 ⟨rfl, fun _ => ⟨w.heap.size, 0, rfl, by simp, fun i hi => by rw [Nat.zero_add, za]; simp [hi]⟩⟩
def words : List ByteArray := [⟨#[113, 117, 111, 116, 101]⟩, ⟨#[105, 102]⟩, ⟨#[108, 101, 116]⟩, ⟨#[108, 97, 109, 98, 100, 97]⟩, ⟨#[98, 101, 103, 105, 110]⟩, ⟨#[115, 101, 116, 33]⟩, ⟨#[114, 101, 99, 111, 114, 100]⟩, ⟨#[100, 101, 102, 105, 110, 101]⟩, ⟨#[117, 112, 103, 114, 97, 100, 101]⟩, ⟨#[119, 97, 115]⟩]
def kws : List (List UInt8) := [[113, 117, 111, 116, 101], [105, 102], [108, 101, 116], [108, 97, 109, 98, 100, 97], [98, 101, 103, 105, 110], [115, 101, 116, 33], [114, 101, 99, 111, 114, 100], [100, 101, 102, 105, 110, 101], [117, 112, 103, 114, 97, 100, 101], [119, 97, 115]]
def isKw (l : List UInt8) : Bool := kws.contains l
theorem inL_words (s : ByteArray) : inL words s = isKw s.toList := by
 have e : ∀ (xs : List ByteArray), (xs.any fun x => x.toList == s.toList) = (xs.map ByteArray.toList).contains s.toList := by
  intro xs
  induction xs with
  | nil => rfl
  | cons a xs ih =>
   rw [List.any_cons, ih, List.map_cons, List.contains_cons, Bool.beq_comm]
 have e2 : words.map ByteArray.toList = kws := by
  simp only [words, List.map_cons, List.map_nil, ByteArray.toList_eq]; rfl
 unfold inL isKw
 rw [e, e2]
set_option maxHeartbeats 1000000 in
theorem isWord_any (s : ByteArray) (w : World) :
  Calls Tryz.prog 72 #[.string s] w fun e w' => e = .returned (.bool (isKw s.toList)) /\ Below w.heap.size w w' := by
 go_enter Tryz.func72, Tryz.ntmps72
 go_wp2_with fail
 refine (isIn_any s _ 10 10 words _ (by unfold maxLen; omega) (by omega) (strsAt_new w 9 words)).mono ?_
 rintro e w1 ⟨rfl, rfl⟩
 rw [inL_words]
 go_wp2_with fail
 go_ret
 exact ⟨rfl, (Below.refl _ _).alloc (Nat.le_refl _) _⟩
def freeB (s : ByteArray) : Bool := nameB s.data.toList && !isKw s.toList && decide (primN s.toList < 0)
set_option maxHeartbeats 1000000 in
theorem freeName_any (s : ByteArray) (hs : s.size <= maxLen) (w : World) :
  Calls Tryz.prog 36 #[.string s] w fun e w' => e = .returned (.bool (freeB s)) /\ Below w.heap.size w w' := by
 have HF := Lib.hid (show freeB s = (nameB s.data.toList && !isKw s.toList && decide (primN s.toList < 0)) from rfl)
 cases h1 : nameB s.data.toList
 ·
  go_enter Tryz.func36, Tryz.ntmps36
  go_wp2_with fail
  refine (nameMay_any s hs _).mono ?_
  rintro e w1 ⟨rfl, n, rfl⟩
  go_wp2_with fail
  go_ret
  exact ⟨zj (by rw [HF.out, h1]; rfl), below_drewN (Below.refl _ _) _⟩
 cases h2 : isKw s.toList
 ·
  go_enter Tryz.func36, Tryz.ntmps36
  go_wp2_with fail
  refine (nameMay_any s hs _).mono ?_
  rintro e w1 ⟨rfl, n, rfl⟩
  go_wp2_with fail
  refine (isWord_any s _).mono ?_
  rintro e w2 ⟨rfl, hb2⟩
  go_wp2_with fail
  refine (primArgs_any s _).mono ?_
  rintro e w3 ⟨rfl, rfl⟩
  go_wp2_with fail
  go_ret
  exact ⟨zj (by rw [HF.out, h1, h2]; rfl), (below_drewN (Below.refl _ _) n).trans hb2⟩
 go_enter Tryz.func36, Tryz.ntmps36
 go_wp2_with fail
 refine (nameMay_any s hs _).mono ?_
 rintro e w1 ⟨rfl, n, rfl⟩
 go_wp2_with fail
 refine (isWord_any s _).mono ?_
 rintro e w2 ⟨rfl, hb2⟩
 go_wp2_with fail
 go_ret
 exact ⟨zj (by rw [HF.out, h1, h2]; rfl), (below_drewN (Below.refl _ _) n).trans hb2⟩
/- Contracts of slices.Index and slices.Contains at []string. -/
def idxL (ss : List ByteArray) (s : ByteArray) : Int := if inL ss s then ((ss.findIdx fun x => x.toList == s.toList : Nat) : Int) else -1
theorem idxL_at {ss : List ByteArray} {s : ByteArray} {k : Nat} (hk : k < ss.length) (h : (ss[k].toList == s.toList) = true) (hb : ∀ j, j < k -> (hj : j < ss.length) -> (ss[j].toList == s.toList) = false) : idxL ss s = k := by
 have h1 : ss.findIdx (fun x => x.toList == s.toList) = k := (List.findIdx_eq hk).2 ⟨h, fun j hj => hb j hj (by omega)⟩
 unfold idxL
 rw [inL_yes hk h, h1]
 rfl
theorem idxL_no {ss : List ByteArray} {s : ByteArray} (h : ∀ j, (hj : j < ss.length) -> (ss[j].toList == s.toList) = false) : idxL ss s = -1 := by
 unfold idxL
 rw [inL_no h]
 rfl
theorem idxL_in (ss : List ByteArray) (s : ByteArray) : decide (0 <= idxL ss s) = inL ss s := by
 unfold idxL
 cases inL ss s
 ·
  rfl
 simp
set_option maxHeartbeats 1000000 in
theorem index_any (s : ByteArray) (A : Option Addr) (len cap : Nat) (ss : List ByteArray) (w : World) (hc : cap <= maxLen) (hl : len <= cap) (hA : zt w A len ss) :
  Calls Tryz.prog 107 #[.slice A len cap, .string s] w fun e w' => e = .returned (.int .i64 (idxL ss s)) /\ w = w' := by
 have hlen : len <= 9223372036854775807 := by unfold maxLen at hc; omega
 have HA := Lib.hid hA
 clear hA
 go_enter Tryz.func107, Tryz.ntmps107
 go_wp2_with fail
 go_loop [8] (fun i => ∃ k : Nat, k <= len /\ i = .int .i64 k /\ ∀ j, j < k -> (hj : j < ss.length) -> (ss[j].toList == s.toList) = false) (fun i => len - (intOf i).toNat)
 case atStart => exact ⟨0, by omega, rfl, fun j h => absurd h (by omega)⟩
 case round =>
  obtain ⟨k, hk, rfl, hall⟩ := hrel
  have HALL := Lib.hid hall
  clear hall
  by_cases hlt : k < len
  ·
   obtain ⟨b, o, rfl, hbw, hrow⟩ := HA.out.at_ (by omega)
   have hks : k < ss.length := by rw [HA.out.size]; exact hlt
   have hc := hrow k hks
   clear hrow
   cases he : (ss[k].toList == s.toList)
   ·
    have he' : (s.toList == ss[k].toList) = false := by rw [Bool.beq_comm]; exact he
    go_wp2_with fail
    go_round
    case rel =>
     refine ⟨k + 1, by omega, by go_num, fun j hj hj' => ?_⟩
     by_cases hjk : j = k
     ·
      subst hjk; exact he
     exact HALL.out j (by omega) hj'
    case measure => simp [intOf]; omega
   have he' : (s.toList == ss[k].toList) = true := by rw [Bool.beq_comm]; exact he
   go_wp2_with fail
   go_ret
   exact ⟨ret_i (idxL_at hks he HALL.out).symm, rfl⟩
  obtain rfl : k = len := by omega
  go_wp2_with fail
  go_ret
  exact ⟨ret_i (idxL_no (fun j hj => HALL.out j (by rw [<- HA.out.size]; exact hj) hj)).symm, rfl⟩
set_option maxHeartbeats 1000000 in
theorem contains_any (s : ByteArray) (A : Option Addr) (len cap : Nat) (ss : List ByteArray) (w : World) (hc : cap <= maxLen) (hl : len <= cap) (hA : zt w A len ss) :
  Calls Tryz.prog 94 #[.slice A len cap, .string s] w fun e w' => e = .returned (.bool (inL ss s)) /\ w = w' := by
 go_enter Tryz.func94, Tryz.ntmps94
 go_wp2_with fail
 refine (index_any s A len cap ss _ hc hl hA).mono ?_
 rintro e w1 ⟨rfl, rfl⟩
 go_wp2_with fail
 go_ret
 exact ⟨zj (idxL_in ss s), rfl⟩
/- What the listed package-level maps (unit.keywords, unit.arity, code.arity) answer, in the world at the call and in every later one. -/
open Go.ChangeShapes Go.WideShapes Go.ChangeAt Go.WideMaps Go.WideElems Go.RowKit
theorem keyLaw : KeyLaw Tryz.prog 9 := string_law Tryz.underlying9
def KwAt (w : World) : Prop := ∃ bm, w.cell? ⟨2, 0, none⟩ = some (.map (some bm)) /\ bm < w.heap.size /\ 2 < w.heap.size ∧
 ∀ w' : World, w'.heap[bm]? = w.heap[bm]? -> ∀ s : ByteArray, s.size <= maxLen -> (Instr.lookup 207 (.map (some bm)) (.string s) false).run Tryz.prog w' = .ok (.bool (isKw s.toList)) w'
def ArAt (g : Nat) (w : World) : Prop := ∃ bm, w.cell? ⟨g, 0, none⟩ = some (.map (some bm)) /\ bm < w.heap.size /\ g < w.heap.size ∧
 ∀ w' : World, w'.heap[bm]? = w.heap[bm]? -> ∀ s : ByteArray, s.size <= maxLen -> (Instr.lookup 186 (.map (some bm)) (.string s) true).run Tryz.prog w' = .ok (.tuple #[.int .i64 (if primN s.toList < 0 then 0 else primN s.toList), .bool (decide (0 <= primN s.toList))]) w'
theorem KwAt.below {w w' : World} (h : KwAt w) (hb : Below w.heap.size w w') : KwAt w' := by
 obtain ⟨bm, h1, h2, h3, h4⟩ := h
 exact ⟨bm, (hb.cell (p := ⟨_, 0, none⟩) h3).trans h1, Nat.lt_of_lt_of_le h2 hb.size, Nat.lt_of_lt_of_le h3 hb.size, fun v hv s hs => h4 v (hv.trans (hb.block bm h2)) s hs⟩
theorem ArAt.below {g : Nat} {w w' : World} (h : ArAt g w) (hb : Below w.heap.size w w') : ArAt g w' := by
 obtain ⟨bm, h1, h2, h3, h4⟩ := h
 exact ⟨bm, (hb.cell (p := ⟨_, 0, none⟩) h3).trans h1, Nat.lt_of_lt_of_le h2 hb.size, Nat.lt_of_lt_of_le h3 hb.size, fun v hv s hs => h4 v (hv.trans (hb.block bm h2)) s hs⟩
theorem find_none {H : Type} (l : List UInt8) : ∀ (es : List (Lit × DataW H)), (∀ p ∈ es, ∃ k : List UInt8, p.1 = .string k /\ k ≠ l) -> es.find? (fun p => p.1.sameKey (.string l)) = none
 | [], _ => rfl
 | p :: es, h => by
  obtain ⟨k, hk, hne⟩ := h p (by simp)
  rw [List.find?_cons, find_none l es (fun q hq => h q (by simp [hq]))]
  have : p.1.sameKey (.string l) = false := by rw [hk]; simpa [Lit.sameKey] using hne
  rw [this]
theorem kw_datum (l : List UInt8) (z : DataW Unit) : (Rows.laid_graftery_unit_keywords (H := Unit)).atKey (.string l) z = if isKw l then .lit (.bool true) else z := by
 by_cases h : isKw l = true
 ·
  rw [if_pos h]
  have hm : l ∈ kws := by simpa [isKw] using h
  simp only [kws, List.mem_cons, List.not_mem_nil, or_false] at hm
  rcases hm with rfl | rfl | rfl | rfl | rfl | rfl | rfl | rfl | rfl | rfl <;> rfl
 rw [if_neg h]
 have hm : ∀ k ∈ kws, k ≠ l := by
  rintro k hk rfl
  exact h (by simpa [isKw] using hk)
 unfold Rows.laid_graftery_unit_keywords DataW.atKey
 dsimp only
 rw [find_none]
 intro p hp
 simp only [List.mem_cons, List.not_mem_nil, or_false] at hp
 rcases hp with rfl | rfl | rfl | rfl | rfl | rfl | rfl | rfl | rfl | rfl <;> exact ⟨_, rfl, hm _ (by decide)⟩
theorem ar_datum (l : List UInt8) (z : DataW Unit) : (Rows.laid_graftery_unit_arity (H := Unit)).atKey (.string l) z = if primN l < 0 then z else .lit (.int .i64 (primN l)) := by
 by_cases h : l ∈ prims2 ++ prims1
 ·
  rw [if_neg (by
   unfold primN
   rcases List.mem_append.1 h with h2 | h1
   ·
    rw [if_pos h2]; decide
   by_cases h2 : l ∈ prims2
   ·
    rw [if_pos h2]; decide
   rw [if_neg h2, if_pos h1]; decide)]
  simp only [prims2, prims1, List.cons_append, List.nil_append, List.mem_cons, List.not_mem_nil, or_false] at h
  rcases h with rfl | rfl | rfl | rfl | rfl | rfl | rfl | rfl | rfl | rfl | rfl | rfl | rfl | rfl | rfl <;> rfl
 have h2 : l ∉ prims2 := fun hm => h (List.mem_append_left _ hm)
 have h1 : l ∉ prims1 := fun hm => h (List.mem_append_right _ hm)
 rw [if_pos (by unfold primN; rw [if_neg h2, if_neg h1]; decide)]
 have hm : ∀ k ∈ prims2 ++ prims1, k ≠ l := by
  rintro k hk rfl
  exact h hk
 unfold Rows.laid_graftery_unit_arity DataW.atKey
 dsimp only
 rw [find_none]
 intro p hp
 simp only [List.mem_cons, List.not_mem_nil, or_false] at hp
 rcases hp with rfl | rfl | rfl | rfl | rfl | rfl | rfl | rfl | rfl | rfl | rfl | rfl | rfl | rfl | rfl <;> exact ⟨_, rfl, hm _ (by decide)⟩
theorem zeroBool (w : World) : (zeroValue 4).run Tryz.prog w = .ok (.bool false) w := by kernel_rfl
theorem zeroInt (w : World) : (zeroValue 3).run Tryz.prog w = .ok (.int .i64 0) w := by kernel_rfl
theorem kw_of {W : World} {g : Nat} {t : TypeId} {cs : Array Value} {f : Nat} {p : List MemPlace} {enc : TypeId × Value -> Unit} {sp : Nat -> Bool} {hd : Bool} (hg : Tryz.prog.globalNamed "graftery/unit.keywords" = some g) (ht : (Tryz.prog.globals[g]?).map (·.type) = some t)
  (hv : W.var? Tryz.prog "graftery/unit.keywords" = some cs) (hr : DataW.trod enc Tryz.prog W 0 sp hd f t cs.toList = some (Rows.laid_graftery_unit_keywords, p)) : KwAt W := by
 obtain rfl : 2 = g := Option.some.inj ((show Tryz.prog.globalNamed "graftery/unit.keywords" = some 2 by kernel_rfl).symm.trans hg)
 obtain rfl : 207 = t := Option.some.inj ((show (Tryz.prog.globals[2]?).map (·.type) = some 207 by kernel_rfl).symm.trans ht)
 rcases open_map Tryz.underlying207 hr with ⟨_, hx⟩ | ⟨bm, es, clock, m, rfl, hcs, hb, _, F, hx⟩
 ·
  simp [Rows.laid_graftery_unit_keywords] at hx
 simp only [Prod.mk.injEq] at hx
 have hcell : W.cell? ⟨2, 0, none⟩ = some (.map (some bm)) := by
  have := World.var?_cell hg hv 0
  rw [Array.eq_one_of_toList hcs] at this
  simpa using this
 have hlt : ∀ {k : Nat} {v : Value}, W.cell? ⟨k, 0, none⟩ = some v -> k < W.heap.size := by
  intro k v h
  unfold World.cell? at h
  split at h
  ·
   rename_i e; exact (Array.getElem?_eq_some_iff.1 e).1
  cases h
 refine ⟨bm, hcell, (Array.getElem?_eq_some_iff.1 hb).1, hlt hcell, fun w' hw' s hs => ?_⟩
 have hb' := hw'.trans hb
 have hdat := kw_datum s.data.toList
 rw [ByteArray.toList_eq]
 rcases fit_lookup (w := w') keyLaw Tryz.underlying207 (zeroBool w') hb' F (keyOf_string_mk (s := s) Tryz.underlying9 hs) with ⟨hrun, hat⟩ | ⟨v, y, hrun, hRv, hat, _⟩
 ·
  have h1 := hat (.lit (.bool false))
  rw [<- hx.1, hdat] at h1
  cases hk : isKw s.data.toList
  ·
   exact hrun
  rw [hk] at h1; simp at h1
 obtain ⟨r, rfl, rfl⟩ := elemAt_bool Tryz.underlying4 hRv
 have h1 := hat .nil
 rw [<- hx.1, hdat] at h1
 cases hk : isKw s.data.toList
 ·
  rw [hk] at h1; simp at h1
 rw [hk] at h1; simp at h1; subst h1; exact hrun
theorem ar_of {W : World} {n : String} {g0 g : Nat} {t : TypeId} {cs : Array Value} {f : Nat} {p : List MemPlace} {enc : TypeId × Value -> Unit} {sp : Nat -> Bool} {hd : Bool} (hg0 : Tryz.prog.globalNamed n = some g0) (ht0 : (Tryz.prog.globals[g0]?).map (·.type) = some 186)
  (hg : Tryz.prog.globalNamed n = some g) (ht : (Tryz.prog.globals[g]?).map (·.type) = some t)
  (hv : W.var? Tryz.prog n = some cs) (hr : DataW.trod enc Tryz.prog W 0 sp hd f t cs.toList = some (Rows.laid_graftery_unit_arity, p)) : ArAt g0 W := by
 obtain rfl : g0 = g := Option.some.inj (hg0.symm.trans hg)
 obtain rfl : 186 = t := Option.some.inj (ht0.symm.trans ht)
 rcases open_map Tryz.underlying186 hr with ⟨_, hx⟩ | ⟨bm, es, clock, m, rfl, hcs, hb, _, F, hx⟩
 ·
  simp [Rows.laid_graftery_unit_arity] at hx
 simp only [Prod.mk.injEq] at hx
 have hcell : W.cell? ⟨g0, 0, none⟩ = some (.map (some bm)) := by
  have := World.var?_cell hg hv 0
  rw [Array.eq_one_of_toList hcs] at this
  simpa using this
 have hlt : ∀ {k : Nat} {v : Value}, W.cell? ⟨k, 0, none⟩ = some v -> k < W.heap.size := by
  intro k v h
  unfold World.cell? at h
  split at h
  ·
   rename_i e; exact (Array.getElem?_eq_some_iff.1 e).1
  cases h
 refine ⟨bm, hcell, (Array.getElem?_eq_some_iff.1 hb).1, hlt hcell, fun w' hw' s hs => ?_⟩
 have hb' := hw'.trans hb
 have hdat := ar_datum s.data.toList
 rw [ByteArray.toList_eq]
 rcases fit_lookup_ok (w := w') keyLaw Tryz.underlying186 (zeroInt w') hb' F (keyOf_string_mk (s := s) Tryz.underlying9 hs) with ⟨hrun, hat⟩ | ⟨v, y, hrun, hRv, hat, _⟩
 ·
  have h1 := hat .nil
  rw [<- hx.1, hdat] at h1
  by_cases hk : primN s.data.toList < 0
  ·
   rw [if_pos hk, decide_eq_false (by omega)]; exact hrun
  rw [if_neg hk] at h1; cases h1
 obtain ⟨r, rfl, rfl, _⟩ := elemAt_int Tryz.underlying3 hRv
 have h1 := hat .nil
 rw [<- hx.1, hdat] at h1
 by_cases hk : primN s.data.toList < 0
 ·
  rw [if_pos hk] at h1; cases h1
 rw [if_neg hk] at h1
 rw [if_neg hk, decide_eq_true (by omega)]
 simp only [DataW.lit.injEq, Lit.int.injEq, true_and] at h1
 rw [h1]; exact hrun
/- A region that draws its order, walked once over a class of worlds. -/
theorem zl {P : Program} (C : World -> Prop) {id : Nat} {Q : Exit -> Act -> World -> Prop} {a : Act} {w : World} {l : List Oper} (hm : P.follows .mixedOrders = true) (hB : Region.lexB .any l.toArray = true) (hC : C { w with drawn := w.drawn + 1 })
  (h : wpQuiet P l.toArray C (fun a' => ∀ w', C w' -> Q .normal a' w') l a) : (Code.region id l.toArray true).wp P Q a w :=
 wp_region_quiet (C := C) hm hB hC (by simpa using h)
theorem zc {P : Program} {o : Oper} {a : Act} {C : World -> Prop} {K : Act -> Prop} (u : Value) (h : ∀ w, C w -> (execOp a.eval o).run P w = .ok (.value u) w) (hk : K (a.put o.dst u)) : o.quiet P a C K :=
 ⟨u, fun w hw => by unfold Oper.quietAt; rw [h w hw]; exact ⟨rfl, rfl⟩, hk⟩
theorem zm {P : Program} {o : Oper} {a : Act} {C : World -> Prop} {K : Act -> Prop} (v : Value) (f : FuncId) (args : Array Value) (h : ∀ w, C w -> (execOp a.eval o).run P w = .ok (.enter f args) w)
  (hc : ∀ w, C w -> Calls P f args w fun e w' => e = .returned v /\ C w') (hk : K (a.put o.dst v)) : o.quiet P a C K :=
 ⟨v, fun w hw => by unfold Oper.quietAt; rw [h w hw]; exact ⟨rfl, hc w hw⟩, hk⟩
end Go.Proofs.YtfhbdlobhjegcaaGreatDoor
