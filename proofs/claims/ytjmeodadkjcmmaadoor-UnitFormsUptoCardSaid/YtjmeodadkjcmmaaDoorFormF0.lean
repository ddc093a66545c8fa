import Derived.Test.YtjmeodadkjcmmaaDoorGEnv
import Derived.Lib.Strings
namespace Go.Proofs.YtjmeodadkjcmmaaDoor
open Go.RowKit Go.ChangeShapes Go.WideShapes Go.Deep
set_option linter.unusedVariables false
set_option maxRecDepth 20000
theorem ba_ext {a b : ByteArray} (h : a.toList = b.toList) : a = b := by
 rw [ByteArray.toList_eq, ByteArray.toList_eq] at h
 cases a; cases b
 simpa using h
theorem inL_mem {fs : List ByteArray} {F : ByteArray} : inL fs F = true ↔ F ∈ fs := by
 unfold inL
 rw [List.any_eq_true]
 constructor
 ·
  rintro ⟨x, hx, he⟩
  rwa [<- ba_ext (beq_iff_eq.1 he)]
 intro h
 exact ⟨F, h, beq_iff_eq.2 rfl⟩
theorem find_in {fs : List ByteArray} {F : ByteArray} {p : ByteArray -> Bool} (hp : ∀ f, p f = true ↔ f = F) (h : inL fs F = true) : fs.find? p = some F := by
 cases hf : fs.find? p with
 | none =>
  have := List.find?_eq_none.1 hf F (inL_mem.1 h)
  exact absurd ((hp F).2 rfl) this
 | some f =>
  have := List.find?_some hf
  rw [(hp f).1 this]
theorem find_no {fs : List ByteArray} {F : ByteArray} {p : ByteArray -> Bool} (hp : ∀ f, p f = true -> f = F) (h : inL fs F = false) : fs.find? p = none := by
 rw [List.find?_eq_none]
 intro x hx hpx
 have := hp x hpx
 subst this
 rw [inL_mem.2 hx] at h
 cases h
theorem find_none' {fs : List ByteArray} {p : ByteArray -> Bool} (hp : ∀ f, p f = false) : fs.find? p = none := by
 rw [List.find?_eq_none]
 intro x hx hpx
 rw [hp x] at hpx
 cases hpx
section
variable {nm s : ByteArray} {fs : List ByteArray} {n : Nat}
theorem op_miss (h : Lib.hasPrefix s.data.toList nm.data.toList = false) : opF nm fs s n = none := by
 have hno : ∀ t, s.toList ≠ nm.toList ++ t := by
  intro t e
  rw [ByteArray.toList_eq, ByteArray.toList_eq] at e
  have : Lib.hasPrefix s.data.toList nm.data.toList = true := by
   unfold Lib.hasPrefix
   rw [List.isPrefixOf_iff_prefix, e]
   exact List.prefix_append _ _
  rw [h] at this
  cases this
 unfold opF
 rw [if_neg (fun e => hno [] (by simpa using e)), if_neg (hno _), find_none' (fun f => by rw [beq_eq_false_iff_ne]; exact hno _), find_none' (fun f => by rw [beq_eq_false_iff_ne]; exact hno _)]
theorem tail_of (h : Lib.hasPrefix s.data.toList nm.data.toList = true) : s.toList = nm.toList ++ (⟨(Lib.trimPrefix s.data.toList nm.data.toList).toArray⟩ : ByteArray).toList := by
 rw [ByteArray.toList_eq, ByteArray.toList_eq, ByteArray.toList_eq]
 unfold Lib.trimPrefix
 rw [if_pos h]
 unfold Lib.hasPrefix at h
 rw [List.isPrefixOf_iff_prefix] at h
 obtain ⟨t, ht⟩ := h
 rw [<- ht]
 simp
variable {T : ByteArray}
theorem op_make (hs : s.toList = nm.toList ++ T.toList) (h : T.toList = []) : opF nm fs s n = some (11, n, []) := by
 unfold opF; rw [if_pos (by rw [hs, h]; simp)]
theorem op_is (hs : s.toList = nm.toList ++ T.toList) (h : T.toList = [63]) : opF nm fs s n = some (12, 1, []) := by
 unfold opF; rw [if_neg (by rw [hs, h]; simp), if_pos (by rw [hs, h])]
theorem op_more {a : UInt8} {t : List UInt8} (hs : s.toList = nm.toList ++ T.toList) (hT : T.toList = a :: t) (hq : T.toList ≠ [63]) :
  opF nm fs s n = match fs.find? (fun f => (a :: t : List UInt8) == 45 :: f.toList) with
   | some f => some (13, 1, [f])
   | none => match fs.find? (fun f => (a :: t : List UInt8) == 45 :: (f.toList ++ [33])) with
    | some f => some (14, 2, [f])
    | none => none := by
 have e : ∀ l : List UInt8, (s.toList == nm.toList ++ l) = ((a :: t : List UInt8) == l) := by
  intro l
  rw [Bool.eq_iff_iff, beq_iff_eq, beq_iff_eq, hs, hT]
  exact ⟨fun e => List.append_cancel_left e, fun e => by rw [e]⟩
 unfold opF
 rw [if_neg (by rw [hs, hT]; simp), if_neg (by rw [hs]; intro e; exact hq (List.append_cancel_left e))]
 simp only [e]
 rfl
theorem list_of {T : ByteArray} (h0 : 0 < T.size) : T.toList = T[0] :: (T.extract 1 T.size).toList := by
 rw [Lib.extract_toList, ByteArray.toList_eq]
 have h1 := str_cons h0
 have h2 : T.data.toList.drop 1 = T.data.toList.tail := by cases T.data.toList <;> rfl
 rw [h2, List.take_of_length_le (by rw [List.length_tail, <- Lib.size_eq]; exact Nat.le_refl _)]
 exact h1
theorem op_no45 (hs : s.toList = nm.toList ++ T.toList) (h0 : 0 < T.size) (hq : T.toList ≠ [63]) (h : T[0] ≠ 45) : opF nm fs s n = none := by
 rw [op_more hs (list_of h0) hq, find_none' (fun f => by simp [h]), find_none' (fun f => by simp [h])]
theorem op_get (hs : s.toList = nm.toList ++ T.toList) (h0 : 0 < T.size) (h : T[0] = 45) (hin : inL fs (T.extract 1 T.size) = true) : opF nm fs s n = some (13, 1, [T.extract 1 T.size]) := by
 have hq : T.toList ≠ [63] := by rw [list_of h0, h]; simp
 rw [op_more hs (list_of h0) hq, h, find_in (F := T.extract 1 T.size) (fun f => ?_) hin]
 rw [beq_iff_eq]
 exact ⟨fun e => (ba_ext (by simpa using e)).symm, fun e => by rw [e]⟩
variable {U : ByteArray}
theorem bare_of (hU : U = ⟨(Lib.trimSuffix T.data.toList [33]).toArray⟩) (hne : U.toList ≠ T.toList) : T.toList = U.toList ++ [33] := by
 subst hU
 rw [ByteArray.toList_eq, ByteArray.toList_eq] at hne ⊢
 unfold Lib.trimSuffix at hne ⊢
 by_cases h : Lib.hasSuffix T.data.toList [33] = true
 ·
  rw [if_pos h] at hne ⊢
  unfold Lib.hasSuffix at h
  rw [List.isSuffixOf_iff_suffix] at h
  obtain ⟨t, ht⟩ := h
  rw [<- ht]
  simp
 rw [if_neg h] at hne
 exact absurd rfl hne
theorem bare_same (hU : U = ⟨(Lib.trimSuffix T.data.toList [33]).toArray⟩) (he : U.toList = T.toList) : ∀ l : List UInt8, T.toList ≠ l ++ [33] := by
 intro l e
 subst hU
 rw [ByteArray.toList_eq, ByteArray.toList_eq] at he
 rw [ByteArray.toList_eq] at e
 unfold Lib.trimSuffix at he
 have h : Lib.hasSuffix T.data.toList [33] = true := by
  unfold Lib.hasSuffix
  rw [List.isSuffixOf_iff_suffix, e]
  exact List.suffix_append _ _
 rw [if_pos h, e] at he
 have := congrArg List.length he
 simp at this
theorem bare_first (hU : U = ⟨(Lib.trimSuffix T.data.toList [33]).toArray⟩) (hne : U.toList ≠ T.toList) (h0 : 0 < T.size) (h : T[0] = 45) : 0 < U.size /\ (T.extract 1 T.size).toList = (U.extract 1 U.size).toList ++ [33] /\ U.toList = 45 :: (U.extract 1 U.size).toList := by
 have h1 := bare_of hU hne
 have h2 := list_of h0
 rw [h] at h2
 have hu0 : 0 < U.size := by
  rcases Nat.eq_zero_or_pos U.size with h3 | h3
  ·
   rw [str_nil h3] at h1
   rw [h1] at h2
   simp at h2
  exact h3
 have h3 := list_of hu0
 rw [h2, h3, List.cons_append] at h1
 injection h1 with e1 e2
 exact ⟨hu0, e2, by rw [h3, <- e1]⟩
theorem op_put (hs : s.toList = nm.toList ++ T.toList) (h0 : 0 < T.size) (h : T[0] = 45) (hn : inL fs (T.extract 1 T.size) = false) (hU : U = ⟨(Lib.trimSuffix T.data.toList [33]).toArray⟩) (hne : U.toList ≠ T.toList) (hin : inL fs (U.extract 1 U.size) = true) :
  opF nm fs s n = some (14, 2, [U.extract 1 U.size]) := by
 have hq : T.toList ≠ [63] := by rw [list_of h0, h]; simp
 obtain ⟨_, h1, _⟩ := bare_first hU hne h0 h
 rw [op_more hs (list_of h0) hq, h, find_no (F := T.extract 1 T.size) (fun f e => (ba_ext (by simpa using e)).symm) hn, find_in (F := U.extract 1 U.size) (fun f => ?_) hin]
 rw [beq_iff_eq, h1]
 exact ⟨fun e => (ba_ext (by simpa using e)).symm, fun e => by rw [e]⟩
theorem op_same (hs : s.toList = nm.toList ++ T.toList) (h0 : 0 < T.size) (h : T[0] = 45) (hn : inL fs (T.extract 1 T.size) = false) (hU : U = ⟨(Lib.trimSuffix T.data.toList [33]).toArray⟩) (he : U.toList = T.toList) : opF nm fs s n = none := by
 have hq : T.toList ≠ [63] := by rw [list_of h0, h]; simp
 have hb := bare_same hU he
 have hl := list_of h0
 rw [h] at hl
 rw [op_more hs (list_of h0) hq, h, find_no (F := T.extract 1 T.size) (fun f e => (ba_ext (by simpa using e)).symm) hn, find_none' (fun f => ?_)]
 rw [beq_eq_false_iff_ne]
 intro e
 exact hb (45 :: f.toList) (by rw [hl, e]; rfl)
theorem op_lack (hs : s.toList = nm.toList ++ T.toList) (h0 : 0 < T.size) (h : T[0] = 45) (hn : inL fs (T.extract 1 T.size) = false) (hU : U = ⟨(Lib.trimSuffix T.data.toList [33]).toArray⟩) (hne : U.toList ≠ T.toList) (hin : inL fs (U.extract 1 U.size) = false) : opF nm fs s n = none := by
 have hq : T.toList ≠ [63] := by rw [list_of h0, h]; simp
 obtain ⟨_, h1, _⟩ := bare_first hU hne h0 h
 rw [op_more hs (list_of h0) hq, h, find_no (F := T.extract 1 T.size) (fun f e => (ba_ext (by simpa using e)).symm) hn, find_no (F := U.extract 1 U.size) (fun f e => ?_) hin]
 rw [beq_iff_eq, h1] at e
 exact (ba_ext (by simpa using e)).symm
end
end Go.Proofs.YtjmeodadkjcmmaaDoor
