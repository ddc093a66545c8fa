/- Contracts of grafteryref.primArgs, isIn, isWord, freeName. -/
import Derived.Test.YtlgnaopaeapbfaaDoorNameMay
import Derived.Test.YtlgnaopaeapbfaaDoorMem
import Derived.Test.YtlgnaopaeapbfaaDoorDatum
import Derived.Test.YtlgnaopaeapbfaaDoorLaw
namespace Go.Proofs.YtlgnaopaeapbfaaDoor
open Go.RowKit Go.ChangeShapes Go.WideShapes Go.Deep
set_option linter.unusedVariables false

def prims2 : List (List UInt8) := [[43], [45], [42], [113, 117, 111, 116, 105, 101, 110, 116], [114, 101, 109, 97, 105, 110, 100, 101, 114], [61], [60], [99, 111, 110, 115], [101, 113, 63]]
def prims1 : List (List UInt8) := [[99, 97, 114], [99, 100, 114], [110, 117, 108, 108, 63], [112, 97, 105, 114, 63], [110, 111, 116], [101, 114, 114, 111, 114]]
/-- How many arguments a primitive has; -1: it is none. -/
def primN (l : List UInt8) : Int := if l ∈ prims2 then 2 else if l ∈ prims1 then 1 else -1

theorem primN_at {l c : List UInt8} {n : Int} (h : (l == c) = true) (hn : primN c = n) : n = primN l := by
  rw [beq_iff_eq.1 h]; exact hn.symm
theorem primN_no {l : List UInt8} (h : ∀ c ∈ prims2 ++ prims1, (l == c) = false) : -1 = primN l := by
  have h2 : l ∉ prims2 := fun hm => by have := h l (List.mem_append_left _ hm); simp at this
  have h1 : l ∉ prims1 := fun hm => by have := h l (List.mem_append_right _ hm); simp at this
  unfold primN; rw [if_neg h2, if_neg h1]

set_option maxHeartbeats 2000000 in
theorem primArgs_any (s : ByteArray) (w : World) :
    Calls Tryd.prog 31 #[.string s] w fun e w' => e = .returned (.int .i64 (primN s.toList)) ∧ w = w' := by
  cases h0 : (s.toList == [43])
  case true =>
    go_enter Tryd.func31, Tryd.ntmps31
    go_wp2_with fail
    go_ret
    exact ⟨ret_i (primN_at h0 rfl), rfl⟩
  cases h1 : (s.toList == [45])
  case true =>
    go_enter Tryd.func31, Tryd.ntmps31
    go_wp2_with fail
    go_ret
    exact ⟨ret_i (primN_at h1 rfl), rfl⟩
  cases h2 : (s.toList == [42])
  case true =>
    go_enter Tryd.func31, Tryd.ntmps31
    go_wp2_with fail
    go_ret
    exact ⟨ret_i (primN_at h2 rfl), rfl⟩
  cases h3 : (s.toList == [113, 117, 111, 116, 105, 101, 110, 116])
  case true =>
    go_enter Tryd.func31, Tryd.ntmps31
    go_wp2_with fail
    go_ret
    exact ⟨ret_i (primN_at h3 rfl), rfl⟩
  cases h4 : (s.toList == [114, 101, 109, 97, 105, 110, 100, 101, 114])
  case true =>
    go_enter Tryd.func31, Tryd.ntmps31
    go_wp2_with fail
    go_ret
    exact ⟨ret_i (primN_at h4 rfl), rfl⟩
  cases h5 : (s.toList == [61])
  case true =>
    go_enter Tryd.func31, Tryd.ntmps31
    go_wp2_with fail
    go_ret
    exact ⟨ret_i (primN_at h5 rfl), rfl⟩
  cases h6 : (s.toList == [60])
  case true =>
    go_enter Tryd.func31, Tryd.ntmps31
    go_wp2_with fail
    go_ret
    exact ⟨ret_i (primN_at h6 rfl), rfl⟩
  cases h7 : (s.toList == [99, 111, 110, 115])
  case true =>
    go_enter Tryd.func31, Tryd.ntmps31
    go_wp2_with fail
    go_ret
    exact ⟨ret_i (primN_at h7 rfl), rfl⟩
  cases h8 : (s.toList == [101, 113, 63])
  case true =>
    go_enter Tryd.func31, Tryd.ntmps31
    go_wp2_with fail
    go_ret
    exact ⟨ret_i (primN_at h8 rfl), rfl⟩
  cases h9 : (s.toList == [99, 97, 114])
  case true =>
    go_enter Tryd.func31, Tryd.ntmps31
    go_wp2_with fail
    go_ret
    exact ⟨ret_i (primN_at h9 rfl), rfl⟩
  cases h10 : (s.toList == [99, 100, 114])
  case true =>
    go_enter Tryd.func31, Tryd.ntmps31
    go_wp2_with fail
    go_ret
    exact ⟨ret_i (primN_at h10 rfl), rfl⟩
  cases h11 : (s.toList == [110, 117, 108, 108, 63])
  case true =>
    go_enter Tryd.func31, Tryd.ntmps31
    go_wp2_with fail
    go_ret
    exact ⟨ret_i (primN_at h11 rfl), rfl⟩
  cases h12 : (s.toList == [112, 97, 105, 114, 63])
  case true =>
    go_enter Tryd.func31, Tryd.ntmps31
    go_wp2_with fail
    go_ret
    exact ⟨ret_i (primN_at h12 rfl), rfl⟩
  cases h13 : (s.toList == [110, 111, 116])
  case true =>
    go_enter Tryd.func31, Tryd.ntmps31
    go_wp2_with fail
    go_ret
    exact ⟨ret_i (primN_at h13 rfl), rfl⟩
  cases h14 : (s.toList == [101, 114, 114, 111, 114])
  case true =>
    go_enter Tryd.func31, Tryd.ntmps31
    go_wp2_with fail
    go_ret
    exact ⟨ret_i (primN_at h14 rfl), rfl⟩
  go_enter Tryd.func31, Tryd.ntmps31
  go_wp2_with fail
  go_ret
  refine ⟨ret_i (primN_no ?_), rfl⟩
  intro c hc
  simp only [prims2, prims1, List.cons_append, List.nil_append, List.mem_cons, List.not_mem_nil, or_false] at hc
  rcases hc with rfl | rfl | rfl | rfl | rfl | rfl | rfl | rfl | rfl | rfl | rfl | rfl | rfl | rfl | rfl <;> assumption

/-- A slice of strings in memory. -/
structure StrsAt (w : World) (A : Option Addr) (len : Nat) (ss : List ByteArray) : Prop where
  size : ss.length = len
  at_ : 0 < len → ∃ b o, A = some ⟨b, o, none⟩ ∧ b < w.heap.size ∧ ∀ i, (h : i < ss.length) → w.cell? ⟨b, o + i, none⟩ = some (.string ss[i])
theorem StrsAt.below {w w' : World} {A : Option Addr} {len : Nat} {ss : List ByteArray} (h : StrsAt w A len ss) (hb : Below w.heap.size w w') : StrsAt w' A len ss :=
  ⟨h.size, fun h0 => by
    obtain ⟨b, o, rfl, hl, hc⟩ := h.at_ h0
    exact ⟨b, o, rfl, Nat.lt_of_lt_of_le hl hb.size, fun i hi => (hb.cell (p := ⟨b, o + i, none⟩) hl).trans (hc i hi)⟩⟩
/-- Is a text among some? -/
def inL (ss : List ByteArray) (s : ByteArray) : Bool := ss.any fun x => x.toList == s.toList
theorem inL_yes {ss : List ByteArray} {s : ByteArray} {k : Nat} (hk : k < ss.length) (h : (ss[k].toList == s.toList) = true) : inL ss s = true :=
  List.any_eq_true.2 ⟨ss[k], List.getElem_mem hk, h⟩
theorem inL_no {ss : List ByteArray} {s : ByteArray} (h : ∀ j, (hj : j < ss.length) → (ss[j].toList == s.toList) = false) : inL ss s = false := by
  rw [inL, List.any_eq_false]
  intro x hx
  obtain ⟨i, hi, rfl⟩ := List.getElem_of_mem hx
  rw [h i hi]; simp

set_option maxHeartbeats 1000000 in
theorem isIn_any (s : ByteArray) (A : Option Addr) (len cap : Nat) (ss : List ByteArray) (w : World) (hc : cap ≤ maxLen) (hl : len ≤ cap) (hA : StrsAt w A len ss) :
    Calls Tryd.prog 20 #[.slice A len cap, .string s] w fun e w' => e = .returned (.bool (inL ss s)) ∧ w = w' := by
  have hlen : len ≤ 9223372036854775807 := by unfold maxLen at hc; omega
  have HA := Lib.hid hA
  clear hA
  go_enter Tryd.func20, Tryd.ntmps20
  go_wp2_with fail
  go_loop [5] (fun i => ∃ k : Nat, k ≤ len ∧ i = .int .i64 k ∧ ∀ j, j < k → (hj : j < ss.length) → (ss[j].toList == s.toList) = false) (fun i => len - (intOf i).toNat)
  case atStart => exact ⟨0, by omega, rfl, fun j h => absurd h (by omega)⟩
  case round =>
    obtain ⟨k, hk, rfl, hall⟩ := hrel
    have HALL := Lib.hid hall
    clear hall
    by_cases hlt : k < len
    · obtain ⟨b, o, rfl, hbw, hrow⟩ := HA.out.at_ (by omega)
      have hks : k < ss.length := by rw [HA.out.size]; exact hlt
      have hc := hrow k hks
      clear hrow
      cases he : (ss[k].toList == s.toList)
      · go_wp2_with fail
        go_round
        case rel =>
          refine ⟨k + 1, by omega, by go_num, fun j hj hj' => ?_⟩
          by_cases hjk : j = k
          · subst hjk; exact he
          · exact HALL.out j (by omega) hj'
        case measure => simp [intOf]; omega
      · go_wp2_with fail
        go_ret
        exact ⟨ret_bool (inL_yes hks he).symm, rfl⟩
    · obtain rfl : k = len := by omega
      go_wp2_with fail
      go_ret
      exact ⟨ret_bool (inL_no (fun j hj => HALL.out j (by rw [← HA.out.size]; exact hj) hj)).symm, rfl⟩

theorem cell_new (w : World) (cs : Array Value) (t : TypeId) (j : Nat) : (w.alloc (.cells cs t)).cell? ⟨w.heap.size, j, none⟩ = cs[j]? := by
  have : (w.alloc (.cells cs t)).heap[w.heap.size]? = some (.cells cs t) := (MapKept.heap_alloc w _).1
  unfold World.cell?
  rw [this]
  simp
theorem strsAt_new (w : World) (t : TypeId) (ss : List ByteArray) : StrsAt (w.alloc (.cells (ss.map Value.string).toArray t)) (some ⟨w.heap.size, 0, none⟩) ss.length ss :=
  ⟨rfl, fun _ => ⟨w.heap.size, 0, rfl, by simp, fun i hi => by rw [Nat.zero_add, cell_new]; simp [hi]⟩⟩

def words : List ByteArray := [⟨#[113, 117, 111, 116, 101]⟩, ⟨#[105, 102]⟩, ⟨#[108, 101, 116]⟩, ⟨#[108, 97, 109, 98, 100, 97]⟩, ⟨#[98, 101, 103, 105, 110]⟩, ⟨#[115, 101, 116, 33]⟩, ⟨#[114, 101, 99, 111, 114, 100]⟩, ⟨#[100, 101, 102, 105, 110, 101]⟩, ⟨#[117, 112, 103, 114, 97, 100, 101]⟩, ⟨#[119, 97, 115]⟩]
def kws : List (List UInt8) := [[113, 117, 111, 116, 101], [105, 102], [108, 101, 116], [108, 97, 109, 98, 100, 97], [98, 101, 103, 105, 110], [115, 101, 116, 33], [114, 101, 99, 111, 114, 100], [100, 101, 102, 105, 110, 101], [117, 112, 103, 114, 97, 100, 101], [119, 97, 115]]
/-- Is it a keyword? -/
def isKw (l : List UInt8) : Bool := kws.contains l
theorem inL_words (s : ByteArray) : inL words s = isKw s.toList := by
  have e : ∀ (xs : List ByteArray), (xs.any fun x => x.toList == s.toList) = (xs.map ByteArray.toList).contains s.toList := by
    intro xs
    induction xs with
    | nil => rfl
    | cons a xs ih =>
      rw [List.any_cons, ih, List.map_cons, List.contains_cons, Bool.beq_comm]
  have e2 : words.map ByteArray.toList = kws := by
    simp only [words, List.map_cons, List.map_nil, ByteArray.toList_eq]; rfl
  unfold inL isKw
  rw [e, e2]

set_option maxHeartbeats 1000000 in
theorem isWord_any (s : ByteArray) (w : World) :
    Calls Tryd.prog 30 #[.string s] w fun e w' => e = .returned (.bool (isKw s.toList)) ∧ Below w.heap.size w w' := by
  go_enter Tryd.func30, Tryd.ntmps30
  go_wp2_with fail
  refine (isIn_any s _ 10 10 words _ (by unfold maxLen; omega) (by omega) (strsAt_new w 9 words)).mono ?_
  rintro e w1 ⟨rfl, rfl⟩
  rw [inL_words]
  go_wp2_with fail
  go_ret
  exact ⟨rfl, (Below.refl _ _).alloc (Nat.le_refl _) _⟩

/-- May a name be bound? -/
def freeB (s : ByteArray) : Bool := nameB s.data.toList && !isKw s.toList && decide (primN s.toList < 0)

set_option maxHeartbeats 1000000 in
theorem freeName_any (s : ByteArray) (hs : s.size ≤ maxLen) (w : World) :
    Calls Tryd.prog 18 #[.string s] w fun e w' => e = .returned (.bool (freeB s)) ∧ Below w.heap.size w w' := by
  have HF := Lib.hid (show freeB s = (nameB s.data.toList && !isKw s.toList && decide (primN s.toList < 0)) from rfl)
  cases h1 : nameB s.data.toList
  · go_enter Tryd.func18, Tryd.ntmps18
    go_wp2_with fail
    refine (nameMay_any s hs _).mono ?_
    rintro e w1 ⟨rfl, n, rfl⟩
    go_wp2_with fail
    go_ret
    exact ⟨ret_bool (by rw [HF.out, h1]; rfl), below_drewN (Below.refl _ _) _⟩
  · cases h2 : isKw s.toList
    · go_enter Tryd.func18, Tryd.ntmps18
      go_wp2_with fail
      refine (nameMay_any s hs _).mono ?_
      rintro e w1 ⟨rfl, n, rfl⟩
      go_wp2_with fail
      refine (isWord_any s _).mono ?_
      rintro e w2 ⟨rfl, hb2⟩
      go_wp2_with fail
      refine (primArgs_any s _).mono ?_
      rintro e w3 ⟨rfl, rfl⟩
      go_wp2_with fail
      go_ret
      exact ⟨ret_bool (by rw [HF.out, h1, h2]; rfl), (below_drewN (Below.refl _ _) n).trans hb2⟩
    · go_enter Tryd.func18, Tryd.ntmps18
      go_wp2_with fail
      refine (nameMay_any s hs _).mono ?_
      rintro e w1 ⟨rfl, n, rfl⟩
      go_wp2_with fail
      refine (isWord_any s _).mono ?_
      rintro e w2 ⟨rfl, hb2⟩
      go_wp2_with fail
      go_ret
      exact ⟨ret_bool (by rw [HF.out, h1, h2]; rfl), (below_drewN (Below.refl _ _) n).trans hb2⟩
end Go.Proofs.YtlgnaopaeapbfaaDoor
