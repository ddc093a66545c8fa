/- Contract of code.named, kind by kind (printed by gen_named.py). -/
import Derived.Test.YtlgnaopaeapbfaaDoorCounts
import Derived.Deep.LoopGhost
namespace Go.Proofs.YtlgnaopaeapbfaaDoor
open Go.RowKit Go.ChangeShapes Go.WideShapes Go.Deep Go.ChangeAt
set_option linter.unusedVariables false

def nameAt (names : List ByteArray) (i : Nat) : Bool := freeB (names.getD i ByteArray.empty) && !inL (names.take i) (names.getD i ByteArray.empty)
def namesB (names : List ByteArray) : Bool := (List.range names.length).all (nameAt names)
theorem namesB_no {names : List ByteArray} {i : Nat} (hi : i < names.length) (h : nameAt names i = false) : namesB names = false := by
  unfold namesB
  rw [Bool.eq_false_iff]
  intro ha
  rw [List.all_eq_true] at ha
  rw [ha i (by simpa using hi)] at h
  cases h
theorem namesB_yes {names : List ByteArray} (h : ∀ i, i < names.length → nameAt names i = true) : namesB names = true := by
  unfold namesB
  rw [List.all_eq_true]
  intro i hi
  exact h i (by simpa using hi)
/-- Are the names of an expression as they must be? -/
def namedB (k N : Int) (S : ByteArray) (names scope : List ByteArray) : Bool :=
  if k = 2 then inL scope S else if k = 3 ∨ k = 11 ∨ k = 12 ∨ k = 13 ∨ k = 14 then freeB S
  else if k = 8 then (decide (N = 0) && freeB S) || (decide (N = 1) && inL scope S)
  else if k = 5 ∨ k = 6 then namesB names else true

section
variable {H : Type} {enc : TypeId × Value → H}
def NamedSays (w : World) (cs : List Value) (h : ExHead) (As : Option Addr) (sl sc : Nat) (scope : List ByteArray) : Prop :=
  Calls Tryd.prog 36 #[.agg cs.toArray, .slice As sl sc] w fun e w' => e = .returned (.bool (namedB h.kind h.N h.S h.names scope)) ∧ Below w.heap.size w w'

theorem box_below {w w1 : World} {o : Obj} (h : Below (w.alloc o).heap.size (w.alloc o) w1) : Below w.heap.size w w1 := ((Below.refl _ _).alloc (Nat.le_refl _) _).trans (h.mono (by simp))

set_option maxHeartbeats 1000000 in
theorem named_1 {w : World} {cs : List Value} {h : ExHead} {dk dn : Int} {ds : ByteArray} {dA : Option Addr} {dl dc : Nat} {An : Option Addr} {nl nc : Nat} {Aa : Option Addr} {al ac : Nat} {As : Option Addr} {sl sc : Nat} {scope : List ByteArray} (hx : ExC enc w cs h dk dn ds dA dl dc An nl nc Aa al ac) (hm : CMaps w) (hs : StrsAt w As sl scope) (hsl : sl ≤ sc) (hsc : sc ≤ maxLen) (hk : h.kind = 1) : NamedSays w cs h As sl sc scope := by
  obtain ⟨k, df, S, N, names⟩ := h
  obtain ⟨rfl, hkr, hnr, hS, hdf, hns, hes, hn1, hn2, ha1, ha2⟩ := hx
  simp only at hk hS hns hes
  subst hk
  have hnl : nl ≤ 9223372036854775807 := by unfold maxLen at hn2; omega
  clear hkr hdf ha1 ha2
  unfold NamedSays
  have HC := Lib.hid (show namedB 1 N S names scope = true from rfl)
  clear hm hns hes hs
  (go_enter Tryd.func36, Tryd.ntmps36; go_wp2_with fail)
  go_ret
  exact ⟨ret_bool HC.out.symm, by (exact (Below.refl _ _).alloc (Nat.le_refl _) _)⟩

set_option maxHeartbeats 1000000 in
theorem named_4 {w : World} {cs : List Value} {h : ExHead} {dk dn : Int} {ds : ByteArray} {dA : Option Addr} {dl dc : Nat} {An : Option Addr} {nl nc : Nat} {Aa : Option Addr} {al ac : Nat} {As : Option Addr} {sl sc : Nat} {scope : List ByteArray} (hx : ExC enc w cs h dk dn ds dA dl dc An nl nc Aa al ac) (hm : CMaps w) (hs : StrsAt w As sl scope) (hsl : sl ≤ sc) (hsc : sc ≤ maxLen) (hk : h.kind = 4) : NamedSays w cs h As sl sc scope := by
  obtain ⟨k, df, S, N, names⟩ := h
  obtain ⟨rfl, hkr, hnr, hS, hdf, hns, hes, hn1, hn2, ha1, ha2⟩ := hx
  simp only at hk hS hns hes
  subst hk
  have hnl : nl ≤ 9223372036854775807 := by unfold maxLen at hn2; omega
  clear hkr hdf ha1 ha2
  unfold NamedSays
  have HC := Lib.hid (show namedB 4 N S names scope = true from rfl)
  clear hm hns hes hs
  (go_enter Tryd.func36, Tryd.ntmps36; go_wp2_with fail)
  go_ret
  exact ⟨ret_bool HC.out.symm, by (exact (Below.refl _ _).alloc (Nat.le_refl _) _)⟩

set_option maxHeartbeats 1000000 in
theorem named_7 {w : World} {cs : List Value} {h : ExHead} {dk dn : Int} {ds : ByteArray} {dA : Option Addr} {dl dc : Nat} {An : Option Addr} {nl nc : Nat} {Aa : Option Addr} {al ac : Nat} {As : Option Addr} {sl sc : Nat} {scope : List ByteArray} (hx : ExC enc w cs h dk dn ds dA dl dc An nl nc Aa al ac) (hm : CMaps w) (hs : StrsAt w As sl scope) (hsl : sl ≤ sc) (hsc : sc ≤ maxLen) (hk : h.kind = 7) : NamedSays w cs h As sl sc scope := by
  obtain ⟨k, df, S, N, names⟩ := h
  obtain ⟨rfl, hkr, hnr, hS, hdf, hns, hes, hn1, hn2, ha1, ha2⟩ := hx
  simp only at hk hS hns hes
  subst hk
  have hnl : nl ≤ 9223372036854775807 := by unfold maxLen at hn2; omega
  clear hkr hdf ha1 ha2
  unfold NamedSays
  have HC := Lib.hid (show namedB 7 N S names scope = true from rfl)
  clear hm hns hes hs
  (go_enter Tryd.func36, Tryd.ntmps36; go_wp2_with fail)
  go_ret
  exact ⟨ret_bool HC.out.symm, by (exact (Below.refl _ _).alloc (Nat.le_refl _) _)⟩

set_option maxHeartbeats 1000000 in
theorem named_9 {w : World} {cs : List Value} {h : ExHead} {dk dn : Int} {ds : ByteArray} {dA : Option Addr} {dl dc : Nat} {An : Option Addr} {nl nc : Nat} {Aa : Option Addr} {al ac : Nat} {As : Option Addr} {sl sc : Nat} {scope : List ByteArray} (hx : ExC enc w cs h dk dn ds dA dl dc An nl nc Aa al ac) (hm : CMaps w) (hs : StrsAt w As sl scope) (hsl : sl ≤ sc) (hsc : sc ≤ maxLen) (hk : h.kind = 9) : NamedSays w cs h As sl sc scope := by
  obtain ⟨k, df, S, N, names⟩ := h
  obtain ⟨rfl, hkr, hnr, hS, hdf, hns, hes, hn1, hn2, ha1, ha2⟩ := hx
  simp only at hk hS hns hes
  subst hk
  have hnl : nl ≤ 9223372036854775807 := by unfold maxLen at hn2; omega
  clear hkr hdf ha1 ha2
  unfold NamedSays
  have HC := Lib.hid (show namedB 9 N S names scope = true from rfl)
  clear hm hns hes hs
  (go_enter Tryd.func36, Tryd.ntmps36; go_wp2_with fail)
  go_ret
  exact ⟨ret_bool HC.out.symm, by (exact (Below.refl _ _).alloc (Nat.le_refl _) _)⟩

set_option maxHeartbeats 1000000 in
theorem named_10 {w : World} {cs : List Value} {h : ExHead} {dk dn : Int} {ds : ByteArray} {dA : Option Addr} {dl dc : Nat} {An : Option Addr} {nl nc : Nat} {Aa : Option Addr} {al ac : Nat} {As : Option Addr} {sl sc : Nat} {scope : List ByteArray} (hx : ExC enc w cs h dk dn ds dA dl dc An nl nc Aa al ac) (hm : CMaps w) (hs : StrsAt w As sl scope) (hsl : sl ≤ sc) (hsc : sc ≤ maxLen) (hk : h.kind = 10) : NamedSays w cs h As sl sc scope := by
  obtain ⟨k, df, S, N, names⟩ := h
  obtain ⟨rfl, hkr, hnr, hS, hdf, hns, hes, hn1, hn2, ha1, ha2⟩ := hx
  simp only at hk hS hns hes
  subst hk
  have hnl : nl ≤ 9223372036854775807 := by unfold maxLen at hn2; omega
  clear hkr hdf ha1 ha2
  unfold NamedSays
  have HC := Lib.hid (show namedB 10 N S names scope = true from rfl)
  clear hm hns hes hs
  (go_enter Tryd.func36, Tryd.ntmps36; go_wp2_with fail)
  go_ret
  exact ⟨ret_bool HC.out.symm, by (exact (Below.refl _ _).alloc (Nat.le_refl _) _)⟩

set_option maxHeartbeats 1000000 in
theorem named_15 {w : World} {cs : List Value} {h : ExHead} {dk dn : Int} {ds : ByteArray} {dA : Option Addr} {dl dc : Nat} {An : Option Addr} {nl nc : Nat} {Aa : Option Addr} {al ac : Nat} {As : Option Addr} {sl sc : Nat} {scope : List ByteArray} (hx : ExC enc w cs h dk dn ds dA dl dc An nl nc Aa al ac) (hm : CMaps w) (hs : StrsAt w As sl scope) (hsl : sl ≤ sc) (hsc : sc ≤ maxLen) (hk : h.kind = 15) : NamedSays w cs h As sl sc scope := by
  obtain ⟨k, df, S, N, names⟩ := h
  obtain ⟨rfl, hkr, hnr, hS, hdf, hns, hes, hn1, hn2, ha1, ha2⟩ := hx
  simp only at hk hS hns hes
  subst hk
  have hnl : nl ≤ 9223372036854775807 := by unfold maxLen at hn2; omega
  clear hkr hdf ha1 ha2
  unfold NamedSays
  have HC := Lib.hid (show namedB 15 N S names scope = true from rfl)
  clear hm hns hes hs
  (go_enter Tryd.func36, Tryd.ntmps36; go_wp2_with fail)
  go_ret
  exact ⟨ret_bool HC.out.symm, by (exact (Below.refl _ _).alloc (Nat.le_refl _) _)⟩

set_option maxHeartbeats 1000000 in
theorem named_3 {w : World} {cs : List Value} {h : ExHead} {dk dn : Int} {ds : ByteArray} {dA : Option Addr} {dl dc : Nat} {An : Option Addr} {nl nc : Nat} {Aa : Option Addr} {al ac : Nat} {As : Option Addr} {sl sc : Nat} {scope : List ByteArray} (hx : ExC enc w cs h dk dn ds dA dl dc An nl nc Aa al ac) (hm : CMaps w) (hs : StrsAt w As sl scope) (hsl : sl ≤ sc) (hsc : sc ≤ maxLen) (hk : h.kind = 3) : NamedSays w cs h As sl sc scope := by
  obtain ⟨k, df, S, N, names⟩ := h
  obtain ⟨rfl, hkr, hnr, hS, hdf, hns, hes, hn1, hn2, ha1, ha2⟩ := hx
  simp only at hk hS hns hes
  subst hk
  have hnl : nl ≤ 9223372036854775807 := by unfold maxLen at hn2; omega
  clear hkr hdf ha1 ha2
  unfold NamedSays
  have HC := Lib.hid (show namedB 3 N S names scope = freeB S from rfl)
  have HM := Lib.hid hm
  clear hm hns hes hs
  (go_enter Tryd.func36, Tryd.ntmps36; go_wp2_with fail)
  refine (free_code S hS _ (HM.out.um.below ((Below.refl _ _).alloc (Nat.le_refl _) _))).mono ?_
  rintro e w1 ⟨rfl, hb1⟩
  have HB1 := Lib.hid (box_below hb1)
  clear hb1
  go_wp2_with fail
  go_ret
  exact ⟨ret_bool HC.out.symm, HB1.out⟩

set_option maxHeartbeats 1000000 in
theorem named_11 {w : World} {cs : List Value} {h : ExHead} {dk dn : Int} {ds : ByteArray} {dA : Option Addr} {dl dc : Nat} {An : Option Addr} {nl nc : Nat} {Aa : Option Addr} {al ac : Nat} {As : Option Addr} {sl sc : Nat} {scope : List ByteArray} (hx : ExC enc w cs h dk dn ds dA dl dc An nl nc Aa al ac) (hm : CMaps w) (hs : StrsAt w As sl scope) (hsl : sl ≤ sc) (hsc : sc ≤ maxLen) (hk : h.kind = 11) : NamedSays w cs h As sl sc scope := by
  obtain ⟨k, df, S, N, names⟩ := h
  obtain ⟨rfl, hkr, hnr, hS, hdf, hns, hes, hn1, hn2, ha1, ha2⟩ := hx
  simp only at hk hS hns hes
  subst hk
  have hnl : nl ≤ 9223372036854775807 := by unfold maxLen at hn2; omega
  clear hkr hdf ha1 ha2
  unfold NamedSays
  have HC := Lib.hid (show namedB 11 N S names scope = freeB S from rfl)
  have HM := Lib.hid hm
  clear hm hns hes hs
  (go_enter Tryd.func36, Tryd.ntmps36; go_wp2_with fail)
  refine (free_code S hS _ (HM.out.um.below ((Below.refl _ _).alloc (Nat.le_refl _) _))).mono ?_
  rintro e w1 ⟨rfl, hb1⟩
  have HB1 := Lib.hid (box_below hb1)
  clear hb1
  go_wp2_with fail
  go_ret
  exact ⟨ret_bool HC.out.symm, HB1.out⟩

set_option maxHeartbeats 1000000 in
theorem named_12 {w : World} {cs : List Value} {h : ExHead} {dk dn : Int} {ds : ByteArray} {dA : Option Addr} {dl dc : Nat} {An : Option Addr} {nl nc : Nat} {Aa : Option Addr} {al ac : Nat} {As : Option Addr} {sl sc : Nat} {scope : List ByteArray} (hx : ExC enc w cs h dk dn ds dA dl dc An nl nc Aa al ac) (hm : CMaps w) (hs : StrsAt w As sl scope) (hsl : sl ≤ sc) (hsc : sc ≤ maxLen) (hk : h.kind = 12) : NamedSays w cs h As sl sc scope := by
  obtain ⟨k, df, S, N, names⟩ := h
  obtain ⟨rfl, hkr, hnr, hS, hdf, hns, hes, hn1, hn2, ha1, ha2⟩ := hx
  simp only at hk hS hns hes
  subst hk
  have hnl : nl ≤ 9223372036854775807 := by unfold maxLen at hn2; omega
  clear hkr hdf ha1 ha2
  unfold NamedSays
  have HC := Lib.hid (show namedB 12 N S names scope = freeB S from rfl)
  have HM := Lib.hid hm
  clear hm hns hes hs
  (go_enter Tryd.func36, Tryd.ntmps36; go_wp2_with fail)
  refine (free_code S hS _ (HM.out.um.below ((Below.refl _ _).alloc (Nat.le_refl _) _))).mono ?_
  rintro e w1 ⟨rfl, hb1⟩
  have HB1 := Lib.hid (box_below hb1)
  clear hb1
  go_wp2_with fail
  go_ret
  exact ⟨ret_bool HC.out.symm, HB1.out⟩

set_option maxHeartbeats 1000000 in
theorem named_13 {w : World} {cs : List Value} {h : ExHead} {dk dn : Int} {ds : ByteArray} {dA : Option Addr} {dl dc : Nat} {An : Option Addr} {nl nc : Nat} {Aa : Option Addr} {al ac : Nat} {As : Option Addr} {sl sc : Nat} {scope : List ByteArray} (hx : ExC enc w cs h dk dn ds dA dl dc An nl nc Aa al ac) (hm : CMaps w) (hs : StrsAt w As sl scope) (hsl : sl ≤ sc) (hsc : sc ≤ maxLen) (hk : h.kind = 13) : NamedSays w cs h As sl sc scope := by
  obtain ⟨k, df, S, N, names⟩ := h
  obtain ⟨rfl, hkr, hnr, hS, hdf, hns, hes, hn1, hn2, ha1, ha2⟩ := hx
  simp only at hk hS hns hes
  subst hk
  have hnl : nl ≤ 9223372036854775807 := by unfold maxLen at hn2; omega
  clear hkr hdf ha1 ha2
  unfold NamedSays
  have HC := Lib.hid (show namedB 13 N S names scope = freeB S from rfl)
  have HM := Lib.hid hm
  clear hm hns hes hs
  (go_enter Tryd.func36, Tryd.ntmps36; go_wp2_with fail)
  refine (free_code S hS _ (HM.out.um.below ((Below.refl _ _).alloc (Nat.le_refl _) _))).mono ?_
  rintro e w1 ⟨rfl, hb1⟩
  have HB1 := Lib.hid (box_below hb1)
  clear hb1
  go_wp2_with fail
  go_ret
  exact ⟨ret_bool HC.out.symm, HB1.out⟩

set_option maxHeartbeats 1000000 in
theorem named_14 {w : World} {cs : List Value} {h : ExHead} {dk dn : Int} {ds : ByteArray} {dA : Option Addr} {dl dc : Nat} {An : Option Addr} {nl nc : Nat} {Aa : Option Addr} {al ac : Nat} {As : Option Addr} {sl sc : Nat} {scope : List ByteArray} (hx : ExC enc w cs h dk dn ds dA dl dc An nl nc Aa al ac) (hm : CMaps w) (hs : StrsAt w As sl scope) (hsl : sl ≤ sc) (hsc : sc ≤ maxLen) (hk : h.kind = 14) : NamedSays w cs h As sl sc scope := by
  obtain ⟨k, df, S, N, names⟩ := h
  obtain ⟨rfl, hkr, hnr, hS, hdf, hns, hes, hn1, hn2, ha1, ha2⟩ := hx
  simp only at hk hS hns hes
  subst hk
  have hnl : nl ≤ 9223372036854775807 := by unfold maxLen at hn2; omega
  clear hkr hdf ha1 ha2
  unfold NamedSays
  have HC := Lib.hid (show namedB 14 N S names scope = freeB S from rfl)
  have HM := Lib.hid hm
  clear hm hns hes hs
  (go_enter Tryd.func36, Tryd.ntmps36; go_wp2_with fail)
  refine (free_code S hS _ (HM.out.um.below ((Below.refl _ _).alloc (Nat.le_refl _) _))).mono ?_
  rintro e w1 ⟨rfl, hb1⟩
  have HB1 := Lib.hid (box_below hb1)
  clear hb1
  go_wp2_with fail
  go_ret
  exact ⟨ret_bool HC.out.symm, HB1.out⟩

set_option maxHeartbeats 1000000 in
theorem named_2 {w : World} {cs : List Value} {h : ExHead} {dk dn : Int} {ds : ByteArray} {dA : Option Addr} {dl dc : Nat} {An : Option Addr} {nl nc : Nat} {Aa : Option Addr} {al ac : Nat} {As : Option Addr} {sl sc : Nat} {scope : List ByteArray} (hx : ExC enc w cs h dk dn ds dA dl dc An nl nc Aa al ac) (hm : CMaps w) (hs : StrsAt w As sl scope) (hsl : sl ≤ sc) (hsc : sc ≤ maxLen) (hk : h.kind = 2) : NamedSays w cs h As sl sc scope := by
  obtain ⟨k, df, S, N, names⟩ := h
  obtain ⟨rfl, hkr, hnr, hS, hdf, hns, hes, hn1, hn2, ha1, ha2⟩ := hx
  simp only at hk hS hns hes
  subst hk
  have hnl : nl ≤ 9223372036854775807 := by unfold maxLen at hn2; omega
  clear hkr hdf ha1 ha2
  unfold NamedSays
  have HC := Lib.hid (show namedB 2 N S names scope = inL scope S from rfl)
  have HS := Lib.hid hs
  clear hm hns hes hs
  (go_enter Tryd.func36, Tryd.ntmps36; go_wp2_with fail)
  refine (contains_any S As sl sc scope _ hsc hsl (HS.out.below ((Below.refl _ _).alloc (Nat.le_refl _) _))).mono ?_
  rintro e w1 ⟨rfl, rfl⟩
  go_wp2_with fail
  go_ret
  exact ⟨ret_bool HC.out.symm, by (exact (Below.refl _ _).alloc (Nat.le_refl _) _)⟩

set_option maxHeartbeats 1000000 in
theorem named_8 {w : World} {cs : List Value} {h : ExHead} {dk dn : Int} {ds : ByteArray} {dA : Option Addr} {dl dc : Nat} {An : Option Addr} {nl nc : Nat} {Aa : Option Addr} {al ac : Nat} {As : Option Addr} {sl sc : Nat} {scope : List ByteArray} (hx : ExC enc w cs h dk dn ds dA dl dc An nl nc Aa al ac) (hm : CMaps w) (hs : StrsAt w As sl scope) (hsl : sl ≤ sc) (hsc : sc ≤ maxLen) (hk : h.kind = 8) : NamedSays w cs h As sl sc scope := by
  obtain ⟨k, df, S, N, names⟩ := h
  obtain ⟨rfl, hkr, hnr, hS, hdf, hns, hes, hn1, hn2, ha1, ha2⟩ := hx
  simp only at hk hS hns hes
  subst hk
  have hnl : nl ≤ 9223372036854775807 := by unfold maxLen at hn2; omega
  clear hkr hdf ha1 ha2
  unfold NamedSays
  have HC := Lib.hid (show namedB 8 N S names scope = ((decide (N = 0) && freeB S) || (decide (N = 1) && inL scope S)) from rfl)
  have HS := Lib.hid hs
  have HM := Lib.hid hm
  clear hm hns hes hs
  by_cases h0 : N = 0
  · subst h0
    cases hf : freeB S
    all_goals
      have hF := fun w hm => free_code S hS w hm
      rw [hf] at hF
      have HF := Lib.hid hf
      have HFF := Lib.hid hF
      clear hf hF
      (go_enter Tryd.func36, Tryd.ntmps36; go_wp2_with fail)
      refine (HFF.out _ (HM.out.um.below ((Below.refl _ _).alloc (Nat.le_refl _) _))).mono ?_
      rintro e w1 ⟨rfl, hb1⟩
      have c6 : w1.cell? ⟨w.heap.size, 6, none⟩ = some (.int .i64 0) := box_cell hb1 rfl
      have HB1 := Lib.hid (box_below hb1)
      clear hb1
      go_wp2_with fail
      go_ret
      exact ⟨ret_bool (by rw [HC.out, HF.out]; rfl), HB1.out⟩
  · by_cases h1 : N = 1
    · subst h1
      (go_enter Tryd.func36, Tryd.ntmps36; go_wp2_with fail)
      refine (contains_any S As sl sc scope _ hsc hsl (HS.out.below ((Below.refl _ _).alloc (Nat.le_refl _) _))).mono ?_
      rintro e w1 ⟨rfl, rfl⟩
      go_wp2_with fail
      go_ret
      exact ⟨ret_bool (by rw [HC.out]; rfl), by (exact (Below.refl _ _).alloc (Nat.le_refl _) _)⟩
    · have HN := Lib.hid (And.intro (decide_eq_false h0) (decide_eq_false h1))
      (go_enter Tryd.func36, Tryd.ntmps36; go_wp2_with fail)
      go_ret
      exact ⟨ret_bool (by rw [HC.out, HN.out.1, HN.out.2]; rfl), by (exact (Below.refl _ _).alloc (Nat.le_refl _) _)⟩

set_option maxHeartbeats 1000000 in
theorem named_5 {w : World} {cs : List Value} {h : ExHead} {dk dn : Int} {ds : ByteArray} {dA : Option Addr} {dl dc : Nat} {An : Option Addr} {nl nc : Nat} {Aa : Option Addr} {al ac : Nat} {As : Option Addr} {sl sc : Nat} {scope : List ByteArray} (hx : ExC enc w cs h dk dn ds dA dl dc An nl nc Aa al ac) (hm : CMaps w) (hs : StrsAt w As sl scope) (hsl : sl ≤ sc) (hsc : sc ≤ maxLen) (hk : h.kind = 5) : NamedSays w cs h As sl sc scope := by
  obtain ⟨k, df, S, N, names⟩ := h
  obtain ⟨rfl, hkr, hnr, hS, hdf, hns, hes, hn1, hn2, ha1, ha2⟩ := hx
  simp only at hk hS hns hes
  subst hk
  have hnl : nl ≤ 9223372036854775807 := by unfold maxLen at hn2; omega
  clear hkr hdf ha1 ha2
  unfold NamedSays
  have HC := Lib.hid (show namedB 5 N S names scope = namesB names from rfl)
  have HM := Lib.hid hm
  have HNS := Lib.hid hns
  have HES := Lib.hid hes
  clear hm hns hes hs
  (go_enter Tryd.func36, Tryd.ntmps36; go_wp2_with fail)
  go_loopg [55] nl (fun g i wr => ∃ k : Nat, g = nl - k ∧ k ≤ nl ∧ i = .int .i64 k ∧ wr.cell? ⟨w.heap.size, 7, none⟩ = some (.slice An nl nc) ∧ w.heap.size < wr.heap.size ∧ Below w.heap.size w wr ∧ ∀ j, j < k → nameAt names j = true)
  case atStart => exact ⟨0, by omega, by omega, rfl, box_cell (Below.refl _ _) rfl, by simp, (Below.refl _ _).alloc (Nat.le_refl _) _, fun j h => absurd h (by omega)⟩
  case round =>
    obtain ⟨k, hg, hk, rfl, hbox, hbs, hb, hall⟩ := hrel
    have HG := Lib.hid hg
    have HALL := Lib.hid hall
    have HBR := Lib.hid hb
    have hsz := hb.size
    clear hg hall hb
    by_cases hlt : k < nl
    · obtain ⟨b, o, rfl, hbw, hrow⟩ := HNS.out.at_ (by omega)
      have hks : k < names.length := by rw [HNS.out.size]; exact hlt
      have hc : wr.cell? ⟨b, o + k, none⟩ = some (.string names[k]) := (HBR.out.cell (p := ⟨b, o + k, none⟩) hbw).trans (hrow k hks)
      have hcs : names[k].size ≤ maxLen := HES.out _ (List.getElem_mem hks)
      have HGD := Lib.hid (show names.getD k ByteArray.empty = names[k] from by simp [hks])
      clear hrow
      cases hn : freeB names[k]
      · have HK := Lib.hid (show nameAt names k = false from by unfold nameAt; rw [HGD.out, hn]; rfl)
        have hF := fun w hm => free_code names[k] hcs w hm
        rw [hn] at hF
        have HF := Lib.hid hF
        clear hF hn
        go_wp2_with fail
        refine (HF.out _ (HM.out.um.below HBR.out)).mono ?_
        rintro e w2 ⟨rfl, hb2⟩
        have HB2 := Lib.hid (HBR.out.trans (hb2.mono hsz))
        clear hb2
        go_wp2_with fail
        go_ret
        exact ⟨ret_bool (by rw [HC.out]; exact (namesB_no hks HK.out).symm), HB2.out⟩
      · have hF := fun w hm => free_code names[k] hcs w hm
        rw [hn] at hF
        have HF := Lib.hid hF
        have HN := Lib.hid hn
        clear hF hn
        go_wp2_with fail
        refine (HF.out _ (HM.out.um.below HBR.out)).mono ?_
        rintro e w2 ⟨rfl, hb2⟩
        have hbox2 : w2.cell? ⟨w.heap.size, 7, none⟩ = some (.slice (some ⟨b, o, none⟩) nl nc) := (hb2.cell (p := ⟨w.heap.size, 7, none⟩) hbs).trans hbox
        have hbs2 : w.heap.size < w2.heap.size := Nat.lt_of_lt_of_le hbs hb2.size
        have HB2 := Lib.hid (HBR.out.trans (hb2.mono hsz))
        clear hb2
        have hst : StrsAt w2 (some ⟨b, o, none⟩) k (names.take k) := (HNS.out.take (Nat.le_of_lt hlt)).below HB2.out
        have hcon := contains_any names[k] (some ⟨b, o, none⟩) k nc (names.take k) w2 hn2 (by omega) hst
        cases hin : inL (names.take k) names[k]
        · rw [hin] at hcon
          have HCON := Lib.hid hcon
          have HK := Lib.hid (show nameAt names k = true from by unfold nameAt; rw [HGD.out, HN.out, hin]; rfl)
          clear hin hcon hst
          go_wp2_with fail
          refine HCON.out.mono ?_
          rintro e w3 ⟨rfl, rfl⟩
          go_wp2_with fail
          go_roundg (nl - (k + 1))
          case measure => have := HG.out; omega
          case rel =>
            refine ⟨k + 1, rfl, hlt, rfl, hbox2, hbs2, HB2.out, fun j hj => ?_⟩
            by_cases hjk : j = k
            · subst hjk; exact HK.out
            · exact HALL.out j (by omega)
        · rw [hin] at hcon
          have HCON := Lib.hid hcon
          have HK := Lib.hid (show nameAt names k = false from by unfold nameAt; rw [HGD.out, HN.out, hin]; rfl)
          clear hin hcon hst
          go_wp2_with fail
          refine HCON.out.mono ?_
          rintro e w3 ⟨rfl, rfl⟩
          go_wp2_with fail
          go_ret
          exact ⟨ret_bool (by rw [HC.out]; exact (namesB_no hks HK.out).symm), HB2.out⟩
    · obtain rfl : k = nl := by omega
      go_wp2_with fail
      go_ret
      exact ⟨ret_bool (by rw [HC.out]; exact (namesB_yes fun i hi => HALL.out i (by rw [← HNS.out.size]; exact hi)).symm), HBR.out⟩

set_option maxHeartbeats 1000000 in
theorem named_6 {w : World} {cs : List Value} {h : ExHead} {dk dn : Int} {ds : ByteArray} {dA : Option Addr} {dl dc : Nat} {An : Option Addr} {nl nc : Nat} {Aa : Option Addr} {al ac : Nat} {As : Option Addr} {sl sc : Nat} {scope : List ByteArray} (hx : ExC enc w cs h dk dn ds dA dl dc An nl nc Aa al ac) (hm : CMaps w) (hs : StrsAt w As sl scope) (hsl : sl ≤ sc) (hsc : sc ≤ maxLen) (hk : h.kind = 6) : NamedSays w cs h As sl sc scope := by
  obtain ⟨k, df, S, N, names⟩ := h
  obtain ⟨rfl, hkr, hnr, hS, hdf, hns, hes, hn1, hn2, ha1, ha2⟩ := hx
  simp only at hk hS hns hes
  subst hk
  have hnl : nl ≤ 9223372036854775807 := by unfold maxLen at hn2; omega
  clear hkr hdf ha1 ha2
  unfold NamedSays
  have HC := Lib.hid (show namedB 6 N S names scope = namesB names from rfl)
  have HM := Lib.hid hm
  have HNS := Lib.hid hns
  have HES := Lib.hid hes
  clear hm hns hes hs
  (go_enter Tryd.func36, Tryd.ntmps36; go_wp2_with fail)
  go_loopg [55] nl (fun g i wr => ∃ k : Nat, g = nl - k ∧ k ≤ nl ∧ i = .int .i64 k ∧ wr.cell? ⟨w.heap.size, 7, none⟩ = some (.slice An nl nc) ∧ w.heap.size < wr.heap.size ∧ Below w.heap.size w wr ∧ ∀ j, j < k → nameAt names j = true)
  case atStart => exact ⟨0, by omega, by omega, rfl, box_cell (Below.refl _ _) rfl, by simp, (Below.refl _ _).alloc (Nat.le_refl _) _, fun j h => absurd h (by omega)⟩
  case round =>
    obtain ⟨k, hg, hk, rfl, hbox, hbs, hb, hall⟩ := hrel
    have HG := Lib.hid hg
    have HALL := Lib.hid hall
    have HBR := Lib.hid hb
    have hsz := hb.size
    clear hg hall hb
    by_cases hlt : k < nl
    · obtain ⟨b, o, rfl, hbw, hrow⟩ := HNS.out.at_ (by omega)
      have hks : k < names.length := by rw [HNS.out.size]; exact hlt
      have hc : wr.cell? ⟨b, o + k, none⟩ = some (.string names[k]) := (HBR.out.cell (p := ⟨b, o + k, none⟩) hbw).trans (hrow k hks)
      have hcs : names[k].size ≤ maxLen := HES.out _ (List.getElem_mem hks)
      have HGD := Lib.hid (show names.getD k ByteArray.empty = names[k] from by simp [hks])
      clear hrow
      cases hn : freeB names[k]
      · have HK := Lib.hid (show nameAt names k = false from by unfold nameAt; rw [HGD.out, hn]; rfl)
        have hF := fun w hm => free_code names[k] hcs w hm
        rw [hn] at hF
        have HF := Lib.hid hF
        clear hF hn
        go_wp2_with fail
        refine (HF.out _ (HM.out.um.below HBR.out)).mono ?_
        rintro e w2 ⟨rfl, hb2⟩
        have HB2 := Lib.hid (HBR.out.trans (hb2.mono hsz))
        clear hb2
        go_wp2_with fail
        go_ret
        exact ⟨ret_bool (by rw [HC.out]; exact (namesB_no hks HK.out).symm), HB2.out⟩
      · have hF := fun w hm => free_code names[k] hcs w hm
        rw [hn] at hF
        have HF := Lib.hid hF
        have HN := Lib.hid hn
        clear hF hn
        go_wp2_with fail
        refine (HF.out _ (HM.out.um.below HBR.out)).mono ?_
        rintro e w2 ⟨rfl, hb2⟩
        have hbox2 : w2.cell? ⟨w.heap.size, 7, none⟩ = some (.slice (some ⟨b, o, none⟩) nl nc) := (hb2.cell (p := ⟨w.heap.size, 7, none⟩) hbs).trans hbox
        have hbs2 : w.heap.size < w2.heap.size := Nat.lt_of_lt_of_le hbs hb2.size
        have HB2 := Lib.hid (HBR.out.trans (hb2.mono hsz))
        clear hb2
        have hst : StrsAt w2 (some ⟨b, o, none⟩) k (names.take k) := (HNS.out.take (Nat.le_of_lt hlt)).below HB2.out
        have hcon := contains_any names[k] (some ⟨b, o, none⟩) k nc (names.take k) w2 hn2 (by omega) hst
        cases hin : inL (names.take k) names[k]
        · rw [hin] at hcon
          have HCON := Lib.hid hcon
          have HK := Lib.hid (show nameAt names k = true from by unfold nameAt; rw [HGD.out, HN.out, hin]; rfl)
          clear hin hcon hst
          go_wp2_with fail
          refine HCON.out.mono ?_
          rintro e w3 ⟨rfl, rfl⟩
          go_wp2_with fail
          go_roundg (nl - (k + 1))
          case measure => have := HG.out; omega
          case rel =>
            refine ⟨k + 1, rfl, hlt, rfl, hbox2, hbs2, HB2.out, fun j hj => ?_⟩
            by_cases hjk : j = k
            · subst hjk; exact HK.out
            · exact HALL.out j (by omega)
        · rw [hin] at hcon
          have HCON := Lib.hid hcon
          have HK := Lib.hid (show nameAt names k = false from by unfold nameAt; rw [HGD.out, HN.out, hin]; rfl)
          clear hin hcon hst
          go_wp2_with fail
          refine HCON.out.mono ?_
          rintro e w3 ⟨rfl, rfl⟩
          go_wp2_with fail
          go_ret
          exact ⟨ret_bool (by rw [HC.out]; exact (namesB_no hks HK.out).symm), HB2.out⟩
    · obtain rfl : k = nl := by omega
      go_wp2_with fail
      go_ret
      exact ⟨ret_bool (by rw [HC.out]; exact (namesB_yes fun i hi => HALL.out i (by rw [← HNS.out.size]; exact hi)).symm), HBR.out⟩

theorem named_any {w : World} {cs : List Value} {h : ExHead} {dk dn : Int} {ds : ByteArray} {dA : Option Addr} {dl dc : Nat} {An : Option Addr} {nl nc : Nat} {Aa : Option Addr} {al ac : Nat} {As : Option Addr} {sl sc : Nat} {scope : List ByteArray} (hx : ExC enc w cs h dk dn ds dA dl dc An nl nc Aa al ac) (hm : CMaps w) (hs : StrsAt w As sl scope) (hsl : sl ≤ sc) (hsc : sc ≤ maxLen) (hk : ¬ (h.kind < 1 ∨ 15 < h.kind)) : NamedSays w cs h As sl sc scope := by
  rcases kinds hk with hk | hk | hk | hk | hk | hk | hk | hk | hk | hk | hk | hk | hk | hk | hk
  · exact named_1 hx hm hs hsl hsc hk
  · exact named_2 hx hm hs hsl hsc hk
  · exact named_3 hx hm hs hsl hsc hk
  · exact named_4 hx hm hs hsl hsc hk
  · exact named_5 hx hm hs hsl hsc hk
  · exact named_6 hx hm hs hsl hsc hk
  · exact named_7 hx hm hs hsl hsc hk
  · exact named_8 hx hm hs hsl hsc hk
  · exact named_9 hx hm hs hsl hsc hk
  · exact named_10 hx hm hs hsl hsc hk
  · exact named_11 hx hm hs hsl hsc hk
  · exact named_12 hx hm hs hsl hsc hk
  · exact named_13 hx hm hs hsl hsc hk
  · exact named_14 hx hm hs hsl hsc hk
  · exact named_15 hx hm hs hsl hsc hk

end
end Go.Proofs.YtlgnaopaeapbfaaDoor

