/- Contract of code.counted, kind by kind (printed by gen_counted.py). -/
import Derived.Test.YtlgnaopaeapbfaaDoorCounted
namespace Go.Proofs.YtlgnaopaeapbfaaDoor
open Go.RowKit Go.ChangeShapes Go.WideShapes Go.Deep Go.ChangeAt
set_option linter.unusedVariables false

structure CMaps (w : World) : Prop where
  um : UMaps w
  ar : ArAt 2 w
theorem CMaps.below {w w' : World} (h : CMaps w) (hb : Below w.heap.size w w') : CMaps w' := ⟨h.um.below hb, h.ar.below hb⟩

/-- Has an expression of a kind as many arguments, and names, as it must have? -/
def countB (k : Int) (n : Nat) (S : ByteArray) (names : List ByteArray) : Bool :=
  if k = 1 ∨ k = 2 ∨ k = 3 ∨ k = 15 then decide (n = 0) else if k = 8 ∨ k = 12 then decide (n = 1) else if k = 4 then decide (n = 3)
  else if k = 5 then decide (n = names.length + 1 ∧ n ≤ 7) else if k = 6 then decide (n = 1 ∧ names.length ≤ 6) else if k = 7 then decide (2 ≤ n)
  else if k = 9 then decide (1 ≤ n ∧ n ≤ 7) else if k = 10 then decide (primN S.toList = n) else if k = 11 then decide (n ≤ 6)
  else if k = 13 then decide (n = 1 ∧ names.length = 1) && nameB (names.getD 0 ByteArray.empty).data.toList
  else if k = 14 then decide (n = 2 ∧ names.length = 1) && nameB (names.getD 0 ByteArray.empty).data.toList
  else true

section
variable {H : Type} {enc : TypeId × Value → H}
def CountSays (w : World) (cs : List Value) (h : ExHead) (al : Nat) : Prop :=
  Calls Tryd.prog 35 #[.agg cs.toArray] w fun e w' => e = .returned (.bool (countB h.kind al h.S h.names)) ∧ Below w.heap.size w w'


set_option maxHeartbeats 1000000 in
theorem counted_1 {w : World} {cs : List Value} {h : ExHead} {dk dn : Int} {ds : ByteArray} {dA : Option Addr} {dl dc : Nat} {An : Option Addr} {nl nc : Nat} {Aa : Option Addr} {al ac : Nat} (hx : ExC enc w cs h dk dn ds dA dl dc An nl nc Aa al ac) (hm : CMaps w) (hk : h.kind = 1) : CountSays w cs h al := by
  obtain ⟨k, df, S, N, names⟩ := h
  obtain ⟨rfl, hkr, hnr, hS, hdf, hns, hes, hn1, hn2, ha1, ha2⟩ := hx
  simp only at hk hS hns hes
  subst hk
  have hal : al ≤ 9223372036854775807 := by unfold maxLen at ha2; omega
  have hnl : nl ≤ 9223372036854775807 := by unfold maxLen at hn2; omega
  clear hkr hnr hdf hn1 hn2 ha1 ha2
  unfold CountSays
  have hNL := Lib.hid hns.size
  have HC := Lib.hid (show countB 1 al S names = decide (al = 0) from rfl)
  clear hm hns hes
  by_cases h1 : al = 0
  · subst h1
    (go_enter Tryd.func35, Tryd.ntmps35; go_wp2_with fail)
    refine (args_is _ 1 0 rfl).mono ?_
    rintro e w1 ⟨rfl, rfl⟩
    go_wp2_with fail
    go_ret
    exact ⟨ret_bool (by rw [HC.out]; rfl), by (exact (Below.refl _ _).alloc (Nat.le_refl _) _)⟩
  · have h2 : (al : Int) ≠ 0 := by omega
    (go_enter Tryd.func35, Tryd.ntmps35; go_wp2_with fail)
    refine (args_is _ 1 0 rfl).mono ?_
    rintro e w1 ⟨rfl, rfl⟩
    go_wp2_with fail
    go_ret
    exact ⟨ret_bool (by rw [HC.out]; exact (decide_eq_false h1).symm), by (exact (Below.refl _ _).alloc (Nat.le_refl _) _)⟩

set_option maxHeartbeats 1000000 in
theorem counted_2 {w : World} {cs : List Value} {h : ExHead} {dk dn : Int} {ds : ByteArray} {dA : Option Addr} {dl dc : Nat} {An : Option Addr} {nl nc : Nat} {Aa : Option Addr} {al ac : Nat} (hx : ExC enc w cs h dk dn ds dA dl dc An nl nc Aa al ac) (hm : CMaps w) (hk : h.kind = 2) : CountSays w cs h al := by
  obtain ⟨k, df, S, N, names⟩ := h
  obtain ⟨rfl, hkr, hnr, hS, hdf, hns, hes, hn1, hn2, ha1, ha2⟩ := hx
  simp only at hk hS hns hes
  subst hk
  have hal : al ≤ 9223372036854775807 := by unfold maxLen at ha2; omega
  have hnl : nl ≤ 9223372036854775807 := by unfold maxLen at hn2; omega
  clear hkr hnr hdf hn1 hn2 ha1 ha2
  unfold CountSays
  have hNL := Lib.hid hns.size
  have HC := Lib.hid (show countB 2 al S names = decide (al = 0) from rfl)
  clear hm hns hes
  by_cases h1 : al = 0
  · subst h1
    (go_enter Tryd.func35, Tryd.ntmps35; go_wp2_with fail)
    refine (args_is _ 2 0 rfl).mono ?_
    rintro e w1 ⟨rfl, rfl⟩
    go_wp2_with fail
    go_ret
    exact ⟨ret_bool (by rw [HC.out]; rfl), by (exact (Below.refl _ _).alloc (Nat.le_refl _) _)⟩
  · have h2 : (al : Int) ≠ 0 := by omega
    (go_enter Tryd.func35, Tryd.ntmps35; go_wp2_with fail)
    refine (args_is _ 2 0 rfl).mono ?_
    rintro e w1 ⟨rfl, rfl⟩
    go_wp2_with fail
    go_ret
    exact ⟨ret_bool (by rw [HC.out]; exact (decide_eq_false h1).symm), by (exact (Below.refl _ _).alloc (Nat.le_refl _) _)⟩

set_option maxHeartbeats 1000000 in
theorem counted_3 {w : World} {cs : List Value} {h : ExHead} {dk dn : Int} {ds : ByteArray} {dA : Option Addr} {dl dc : Nat} {An : Option Addr} {nl nc : Nat} {Aa : Option Addr} {al ac : Nat} (hx : ExC enc w cs h dk dn ds dA dl dc An nl nc Aa al ac) (hm : CMaps w) (hk : h.kind = 3) : CountSays w cs h al := by
  obtain ⟨k, df, S, N, names⟩ := h
  obtain ⟨rfl, hkr, hnr, hS, hdf, hns, hes, hn1, hn2, ha1, ha2⟩ := hx
  simp only at hk hS hns hes
  subst hk
  have hal : al ≤ 9223372036854775807 := by unfold maxLen at ha2; omega
  have hnl : nl ≤ 9223372036854775807 := by unfold maxLen at hn2; omega
  clear hkr hnr hdf hn1 hn2 ha1 ha2
  unfold CountSays
  have hNL := Lib.hid hns.size
  have HC := Lib.hid (show countB 3 al S names = decide (al = 0) from rfl)
  clear hm hns hes
  by_cases h1 : al = 0
  · subst h1
    (go_enter Tryd.func35, Tryd.ntmps35; go_wp2_with fail)
    refine (args_is _ 3 0 rfl).mono ?_
    rintro e w1 ⟨rfl, rfl⟩
    go_wp2_with fail
    go_ret
    exact ⟨ret_bool (by rw [HC.out]; rfl), by (exact (Below.refl _ _).alloc (Nat.le_refl _) _)⟩
  · have h2 : (al : Int) ≠ 0 := by omega
    (go_enter Tryd.func35, Tryd.ntmps35; go_wp2_with fail)
    refine (args_is _ 3 0 rfl).mono ?_
    rintro e w1 ⟨rfl, rfl⟩
    go_wp2_with fail
    go_ret
    exact ⟨ret_bool (by rw [HC.out]; exact (decide_eq_false h1).symm), by (exact (Below.refl _ _).alloc (Nat.le_refl _) _)⟩

set_option maxHeartbeats 1000000 in
theorem counted_15 {w : World} {cs : List Value} {h : ExHead} {dk dn : Int} {ds : ByteArray} {dA : Option Addr} {dl dc : Nat} {An : Option Addr} {nl nc : Nat} {Aa : Option Addr} {al ac : Nat} (hx : ExC enc w cs h dk dn ds dA dl dc An nl nc Aa al ac) (hm : CMaps w) (hk : h.kind = 15) : CountSays w cs h al := by
  obtain ⟨k, df, S, N, names⟩ := h
  obtain ⟨rfl, hkr, hnr, hS, hdf, hns, hes, hn1, hn2, ha1, ha2⟩ := hx
  simp only at hk hS hns hes
  subst hk
  have hal : al ≤ 9223372036854775807 := by unfold maxLen at ha2; omega
  have hnl : nl ≤ 9223372036854775807 := by unfold maxLen at hn2; omega
  clear hkr hnr hdf hn1 hn2 ha1 ha2
  unfold CountSays
  have hNL := Lib.hid hns.size
  have HC := Lib.hid (show countB 15 al S names = decide (al = 0) from rfl)
  clear hm hns hes
  by_cases h1 : al = 0
  · subst h1
    (go_enter Tryd.func35, Tryd.ntmps35; go_wp2_with fail)
    refine (args_is _ 15 0 rfl).mono ?_
    rintro e w1 ⟨rfl, rfl⟩
    go_wp2_with fail
    go_ret
    exact ⟨ret_bool (by rw [HC.out]; rfl), by (exact (Below.refl _ _).alloc (Nat.le_refl _) _)⟩
  · have h2 : (al : Int) ≠ 0 := by omega
    (go_enter Tryd.func35, Tryd.ntmps35; go_wp2_with fail)
    refine (args_is _ 15 0 rfl).mono ?_
    rintro e w1 ⟨rfl, rfl⟩
    go_wp2_with fail
    go_ret
    exact ⟨ret_bool (by rw [HC.out]; exact (decide_eq_false h1).symm), by (exact (Below.refl _ _).alloc (Nat.le_refl _) _)⟩

set_option maxHeartbeats 1000000 in
theorem counted_8 {w : World} {cs : List Value} {h : ExHead} {dk dn : Int} {ds : ByteArray} {dA : Option Addr} {dl dc : Nat} {An : Option Addr} {nl nc : Nat} {Aa : Option Addr} {al ac : Nat} (hx : ExC enc w cs h dk dn ds dA dl dc An nl nc Aa al ac) (hm : CMaps w) (hk : h.kind = 8) : CountSays w cs h al := by
  obtain ⟨k, df, S, N, names⟩ := h
  obtain ⟨rfl, hkr, hnr, hS, hdf, hns, hes, hn1, hn2, ha1, ha2⟩ := hx
  simp only at hk hS hns hes
  subst hk
  have hal : al ≤ 9223372036854775807 := by unfold maxLen at ha2; omega
  have hnl : nl ≤ 9223372036854775807 := by unfold maxLen at hn2; omega
  clear hkr hnr hdf hn1 hn2 ha1 ha2
  unfold CountSays
  have hNL := Lib.hid hns.size
  have HC := Lib.hid (show countB 8 al S names = decide (al = 1) from rfl)
  clear hm hns hes
  by_cases h1 : al = 1
  · subst h1
    (go_enter Tryd.func35, Tryd.ntmps35; go_wp2_with fail)
    refine (args_is _ 8 1 rfl).mono ?_
    rintro e w1 ⟨rfl, rfl⟩
    go_wp2_with fail
    go_ret
    exact ⟨ret_bool (by rw [HC.out]; rfl), by (exact (Below.refl _ _).alloc (Nat.le_refl _) _)⟩
  · have h2 : (al : Int) ≠ 1 := by omega
    (go_enter Tryd.func35, Tryd.ntmps35; go_wp2_with fail)
    refine (args_is _ 8 1 rfl).mono ?_
    rintro e w1 ⟨rfl, rfl⟩
    go_wp2_with fail
    go_ret
    exact ⟨ret_bool (by rw [HC.out]; exact (decide_eq_false h1).symm), by (exact (Below.refl _ _).alloc (Nat.le_refl _) _)⟩

set_option maxHeartbeats 1000000 in
theorem counted_12 {w : World} {cs : List Value} {h : ExHead} {dk dn : Int} {ds : ByteArray} {dA : Option Addr} {dl dc : Nat} {An : Option Addr} {nl nc : Nat} {Aa : Option Addr} {al ac : Nat} (hx : ExC enc w cs h dk dn ds dA dl dc An nl nc Aa al ac) (hm : CMaps w) (hk : h.kind = 12) : CountSays w cs h al := by
  obtain ⟨k, df, S, N, names⟩ := h
  obtain ⟨rfl, hkr, hnr, hS, hdf, hns, hes, hn1, hn2, ha1, ha2⟩ := hx
  simp only at hk hS hns hes
  subst hk
  have hal : al ≤ 9223372036854775807 := by unfold maxLen at ha2; omega
  have hnl : nl ≤ 9223372036854775807 := by unfold maxLen at hn2; omega
  clear hkr hnr hdf hn1 hn2 ha1 ha2
  unfold CountSays
  have hNL := Lib.hid hns.size
  have HC := Lib.hid (show countB 12 al S names = decide (al = 1) from rfl)
  clear hm hns hes
  by_cases h1 : al = 1
  · subst h1
    (go_enter Tryd.func35, Tryd.ntmps35; go_wp2_with fail)
    refine (args_is _ 12 1 rfl).mono ?_
    rintro e w1 ⟨rfl, rfl⟩
    go_wp2_with fail
    go_ret
    exact ⟨ret_bool (by rw [HC.out]; rfl), by (exact (Below.refl _ _).alloc (Nat.le_refl _) _)⟩
  · have h2 : (al : Int) ≠ 1 := by omega
    (go_enter Tryd.func35, Tryd.ntmps35; go_wp2_with fail)
    refine (args_is _ 12 1 rfl).mono ?_
    rintro e w1 ⟨rfl, rfl⟩
    go_wp2_with fail
    go_ret
    exact ⟨ret_bool (by rw [HC.out]; exact (decide_eq_false h1).symm), by (exact (Below.refl _ _).alloc (Nat.le_refl _) _)⟩

set_option maxHeartbeats 1000000 in
theorem counted_4 {w : World} {cs : List Value} {h : ExHead} {dk dn : Int} {ds : ByteArray} {dA : Option Addr} {dl dc : Nat} {An : Option Addr} {nl nc : Nat} {Aa : Option Addr} {al ac : Nat} (hx : ExC enc w cs h dk dn ds dA dl dc An nl nc Aa al ac) (hm : CMaps w) (hk : h.kind = 4) : CountSays w cs h al := by
  obtain ⟨k, df, S, N, names⟩ := h
  obtain ⟨rfl, hkr, hnr, hS, hdf, hns, hes, hn1, hn2, ha1, ha2⟩ := hx
  simp only at hk hS hns hes
  subst hk
  have hal : al ≤ 9223372036854775807 := by unfold maxLen at ha2; omega
  have hnl : nl ≤ 9223372036854775807 := by unfold maxLen at hn2; omega
  clear hkr hnr hdf hn1 hn2 ha1 ha2
  unfold CountSays
  have hNL := Lib.hid hns.size
  have HC := Lib.hid (show countB 4 al S names = decide (al = 3) from rfl)
  clear hm hns hes
  by_cases h1 : al = 3
  · subst h1
    (go_enter Tryd.func35, Tryd.ntmps35; go_wp2_with fail)
    refine (args_is _ 4 3 rfl).mono ?_
    rintro e w1 ⟨rfl, rfl⟩
    go_wp2_with fail
    go_ret
    exact ⟨ret_bool (by rw [HC.out]; rfl), by (exact (Below.refl _ _).alloc (Nat.le_refl _) _)⟩
  · have h2 : (al : Int) ≠ 3 := by omega
    (go_enter Tryd.func35, Tryd.ntmps35; go_wp2_with fail)
    refine (args_is _ 4 3 rfl).mono ?_
    rintro e w1 ⟨rfl, rfl⟩
    go_wp2_with fail
    go_ret
    exact ⟨ret_bool (by rw [HC.out]; exact (decide_eq_false h1).symm), by (exact (Below.refl _ _).alloc (Nat.le_refl _) _)⟩

set_option maxHeartbeats 1000000 in
theorem counted_5 {w : World} {cs : List Value} {h : ExHead} {dk dn : Int} {ds : ByteArray} {dA : Option Addr} {dl dc : Nat} {An : Option Addr} {nl nc : Nat} {Aa : Option Addr} {al ac : Nat} (hx : ExC enc w cs h dk dn ds dA dl dc An nl nc Aa al ac) (hm : CMaps w) (hk : h.kind = 5) : CountSays w cs h al := by
  obtain ⟨k, df, S, N, names⟩ := h
  obtain ⟨rfl, hkr, hnr, hS, hdf, hns, hes, hn1, hn2, ha1, ha2⟩ := hx
  simp only at hk hS hns hes
  subst hk
  have hal : al ≤ 9223372036854775807 := by unfold maxLen at ha2; omega
  have hnl : nl ≤ 9223372036854775807 := by unfold maxLen at hn2; omega
  clear hkr hnr hdf hn1 hn2 ha1 ha2
  unfold CountSays
  have hNL := Lib.hid hns.size
  have HC := Lib.hid (show countB 5 al S names = decide (al = names.length + 1 ∧ al ≤ 7) from rfl)
  rw [hNL.out] at HC
  clear hm hns hes hNL
  have hp : (0:Int) ≤ al := Int.natCast_nonneg _
  by_cases h0 : nl = 9223372036854775807
  · subst h0
    have h1 : (al : Int) ≠ wrap64 9223372036854775808 := by rw [show wrap64 9223372036854775808 = -9223372036854775808 from by unfold wrap64; omega]; omega
    (go_enter Tryd.func35, Tryd.ntmps35; go_wp2_with fail)
    refine (args_is _ 5 (-1) rfl).mono ?_
    rintro e w1 ⟨rfl, rfl⟩
    go_wp2_with fail
    go_ret
    exact ⟨ret_bool (by rw [HC.out]; (first | rfl | exact decide_eq_decide.2 (by omega) | (symm; apply decide_eq_true; omega) | (symm; apply decide_eq_false; omega) | (simp only [true_and]; first | exact decide_eq_decide.2 (by omega) | (symm; apply decide_eq_true; omega) | (symm; apply decide_eq_false; omega)))), by (exact (Below.refl _ _).alloc (Nat.le_refl _) _)⟩
  by_cases h1 : al = nl + 1
  · subst h1
    by_cases h2 : nl ≤ 6
    · have h3 : (nl : Int) ≤ 6 := by omega
      (go_enter Tryd.func35, Tryd.ntmps35; go_wp2_with fail)
      refine (args_is _ 5 (-1) rfl).mono ?_
      rintro e w1 ⟨rfl, rfl⟩
      go_wp2_with fail
      go_ret
      exact ⟨ret_bool (by rw [HC.out]; (first | rfl | exact decide_eq_decide.2 (by omega) | (symm; apply decide_eq_true; omega) | (symm; apply decide_eq_false; omega) | (simp only [true_and]; first | exact decide_eq_decide.2 (by omega) | (symm; apply decide_eq_true; omega) | (symm; apply decide_eq_false; omega)))), by (exact (Below.refl _ _).alloc (Nat.le_refl _) _)⟩
    · have h3 : ¬ (nl : Int) ≤ 6 := by omega
      (go_enter Tryd.func35, Tryd.ntmps35; go_wp2_with fail)
      refine (args_is _ 5 (-1) rfl).mono ?_
      rintro e w1 ⟨rfl, rfl⟩
      go_wp2_with fail
      go_ret
      exact ⟨ret_bool (by rw [HC.out]; (first | rfl | exact decide_eq_decide.2 (by omega) | (symm; apply decide_eq_true; omega) | (symm; apply decide_eq_false; omega) | (simp only [true_and]; first | exact decide_eq_decide.2 (by omega) | (symm; apply decide_eq_true; omega) | (symm; apply decide_eq_false; omega)))), by (exact (Below.refl _ _).alloc (Nat.le_refl _) _)⟩
  · have h3 : (al : Int) ≠ nl + 1 := by omega
    (go_enter Tryd.func35, Tryd.ntmps35; go_wp2_with fail)
    refine (args_is _ 5 (-1) rfl).mono ?_
    rintro e w1 ⟨rfl, rfl⟩
    go_wp2_with fail
    go_ret
    exact ⟨ret_bool (by rw [HC.out]; (first | rfl | exact decide_eq_decide.2 (by omega) | (symm; apply decide_eq_true; omega) | (symm; apply decide_eq_false; omega) | (simp only [true_and]; first | exact decide_eq_decide.2 (by omega) | (symm; apply decide_eq_true; omega) | (symm; apply decide_eq_false; omega)))), by (exact (Below.refl _ _).alloc (Nat.le_refl _) _)⟩

set_option maxHeartbeats 1000000 in
theorem counted_7 {w : World} {cs : List Value} {h : ExHead} {dk dn : Int} {ds : ByteArray} {dA : Option Addr} {dl dc : Nat} {An : Option Addr} {nl nc : Nat} {Aa : Option Addr} {al ac : Nat} (hx : ExC enc w cs h dk dn ds dA dl dc An nl nc Aa al ac) (hm : CMaps w) (hk : h.kind = 7) : CountSays w cs h al := by
  obtain ⟨k, df, S, N, names⟩ := h
  obtain ⟨rfl, hkr, hnr, hS, hdf, hns, hes, hn1, hn2, ha1, ha2⟩ := hx
  simp only at hk hS hns hes
  subst hk
  have hal : al ≤ 9223372036854775807 := by unfold maxLen at ha2; omega
  have hnl : nl ≤ 9223372036854775807 := by unfold maxLen at hn2; omega
  clear hkr hnr hdf hn1 hn2 ha1 ha2
  unfold CountSays
  have hNL := Lib.hid hns.size
  have HC := Lib.hid (show countB 7 al S names = decide (2 ≤ al) from rfl)
  clear hm hns hes hNL
  by_cases h1 : 2 ≤ al
  · have h3 : 2 ≤ (al : Int) := by omega
    (go_enter Tryd.func35, Tryd.ntmps35; go_wp2_with fail)
    refine (args_is _ 7 (-1) rfl).mono ?_
    rintro e w1 ⟨rfl, rfl⟩
    go_wp2_with fail
    go_ret
    exact ⟨ret_bool (by rw [HC.out]; (first | rfl | exact decide_eq_decide.2 (by omega) | (symm; apply decide_eq_true; omega) | (symm; apply decide_eq_false; omega) | (simp only [true_and]; first | exact decide_eq_decide.2 (by omega) | (symm; apply decide_eq_true; omega) | (symm; apply decide_eq_false; omega)))), by (exact (Below.refl _ _).alloc (Nat.le_refl _) _)⟩
  · have h3 : ¬ (2 ≤ (al : Int)) := by omega
    (go_enter Tryd.func35, Tryd.ntmps35; go_wp2_with fail)
    refine (args_is _ 7 (-1) rfl).mono ?_
    rintro e w1 ⟨rfl, rfl⟩
    go_wp2_with fail
    go_ret
    exact ⟨ret_bool (by rw [HC.out]; (first | rfl | exact decide_eq_decide.2 (by omega) | (symm; apply decide_eq_true; omega) | (symm; apply decide_eq_false; omega) | (simp only [true_and]; first | exact decide_eq_decide.2 (by omega) | (symm; apply decide_eq_true; omega) | (symm; apply decide_eq_false; omega)))), by (exact (Below.refl _ _).alloc (Nat.le_refl _) _)⟩

set_option maxHeartbeats 1000000 in
theorem counted_11 {w : World} {cs : List Value} {h : ExHead} {dk dn : Int} {ds : ByteArray} {dA : Option Addr} {dl dc : Nat} {An : Option Addr} {nl nc : Nat} {Aa : Option Addr} {al ac : Nat} (hx : ExC enc w cs h dk dn ds dA dl dc An nl nc Aa al ac) (hm : CMaps w) (hk : h.kind = 11) : CountSays w cs h al := by
  obtain ⟨k, df, S, N, names⟩ := h
  obtain ⟨rfl, hkr, hnr, hS, hdf, hns, hes, hn1, hn2, ha1, ha2⟩ := hx
  simp only at hk hS hns hes
  subst hk
  have hal : al ≤ 9223372036854775807 := by unfold maxLen at ha2; omega
  have hnl : nl ≤ 9223372036854775807 := by unfold maxLen at hn2; omega
  clear hkr hnr hdf hn1 hn2 ha1 ha2
  unfold CountSays
  have hNL := Lib.hid hns.size
  have HC := Lib.hid (show countB 11 al S names = decide (al ≤ 6) from rfl)
  clear hm hns hes hNL
  by_cases h1 : al ≤ 6
  · have h3 : (al : Int) ≤ 6 := by omega
    (go_enter Tryd.func35, Tryd.ntmps35; go_wp2_with fail)
    refine (args_is _ 11 (-1) rfl).mono ?_
    rintro e w1 ⟨rfl, rfl⟩
    go_wp2_with fail
    go_ret
    exact ⟨ret_bool (by rw [HC.out]; (first | rfl | exact decide_eq_decide.2 (by omega) | (symm; apply decide_eq_true; omega) | (symm; apply decide_eq_false; omega) | (simp only [true_and]; first | exact decide_eq_decide.2 (by omega) | (symm; apply decide_eq_true; omega) | (symm; apply decide_eq_false; omega)))), by (exact (Below.refl _ _).alloc (Nat.le_refl _) _)⟩
  · have h3 : ¬ ((al : Int) ≤ 6) := by omega
    (go_enter Tryd.func35, Tryd.ntmps35; go_wp2_with fail)
    refine (args_is _ 11 (-1) rfl).mono ?_
    rintro e w1 ⟨rfl, rfl⟩
    go_wp2_with fail
    go_ret
    exact ⟨ret_bool (by rw [HC.out]; (first | rfl | exact decide_eq_decide.2 (by omega) | (symm; apply decide_eq_true; omega) | (symm; apply decide_eq_false; omega) | (simp only [true_and]; first | exact decide_eq_decide.2 (by omega) | (symm; apply decide_eq_true; omega) | (symm; apply decide_eq_false; omega)))), by (exact (Below.refl _ _).alloc (Nat.le_refl _) _)⟩

set_option maxHeartbeats 1000000 in
theorem counted_6 {w : World} {cs : List Value} {h : ExHead} {dk dn : Int} {ds : ByteArray} {dA : Option Addr} {dl dc : Nat} {An : Option Addr} {nl nc : Nat} {Aa : Option Addr} {al ac : Nat} (hx : ExC enc w cs h dk dn ds dA dl dc An nl nc Aa al ac) (hm : CMaps w) (hk : h.kind = 6) : CountSays w cs h al := by
  obtain ⟨k, df, S, N, names⟩ := h
  obtain ⟨rfl, hkr, hnr, hS, hdf, hns, hes, hn1, hn2, ha1, ha2⟩ := hx
  simp only at hk hS hns hes
  subst hk
  have hal : al ≤ 9223372036854775807 := by unfold maxLen at ha2; omega
  have hnl : nl ≤ 9223372036854775807 := by unfold maxLen at hn2; omega
  clear hkr hnr hdf hn1 hn2 ha1 ha2
  unfold CountSays
  have hNL := Lib.hid hns.size
  have HC := Lib.hid (show countB 6 al S names = decide (al = 1 ∧ names.length ≤ 6) from rfl)
  rw [hNL.out] at HC
  clear hm hns hes hNL
  by_cases h1 : al = 1
  · subst h1
    by_cases h2 : nl ≤ 6
    · have h3 : (nl : Int) ≤ 6 := by omega
      (go_enter Tryd.func35, Tryd.ntmps35; go_wp2_with fail)
      refine (args_is _ 6 (1) rfl).mono ?_
      rintro e w1 ⟨rfl, rfl⟩
      go_wp2_with fail
      go_ret
      exact ⟨ret_bool (by rw [HC.out]; (first | rfl | exact decide_eq_decide.2 (by omega) | (symm; apply decide_eq_true; omega) | (symm; apply decide_eq_false; omega) | (simp only [true_and]; first | exact decide_eq_decide.2 (by omega) | (symm; apply decide_eq_true; omega) | (symm; apply decide_eq_false; omega)))), by (exact (Below.refl _ _).alloc (Nat.le_refl _) _)⟩
    · have h3 : ¬ (nl : Int) ≤ 6 := by omega
      (go_enter Tryd.func35, Tryd.ntmps35; go_wp2_with fail)
      refine (args_is _ 6 (1) rfl).mono ?_
      rintro e w1 ⟨rfl, rfl⟩
      go_wp2_with fail
      go_ret
      exact ⟨ret_bool (by rw [HC.out]; (first | rfl | exact decide_eq_decide.2 (by omega) | (symm; apply decide_eq_true; omega) | (symm; apply decide_eq_false; omega) | (simp only [true_and]; first | exact decide_eq_decide.2 (by omega) | (symm; apply decide_eq_true; omega) | (symm; apply decide_eq_false; omega)))), by (exact (Below.refl _ _).alloc (Nat.le_refl _) _)⟩
  · have h3 : (al : Int) ≠ 1 := by omega
    (go_enter Tryd.func35, Tryd.ntmps35; go_wp2_with fail)
    refine (args_is _ 6 (1) rfl).mono ?_
    rintro e w1 ⟨rfl, rfl⟩
    go_wp2_with fail
    go_ret
    exact ⟨ret_bool (by rw [HC.out]; (first | rfl | exact decide_eq_decide.2 (by omega) | (symm; apply decide_eq_true; omega) | (symm; apply decide_eq_false; omega) | (simp only [true_and]; first | exact decide_eq_decide.2 (by omega) | (symm; apply decide_eq_true; omega) | (symm; apply decide_eq_false; omega)))), by (exact (Below.refl _ _).alloc (Nat.le_refl _) _)⟩

set_option maxHeartbeats 1000000 in
theorem counted_9 {w : World} {cs : List Value} {h : ExHead} {dk dn : Int} {ds : ByteArray} {dA : Option Addr} {dl dc : Nat} {An : Option Addr} {nl nc : Nat} {Aa : Option Addr} {al ac : Nat} (hx : ExC enc w cs h dk dn ds dA dl dc An nl nc Aa al ac) (hm : CMaps w) (hk : h.kind = 9) : CountSays w cs h al := by
  obtain ⟨k, df, S, N, names⟩ := h
  obtain ⟨rfl, hkr, hnr, hS, hdf, hns, hes, hn1, hn2, ha1, ha2⟩ := hx
  simp only at hk hS hns hes
  subst hk
  have hal : al ≤ 9223372036854775807 := by unfold maxLen at ha2; omega
  have hnl : nl ≤ 9223372036854775807 := by unfold maxLen at hn2; omega
  clear hkr hnr hdf hn1 hn2 ha1 ha2
  unfold CountSays
  have hNL := Lib.hid hns.size
  have HC := Lib.hid (show countB 9 al S names = decide (1 ≤ al ∧ al ≤ 7) from rfl)
  clear hm hns hes hNL
  by_cases h1 : 1 ≤ al
  · have h4 : (1 : Int) ≤ al := by omega
    by_cases h2 : al ≤ 7
    · have h3 : (al : Int) ≤ 7 := by omega
      (go_enter Tryd.func35, Tryd.ntmps35; go_wp2_with fail)
      refine (args_is _ 9 (-1) rfl).mono ?_
      rintro e w1 ⟨rfl, rfl⟩
      go_wp2_with fail
      go_ret
      exact ⟨ret_bool (by rw [HC.out]; (first | rfl | exact decide_eq_decide.2 (by omega) | (symm; apply decide_eq_true; omega) | (symm; apply decide_eq_false; omega) | (simp only [true_and]; first | exact decide_eq_decide.2 (by omega) | (symm; apply decide_eq_true; omega) | (symm; apply decide_eq_false; omega)))), by (exact (Below.refl _ _).alloc (Nat.le_refl _) _)⟩
    · have h3 : ¬ (al : Int) ≤ 7 := by omega
      (go_enter Tryd.func35, Tryd.ntmps35; go_wp2_with fail)
      refine (args_is _ 9 (-1) rfl).mono ?_
      rintro e w1 ⟨rfl, rfl⟩
      go_wp2_with fail
      go_ret
      exact ⟨ret_bool (by rw [HC.out]; (first | rfl | exact decide_eq_decide.2 (by omega) | (symm; apply decide_eq_true; omega) | (symm; apply decide_eq_false; omega) | (simp only [true_and]; first | exact decide_eq_decide.2 (by omega) | (symm; apply decide_eq_true; omega) | (symm; apply decide_eq_false; omega)))), by (exact (Below.refl _ _).alloc (Nat.le_refl _) _)⟩
  · have h3 : ¬ (1 : Int) ≤ al := by omega
    (go_enter Tryd.func35, Tryd.ntmps35; go_wp2_with fail)
    refine (args_is _ 9 (-1) rfl).mono ?_
    rintro e w1 ⟨rfl, rfl⟩
    go_wp2_with fail
    go_ret
    exact ⟨ret_bool (by rw [HC.out]; (first | rfl | exact decide_eq_decide.2 (by omega) | (symm; apply decide_eq_true; omega) | (symm; apply decide_eq_false; omega) | (simp only [true_and]; first | exact decide_eq_decide.2 (by omega) | (symm; apply decide_eq_true; omega) | (symm; apply decide_eq_false; omega)))), by (exact (Below.refl _ _).alloc (Nat.le_refl _) _)⟩

set_option maxHeartbeats 1000000 in
theorem counted_10 {w : World} {cs : List Value} {h : ExHead} {dk dn : Int} {ds : ByteArray} {dA : Option Addr} {dl dc : Nat} {An : Option Addr} {nl nc : Nat} {Aa : Option Addr} {al ac : Nat} (hx : ExC enc w cs h dk dn ds dA dl dc An nl nc Aa al ac) (hm : CMaps w) (hk : h.kind = 10) : CountSays w cs h al := by
  obtain ⟨k, df, S, N, names⟩ := h
  obtain ⟨rfl, hkr, hnr, hS, hdf, hns, hes, hn1, hn2, ha1, ha2⟩ := hx
  simp only at hk hS hns hes
  subst hk
  have hal : al ≤ 9223372036854775807 := by unfold maxLen at ha2; omega
  have hnl : nl ≤ 9223372036854775807 := by unfold maxLen at hn2; omega
  clear hkr hnr hdf hn1 hn2 ha1 ha2
  unfold CountSays
  have hNL := Lib.hid hns.size
  have HC := Lib.hid (show countB 10 al S names = decide (primN S.toList = al) from rfl)
  obtain ⟨bm, hc, hbm, hg, hl⟩ := hm.ar
  have hk := hl (w.alloc (.cells #[.int .i64 10, .int .i64 dk, .int .i64 dn, .string ds, .slice dA dl dc, .string S, .int .i64 N, .slice An nl nc, .slice Aa al ac] 38)) (Below.heap_alloc _ _ _ hbm) S hS
  clear hl hm hns hes hNL
  have hp : primN S.toList = 2 ∨ primN S.toList = 1 ∨ primN S.toList = -1 := by
    unfold primN; split
    · exact Or.inl rfl
    · split
      · exact Or.inr (Or.inl rfl)
      · exact Or.inr (Or.inr rfl)
  rcases hp with hp | hp | hp
  · rw [hp] at HC hk
    by_cases h1 : al = 2
    · subst h1
      (go_enter Tryd.func35, Tryd.ntmps35; go_wp2_with fail)
      refine (args_is _ 10 (-1) rfl).mono ?_
      rintro e w1 ⟨rfl, rfl⟩
      go_wp2_with fail
      go_ret
      exact ⟨ret_bool (by rw [HC.out]; (first | rfl | exact decide_eq_decide.2 (by omega) | (symm; apply decide_eq_true; omega) | (symm; apply decide_eq_false; omega) | (simp only [true_and]; first | exact decide_eq_decide.2 (by omega) | (symm; apply decide_eq_true; omega) | (symm; apply decide_eq_false; omega)))), by (exact (Below.refl _ _).alloc (Nat.le_refl _) _)⟩
    · have h3 : (2 : Int) ≠ al := by omega
      (go_enter Tryd.func35, Tryd.ntmps35; go_wp2_with fail)
      refine (args_is _ 10 (-1) rfl).mono ?_
      rintro e w1 ⟨rfl, rfl⟩
      go_wp2_with fail
      go_ret
      exact ⟨ret_bool (by rw [HC.out]; (first | rfl | exact decide_eq_decide.2 (by omega) | (symm; apply decide_eq_true; omega) | (symm; apply decide_eq_false; omega) | (simp only [true_and]; first | exact decide_eq_decide.2 (by omega) | (symm; apply decide_eq_true; omega) | (symm; apply decide_eq_false; omega)))), by (exact (Below.refl _ _).alloc (Nat.le_refl _) _)⟩
  · rw [hp] at HC hk
    by_cases h1 : al = 1
    · subst h1
      (go_enter Tryd.func35, Tryd.ntmps35; go_wp2_with fail)
      refine (args_is _ 10 (-1) rfl).mono ?_
      rintro e w1 ⟨rfl, rfl⟩
      go_wp2_with fail
      go_ret
      exact ⟨ret_bool (by rw [HC.out]; (first | rfl | exact decide_eq_decide.2 (by omega) | (symm; apply decide_eq_true; omega) | (symm; apply decide_eq_false; omega) | (simp only [true_and]; first | exact decide_eq_decide.2 (by omega) | (symm; apply decide_eq_true; omega) | (symm; apply decide_eq_false; omega)))), by (exact (Below.refl _ _).alloc (Nat.le_refl _) _)⟩
    · have h3 : (1 : Int) ≠ al := by omega
      (go_enter Tryd.func35, Tryd.ntmps35; go_wp2_with fail)
      refine (args_is _ 10 (-1) rfl).mono ?_
      rintro e w1 ⟨rfl, rfl⟩
      go_wp2_with fail
      go_ret
      exact ⟨ret_bool (by rw [HC.out]; (first | rfl | exact decide_eq_decide.2 (by omega) | (symm; apply decide_eq_true; omega) | (symm; apply decide_eq_false; omega) | (simp only [true_and]; first | exact decide_eq_decide.2 (by omega) | (symm; apply decide_eq_true; omega) | (symm; apply decide_eq_false; omega)))), by (exact (Below.refl _ _).alloc (Nat.le_refl _) _)⟩
  · rw [hp] at HC hk
    (go_enter Tryd.func35, Tryd.ntmps35; go_wp2_with fail)
    refine (args_is _ 10 (-1) rfl).mono ?_
    rintro e w1 ⟨rfl, rfl⟩
    go_wp2_with fail
    go_ret
    exact ⟨ret_bool (by rw [HC.out]; (first | rfl | exact decide_eq_decide.2 (by omega) | (symm; apply decide_eq_true; omega) | (symm; apply decide_eq_false; omega) | (simp only [true_and]; first | exact decide_eq_decide.2 (by omega) | (symm; apply decide_eq_true; omega) | (symm; apply decide_eq_false; omega)))), by (exact (Below.refl _ _).alloc (Nat.le_refl _) _)⟩

set_option maxHeartbeats 1000000 in
theorem counted_13 {w : World} {cs : List Value} {h : ExHead} {dk dn : Int} {ds : ByteArray} {dA : Option Addr} {dl dc : Nat} {An : Option Addr} {nl nc : Nat} {Aa : Option Addr} {al ac : Nat} (hx : ExC enc w cs h dk dn ds dA dl dc An nl nc Aa al ac) (hm : CMaps w) (hk : h.kind = 13) : CountSays w cs h al := by
  obtain ⟨k, df, S, N, names⟩ := h
  obtain ⟨rfl, hkr, hnr, hS, hdf, hns, hes, hn1, hn2, ha1, ha2⟩ := hx
  simp only at hk hS hns hes
  subst hk
  have hal : al ≤ 9223372036854775807 := by unfold maxLen at ha2; omega
  have hnl : nl ≤ 9223372036854775807 := by unfold maxLen at hn2; omega
  clear hkr hnr hdf hn1 hn2 ha1 ha2
  unfold CountSays
  have hNL := Lib.hid hns.size
  have HC := Lib.hid (show countB 13 al S names = (decide (al = 1 ∧ names.length = 1) && nameB (names.getD 0 ByteArray.empty).data.toList) from rfl)
  rw [hNL.out] at HC
  by_cases h1 : al = 1
  · subst h1
    by_cases h2 : nl = 1
    · subst h2
      obtain ⟨b, o, rfl, hb, hat⟩ := hns.at_ (by omega)
      match names, hNL.out with
      | [s], _ =>
        have hc := hat 0 (by simp)
        simp only [Nat.add_zero, List.getElem_cons_zero] at hc
        have hs := hes s (by simp)
        clear hm hns hes hNL hat
        (go_enter Tryd.func35, Tryd.ntmps35; go_wp2_with fail)
        refine (args_is _ 13 1 rfl).mono ?_
        rintro e w1 ⟨rfl, rfl⟩
        go_wp2_with fail
        refine (symbol_code s hs _).mono ?_
        rintro e w1 ⟨rfl, hb1⟩
        have HB1 := Lib.hid hb1
        clear hb1
        go_wp2_with fail
        go_ret
        exact ⟨ret_bool (by rw [HC.out]; simp), ((Below.refl _ _).alloc (Nat.le_refl _) _).trans (HB1.out.mono (by simp))⟩
    · have h3 : (nl : Int) ≠ 1 := by omega
      clear hm hns hes hNL
      (go_enter Tryd.func35, Tryd.ntmps35; go_wp2_with fail)
      refine (args_is _ 13 1 rfl).mono ?_
      rintro e w1 ⟨rfl, rfl⟩
      go_wp2_with fail
      go_ret
      exact ⟨ret_bool (by rw [HC.out]; simp [h2]), by (exact (Below.refl _ _).alloc (Nat.le_refl _) _)⟩
  · have h3 : (al : Int) ≠ 1 := by omega
    clear hm hns hes hNL
    (go_enter Tryd.func35, Tryd.ntmps35; go_wp2_with fail)
    refine (args_is _ 13 1 rfl).mono ?_
    rintro e w1 ⟨rfl, rfl⟩
    go_wp2_with fail
    go_ret
    exact ⟨ret_bool (by rw [HC.out]; simp [h1]), by (exact (Below.refl _ _).alloc (Nat.le_refl _) _)⟩

set_option maxHeartbeats 1000000 in
theorem counted_14 {w : World} {cs : List Value} {h : ExHead} {dk dn : Int} {ds : ByteArray} {dA : Option Addr} {dl dc : Nat} {An : Option Addr} {nl nc : Nat} {Aa : Option Addr} {al ac : Nat} (hx : ExC enc w cs h dk dn ds dA dl dc An nl nc Aa al ac) (hm : CMaps w) (hk : h.kind = 14) : CountSays w cs h al := by
  obtain ⟨k, df, S, N, names⟩ := h
  obtain ⟨rfl, hkr, hnr, hS, hdf, hns, hes, hn1, hn2, ha1, ha2⟩ := hx
  simp only at hk hS hns hes
  subst hk
  have hal : al ≤ 9223372036854775807 := by unfold maxLen at ha2; omega
  have hnl : nl ≤ 9223372036854775807 := by unfold maxLen at hn2; omega
  clear hkr hnr hdf hn1 hn2 ha1 ha2
  unfold CountSays
  have hNL := Lib.hid hns.size
  have HC := Lib.hid (show countB 14 al S names = (decide (al = 2 ∧ names.length = 1) && nameB (names.getD 0 ByteArray.empty).data.toList) from rfl)
  rw [hNL.out] at HC
  by_cases h1 : al = 2
  · subst h1
    by_cases h2 : nl = 1
    · subst h2
      obtain ⟨b, o, rfl, hb, hat⟩ := hns.at_ (by omega)
      match names, hNL.out with
      | [s], _ =>
        have hc := hat 0 (by simp)
        simp only [Nat.add_zero, List.getElem_cons_zero] at hc
        have hs := hes s (by simp)
        clear hm hns hes hNL hat
        (go_enter Tryd.func35, Tryd.ntmps35; go_wp2_with fail)
        refine (args_is _ 14 2 rfl).mono ?_
        rintro e w1 ⟨rfl, rfl⟩
        go_wp2_with fail
        refine (symbol_code s hs _).mono ?_
        rintro e w1 ⟨rfl, hb1⟩
        have HB1 := Lib.hid hb1
        clear hb1
        go_wp2_with fail
        go_ret
        exact ⟨ret_bool (by rw [HC.out]; simp), ((Below.refl _ _).alloc (Nat.le_refl _) _).trans (HB1.out.mono (by simp))⟩
    · have h3 : (nl : Int) ≠ 1 := by omega
      clear hm hns hes hNL
      (go_enter Tryd.func35, Tryd.ntmps35; go_wp2_with fail)
      refine (args_is _ 14 2 rfl).mono ?_
      rintro e w1 ⟨rfl, rfl⟩
      go_wp2_with fail
      go_ret
      exact ⟨ret_bool (by rw [HC.out]; simp [h2]), by (exact (Below.refl _ _).alloc (Nat.le_refl _) _)⟩
  · have h3 : (al : Int) ≠ 2 := by omega
    clear hm hns hes hNL
    (go_enter Tryd.func35, Tryd.ntmps35; go_wp2_with fail)
    refine (args_is _ 14 2 rfl).mono ?_
    rintro e w1 ⟨rfl, rfl⟩
    go_wp2_with fail
    go_ret
    exact ⟨ret_bool (by rw [HC.out]; simp [h1]), by (exact (Below.refl _ _).alloc (Nat.le_refl _) _)⟩

theorem counted_any {w : World} {cs : List Value} {h : ExHead} {dk dn : Int} {ds : ByteArray} {dA : Option Addr} {dl dc : Nat} {An : Option Addr} {nl nc : Nat} {Aa : Option Addr} {al ac : Nat} (hx : ExC enc w cs h dk dn ds dA dl dc An nl nc Aa al ac) (hm : CMaps w) (hk : ¬ (h.kind < 1 ∨ 15 < h.kind)) : CountSays w cs h al := by
  rcases kinds hk with hk | hk | hk | hk | hk | hk | hk | hk | hk | hk | hk | hk | hk | hk | hk
  · exact counted_1 hx hm hk
  · exact counted_2 hx hm hk
  · exact counted_3 hx hm hk
  · exact counted_4 hx hm hk
  · exact counted_5 hx hm hk
  · exact counted_6 hx hm hk
  · exact counted_7 hx hm hk
  · exact counted_8 hx hm hk
  · exact counted_9 hx hm hk
  · exact counted_10 hx hm hk
  · exact counted_11 hx hm hk
  · exact counted_12 hx hm hk
  · exact counted_13 hx hm hk
  · exact counted_14 hx hm hk
  · exact counted_15 hx hm hk

end
end Go.Proofs.YtlgnaopaeapbfaaDoor

