import Derived.Test.YtfhbdlobhjegcaaGreatDoorGShape
import Derived.Deep.LoopGhost
import Derived.Test.YtfhbdlobhjegcaaGreatDoorShelf
namespace Go.Proofs.YtfhbdlobhjegcaaGreatDoor
open Go.RowKit Go.ChangeShapes Go.WideShapes Go.Deep Go.ChangeAt
set_option linter.unusedVariables false
set_option maxRecDepth 20000
structure CMaps (w : World) : Prop where
 um : UMaps w
 ar : ArAt 0 w
theorem CMaps.below {w w' : World} (h : CMaps w) (hb : Below w.heap.size w w') : CMaps w' := ⟨h.um.below hb, h.ar.below hb⟩
def countB (k : Int) (n : Nat) (S : ByteArray) (names : List ByteArray) : Bool :=
 if k = 1 \/ k = 2 \/ k = 3 \/ k = 15 then decide (n = 0) else if k = 8 \/ k = 12 then decide (n = 1) else if k = 4 then decide (n = 3)
 else if k = 5 then decide (n = names.length + 1 /\ n <= 7) else if k = 6 then decide (n = 1 /\ names.length <= 6) else if k = 7 then decide (2 <= n)
 else if k = 9 then decide (1 <= n /\ n <= 7) else if k = 10 then decide (primN S.toList = n) else if k = 11 then decide (n <= 6)
 else if k = 13 then decide (n = 1 /\ names.length = 1) && nameB (names.getD 0 ByteArray.empty).data.toList
 else if k = 14 then decide (n = 2 /\ names.length = 1) && nameB (names.getD 0 ByteArray.empty).data.toList
 else true
section
variable {H : Type} {enc : TypeId × Value -> H}
def CountSays (w : World) (cs : List Value) (h : ExHead) (al : Nat) : Prop :=
 Calls Tryz.prog 60 #[.agg cs.toArray] w fun e w' => e = .returned (.bool (countB h.kind al h.S h.names)) /\ Below w.heap.size w w'
set_option maxHeartbeats 1000000 in
theorem counted_1 {w : World} {cs : List Value} {h : ExHead} {dk dn : Int} {ds : ByteArray} {dA : Option Addr} {dl dc : Nat} {An : Option Addr} {nl nc : Nat} {Aa : Option Addr} {al ac : Nat} (hx : ExC enc w cs h dk dn ds dA dl dc An nl nc Aa al ac) (hm : CMaps w) (hk : h.kind = 1) : CountSays w cs h al := by
 obtain ⟨k, df, S, N, names⟩ := h
 obtain ⟨rfl, hkr, hnr, hS, hdf, hns, hes, hn1, hn2, ha1, ha2⟩ := hx
 simp only at hk hS hns hes
 subst hk
 have hal : al <= 9223372036854775807 := by unfold maxLen at ha2; omega
 have hnl : nl <= 9223372036854775807 := by unfold maxLen at hn2; omega
 clear hkr hnr hdf hn1 hn2 ha1 ha2
 unfold CountSays
 have hNL := Lib.hid hns.size
 have HC := Lib.hid (show countB 1 al S names = decide (al = 0) from rfl)
 clear hm hns hes
 by_cases h1 : al = 0
 ·
  subst h1
  (go_enter Tryz.func60, Tryz.ntmps60; go_wp2_with fail)
  refine (args_is _ 1 0 rfl).mono ?_
  rintro e w1 ⟨rfl, rfl⟩
  go_wp2_with fail
  go_ret
  exact ⟨zj (by rw [HC.out]; rfl), by (exact (Below.refl _ _).alloc (Nat.le_refl _) _)⟩
 have h2 : (al : Int) ≠ 0 := by omega
 (go_enter Tryz.func60, Tryz.ntmps60; go_wp2_with fail)
 refine (args_is _ 1 0 rfl).mono ?_
 rintro e w1 ⟨rfl, rfl⟩
 go_wp2_with fail
 go_ret
 exact ⟨zj (by rw [HC.out]; exact (decide_eq_false h1).symm), by (exact (Below.refl _ _).alloc (Nat.le_refl _) _)⟩
set_option maxHeartbeats 1000000 in
theorem counted_2 {w : World} {cs : List Value} {h : ExHead} {dk dn : Int} {ds : ByteArray} {dA : Option Addr} {dl dc : Nat} {An : Option Addr} {nl nc : Nat} {Aa : Option Addr} {al ac : Nat} (hx : ExC enc w cs h dk dn ds dA dl dc An nl nc Aa al ac) (hm : CMaps w) (hk : h.kind = 2) : CountSays w cs h al := by
 obtain ⟨k, df, S, N, names⟩ := h
 obtain ⟨rfl, hkr, hnr, hS, hdf, hns, hes, hn1, hn2, ha1, ha2⟩ := hx
 simp only at hk hS hns hes
 subst hk
 have hal : al <= 9223372036854775807 := by unfold maxLen at ha2; omega
 have hnl : nl <= 9223372036854775807 := by unfold maxLen at hn2; omega
 clear hkr hnr hdf hn1 hn2 ha1 ha2
 unfold CountSays
 have hNL := Lib.hid hns.size
 have HC := Lib.hid (show countB 2 al S names = decide (al = 0) from rfl)
 clear hm hns hes
 by_cases h1 : al = 0
 ·
  subst h1
  (go_enter Tryz.func60, Tryz.ntmps60; go_wp2_with fail)
  refine (args_is _ 2 0 rfl).mono ?_
  rintro e w1 ⟨rfl, rfl⟩
  go_wp2_with fail
  go_ret
  exact ⟨zj (by rw [HC.out]; rfl), by (exact (Below.refl _ _).alloc (Nat.le_refl _) _)⟩
 have h2 : (al : Int) ≠ 0 := by omega
 (go_enter Tryz.func60, Tryz.ntmps60; go_wp2_with fail)
 refine (args_is _ 2 0 rfl).mono ?_
 rintro e w1 ⟨rfl, rfl⟩
 go_wp2_with fail
 go_ret
 exact ⟨zj (by rw [HC.out]; exact (decide_eq_false h1).symm), by (exact (Below.refl _ _).alloc (Nat.le_refl _) _)⟩
set_option maxHeartbeats 1000000 in
theorem counted_3 {w : World} {cs : List Value} {h : ExHead} {dk dn : Int} {ds : ByteArray} {dA : Option Addr} {dl dc : Nat} {An : Option Addr} {nl nc : Nat} {Aa : Option Addr} {al ac : Nat} (hx : ExC enc w cs h dk dn ds dA dl dc An nl nc Aa al ac) (hm : CMaps w) (hk : h.kind = 3) : CountSays w cs h al := by
 obtain ⟨k, df, S, N, names⟩ := h
 obtain ⟨rfl, hkr, hnr, hS, hdf, hns, hes, hn1, hn2, ha1, ha2⟩ := hx
 simp only at hk hS hns hes
 subst hk
 have hal : al <= 9223372036854775807 := by unfold maxLen at ha2; omega
 have hnl : nl <= 9223372036854775807 := by unfold maxLen at hn2; omega
 clear hkr hnr hdf hn1 hn2 ha1 ha2
 unfold CountSays
 have hNL := Lib.hid hns.size
 have HC := Lib.hid (show countB 3 al S names = decide (al = 0) from rfl)
 clear hm hns hes
 by_cases h1 : al = 0
 ·
  subst h1
  (go_enter Tryz.func60, Tryz.ntmps60; go_wp2_with fail)
  refine (args_is _ 3 0 rfl).mono ?_
  rintro e w1 ⟨rfl, rfl⟩
  go_wp2_with fail
  go_ret
  exact ⟨zj (by rw [HC.out]; rfl), by (exact (Below.refl _ _).alloc (Nat.le_refl _) _)⟩
 have h2 : (al : Int) ≠ 0 := by omega
 (go_enter Tryz.func60, Tryz.ntmps60; go_wp2_with fail)
 refine (args_is _ 3 0 rfl).mono ?_
 rintro e w1 ⟨rfl, rfl⟩
 go_wp2_with fail
 go_ret
 exact ⟨zj (by rw [HC.out]; exact (decide_eq_false h1).symm), by (exact (Below.refl _ _).alloc (Nat.le_refl _) _)⟩
set_option maxHeartbeats 1000000 in
theorem counted_15 {w : World} {cs : List Value} {h : ExHead} {dk dn : Int} {ds : ByteArray} {dA : Option Addr} {dl dc : Nat} {An : Option Addr} {nl nc : Nat} {Aa : Option Addr} {al ac : Nat} (hx : ExC enc w cs h dk dn ds dA dl dc An nl nc Aa al ac) (hm : CMaps w) (hk : h.kind = 15) : CountSays w cs h al := by
 obtain ⟨k, df, S, N, names⟩ := h
 obtain ⟨rfl, hkr, hnr, hS, hdf, hns, hes, hn1, hn2, ha1, ha2⟩ := hx
 simp only at hk hS hns hes
 subst hk
 have hal : al <= 9223372036854775807 := by unfold maxLen at ha2; omega
 have hnl : nl <= 9223372036854775807 := by unfold maxLen at hn2; omega
 clear hkr hnr hdf hn1 hn2 ha1 ha2
 unfold CountSays
 have hNL := Lib.hid hns.size
 have HC := Lib.hid (show countB 15 al S names = decide (al = 0) from rfl)
 clear hm hns hes
 by_cases h1 : al = 0
 ·
  subst h1
  (go_enter Tryz.func60, Tryz.ntmps60; go_wp2_with fail)
  refine (args_is _ 15 0 rfl).mono ?_
  rintro e w1 ⟨rfl, rfl⟩
  go_wp2_with fail
  go_ret
  exact ⟨zj (by rw [HC.out]; rfl), by (exact (Below.refl _ _).alloc (Nat.le_refl _) _)⟩
 have h2 : (al : Int) ≠ 0 := by omega
 (go_enter Tryz.func60, Tryz.ntmps60; go_wp2_with fail)
 refine (args_is _ 15 0 rfl).mono ?_
 rintro e w1 ⟨rfl, rfl⟩
 go_wp2_with fail
 go_ret
 exact ⟨zj (by rw [HC.out]; exact (decide_eq_false h1).symm), by (exact (Below.refl _ _).alloc (Nat.le_refl _) _)⟩
set_option maxHeartbeats 1000000 in
theorem counted_8 {w : World} {cs : List Value} {h : ExHead} {dk dn : Int} {ds : ByteArray} {dA : Option Addr} {dl dc : Nat} {An : Option Addr} {nl nc : Nat} {Aa : Option Addr} {al ac : Nat} (hx : ExC enc w cs h dk dn ds dA dl dc An nl nc Aa al ac) (hm : CMaps w) (hk : h.kind = 8) : CountSays w cs h al := by
 obtain ⟨k, df, S, N, names⟩ := h
 obtain ⟨rfl, hkr, hnr, hS, hdf, hns, hes, hn1, hn2, ha1, ha2⟩ := hx
 simp only at hk hS hns hes
 subst hk
 have hal : al <= 9223372036854775807 := by unfold maxLen at ha2; omega
 have hnl : nl <= 9223372036854775807 := by unfold maxLen at hn2; omega
 clear hkr hnr hdf hn1 hn2 ha1 ha2
 unfold CountSays
 have hNL := Lib.hid hns.size
 have HC := Lib.hid (show countB 8 al S names = decide (al = 1) from rfl)
 clear hm hns hes
 by_cases h1 : al = 1
 ·
  subst h1
  (go_enter Tryz.func60, Tryz.ntmps60; go_wp2_with fail)
  refine (args_is _ 8 1 rfl).mono ?_
  rintro e w1 ⟨rfl, rfl⟩
  go_wp2_with fail
  go_ret
  exact ⟨zj (by rw [HC.out]; rfl), by (exact (Below.refl _ _).alloc (Nat.le_refl _) _)⟩
 have h2 : (al : Int) ≠ 1 := by omega
 (go_enter Tryz.func60, Tryz.ntmps60; go_wp2_with fail)
 refine (args_is _ 8 1 rfl).mono ?_
 rintro e w1 ⟨rfl, rfl⟩
 go_wp2_with fail
 go_ret
 exact ⟨zj (by rw [HC.out]; exact (decide_eq_false h1).symm), by (exact (Below.refl _ _).alloc (Nat.le_refl _) _)⟩
set_option maxHeartbeats 1000000 in
theorem counted_12 {w : World} {cs : List Value} {h : ExHead} {dk dn : Int} {ds : ByteArray} {dA : Option Addr} {dl dc : Nat} {An : Option Addr} {nl nc : Nat} {Aa : Option Addr} {al ac : Nat} (hx : ExC enc w cs h dk dn ds dA dl dc An nl nc Aa al ac) (hm : CMaps w) (hk : h.kind = 12) : CountSays w cs h al := by
 obtain ⟨k, df, S, N, names⟩ := h
 obtain ⟨rfl, hkr, hnr, hS, hdf, hns, hes, hn1, hn2, ha1, ha2⟩ := hx
 simp only at hk hS hns hes
 subst hk
 have hal : al <= 9223372036854775807 := by unfold maxLen at ha2; omega
 have hnl : nl <= 9223372036854775807 := by unfold maxLen at hn2; omega
 clear hkr hnr hdf hn1 hn2 ha1 ha2
 unfold CountSays
 have hNL := Lib.hid hns.size
 have HC := Lib.hid (show countB 12 al S names = decide (al = 1) from rfl)
 clear hm hns hes
 by_cases h1 : al = 1
 ·
  subst h1
  (go_enter Tryz.func60, Tryz.ntmps60; go_wp2_with fail)
  refine (args_is _ 12 1 rfl).mono ?_
  rintro e w1 ⟨rfl, rfl⟩
  go_wp2_with fail
  go_ret
  exact ⟨zj (by rw [HC.out]; rfl), by (exact (Below.refl _ _).alloc (Nat.le_refl _) _)⟩
 have h2 : (al : Int) ≠ 1 := by omega
 (go_enter Tryz.func60, Tryz.ntmps60; go_wp2_with fail)
 refine (args_is _ 12 1 rfl).mono ?_
 rintro e w1 ⟨rfl, rfl⟩
 go_wp2_with fail
 go_ret
 exact ⟨zj (by rw [HC.out]; exact (decide_eq_false h1).symm), by (exact (Below.refl _ _).alloc (Nat.le_refl _) _)⟩
set_option maxHeartbeats 1000000 in
theorem counted_4 {w : World} {cs : List Value} {h : ExHead} {dk dn : Int} {ds : ByteArray} {dA : Option Addr} {dl dc : Nat} {An : Option Addr} {nl nc : Nat} {Aa : Option Addr} {al ac : Nat} (hx : ExC enc w cs h dk dn ds dA dl dc An nl nc Aa al ac) (hm : CMaps w) (hk : h.kind = 4) : CountSays w cs h al := by
 obtain ⟨k, df, S, N, names⟩ := h
 obtain ⟨rfl, hkr, hnr, hS, hdf, hns, hes, hn1, hn2, ha1, ha2⟩ := hx
 simp only at hk hS hns hes
 subst hk
 have hal : al <= 9223372036854775807 := by unfold maxLen at ha2; omega
 have hnl : nl <= 9223372036854775807 := by unfold maxLen at hn2; omega
 clear hkr hnr hdf hn1 hn2 ha1 ha2
 unfold CountSays
 have hNL := Lib.hid hns.size
 have HC := Lib.hid (show countB 4 al S names = decide (al = 3) from rfl)
 clear hm hns hes
 by_cases h1 : al = 3
 ·
  subst h1
  (go_enter Tryz.func60, Tryz.ntmps60; go_wp2_with fail)
  refine (args_is _ 4 3 rfl).mono ?_
  rintro e w1 ⟨rfl, rfl⟩
  go_wp2_with fail
  go_ret
  exact ⟨zj (by rw [HC.out]; rfl), by (exact (Below.refl _ _).alloc (Nat.le_refl _) _)⟩
 have h2 : (al : Int) ≠ 3 := by omega
 (go_enter Tryz.func60, Tryz.ntmps60; go_wp2_with fail)
 refine (args_is _ 4 3 rfl).mono ?_
 rintro e w1 ⟨rfl, rfl⟩
 go_wp2_with fail
 go_ret
 exact ⟨zj (by rw [HC.out]; exact (decide_eq_false h1).symm), by (exact (Below.refl _ _).alloc (Nat.le_refl _) _)⟩
set_option maxHeartbeats 1000000 in
theorem counted_5 {w : World} {cs : List Value} {h : ExHead} {dk dn : Int} {ds : ByteArray} {dA : Option Addr} {dl dc : Nat} {An : Option Addr} {nl nc : Nat} {Aa : Option Addr} {al ac : Nat} (hx : ExC enc w cs h dk dn ds dA dl dc An nl nc Aa al ac) (hm : CMaps w) (hk : h.kind = 5) : CountSays w cs h al := by
 obtain ⟨k, df, S, N, names⟩ := h
 obtain ⟨rfl, hkr, hnr, hS, hdf, hns, hes, hn1, hn2, ha1, ha2⟩ := hx
 simp only at hk hS hns hes
 subst hk
 have hal : al <= 9223372036854775807 := by unfold maxLen at ha2; omega
 have hnl : nl <= 9223372036854775807 := by unfold maxLen at hn2; omega
 clear hkr hnr hdf hn1 hn2 ha1 ha2
 unfold CountSays
 have hNL := Lib.hid hns.size
 have HC := Lib.hid (show countB 5 al S names = decide (al = names.length + 1 /\ al <= 7) from rfl)
 rw [hNL.out] at HC
 clear hm hns hes hNL
 have hp : (0:Int) <= al := Int.natCast_nonneg _
 by_cases h0 : nl = 9223372036854775807
 ·
  subst h0
  have h1 : (al : Int) ≠ wrap64 9223372036854775808 := by rw [show wrap64 9223372036854775808 = -9223372036854775808 from by unfold wrap64; omega]; omega
  (go_enter Tryz.func60, Tryz.ntmps60; go_wp2_with fail)
  refine (args_is _ 5 (-1) rfl).mono ?_
  rintro e w1 ⟨rfl, rfl⟩
  go_wp2_with fail
  go_ret
  exact ⟨zj (by rw [HC.out]; (first | rfl | exact decide_eq_decide.2 (by omega) | (symm; apply decide_eq_true; omega) | (symm; apply decide_eq_false; omega) | (simp only [true_and]; first | exact decide_eq_decide.2 (by omega) | (symm; apply decide_eq_true; omega) | (symm; apply decide_eq_false; omega)))), by (exact (Below.refl _ _).alloc (Nat.le_refl _) _)⟩
 by_cases h1 : al = nl + 1
 ·
  subst h1
  by_cases h2 : nl <= 6
  ·
   have h3 : (nl : Int) <= 6 := by omega
   (go_enter Tryz.func60, Tryz.ntmps60; go_wp2_with fail)
   refine (args_is _ 5 (-1) rfl).mono ?_
   rintro e w1 ⟨rfl, rfl⟩
   go_wp2_with fail
   go_ret
   exact ⟨zj (by rw [HC.out]; (first | rfl | exact decide_eq_decide.2 (by omega) | (symm; apply decide_eq_true; omega) | (symm; apply decide_eq_false; omega) | (simp only [true_and]; first | exact decide_eq_decide.2 (by omega) | (symm; apply decide_eq_true; omega) | (symm; apply decide_eq_false; omega)))), by (exact (Below.refl _ _).alloc (Nat.le_refl _) _)⟩
  have h3 : ¬ (nl : Int) <= 6 := by omega
  (go_enter Tryz.func60, Tryz.ntmps60; go_wp2_with fail)
  refine (args_is _ 5 (-1) rfl).mono ?_
  rintro e w1 ⟨rfl, rfl⟩
  go_wp2_with fail
  go_ret
  exact ⟨zj (by rw [HC.out]; (first | rfl | exact decide_eq_decide.2 (by omega) | (symm; apply decide_eq_true; omega) | (symm; apply decide_eq_false; omega) | (simp only [true_and]; first | exact decide_eq_decide.2 (by omega) | (symm; apply decide_eq_true; omega) | (symm; apply decide_eq_false; omega)))), by (exact (Below.refl _ _).alloc (Nat.le_refl _) _)⟩
 have h3 : (al : Int) ≠ nl + 1 := by omega
 (go_enter Tryz.func60, Tryz.ntmps60; go_wp2_with fail)
 refine (args_is _ 5 (-1) rfl).mono ?_
 rintro e w1 ⟨rfl, rfl⟩
 go_wp2_with fail
 go_ret
 exact ⟨zj (by rw [HC.out]; (first | rfl | exact decide_eq_decide.2 (by omega) | (symm; apply decide_eq_true; omega) | (symm; apply decide_eq_false; omega) | (simp only [true_and]; first | exact decide_eq_decide.2 (by omega) | (symm; apply decide_eq_true; omega) | (symm; apply decide_eq_false; omega)))), by (exact (Below.refl _ _).alloc (Nat.le_refl _) _)⟩
set_option maxHeartbeats 1000000 in
theorem counted_7 {w : World} {cs : List Value} {h : ExHead} {dk dn : Int} {ds : ByteArray} {dA : Option Addr} {dl dc : Nat} {An : Option Addr} {nl nc : Nat} {Aa : Option Addr} {al ac : Nat} (hx : ExC enc w cs h dk dn ds dA dl dc An nl nc Aa al ac) (hm : CMaps w) (hk : h.kind = 7) : CountSays w cs h al := by
 obtain ⟨k, df, S, N, names⟩ := h
 obtain ⟨rfl, hkr, hnr, hS, hdf, hns, hes, hn1, hn2, ha1, ha2⟩ := hx
 simp only at hk hS hns hes
 subst hk
 have hal : al <= 9223372036854775807 := by unfold maxLen at ha2; omega
 have hnl : nl <= 9223372036854775807 := by unfold maxLen at hn2; omega
 clear hkr hnr hdf hn1 hn2 ha1 ha2
 unfold CountSays
 have hNL := Lib.hid hns.size
 have HC := Lib.hid (show countB 7 al S names = decide (2 <= al) from rfl)
 clear hm hns hes hNL
 by_cases h1 : 2 <= al
 ·
  have h3 : 2 <= (al : Int) := by omega
  (go_enter Tryz.func60, Tryz.ntmps60; go_wp2_with fail)
  refine (args_is _ 7 (-1) rfl).mono ?_
  rintro e w1 ⟨rfl, rfl⟩
  go_wp2_with fail
  go_ret
  exact ⟨zj (by rw [HC.out]; (first | rfl | exact decide_eq_decide.2 (by omega) | (symm; apply decide_eq_true; omega) | (symm; apply decide_eq_false; omega) | (simp only [true_and]; first | exact decide_eq_decide.2 (by omega) | (symm; apply decide_eq_true; omega) | (symm; apply decide_eq_false; omega)))), by (exact (Below.refl _ _).alloc (Nat.le_refl _) _)⟩
 have h3 : ¬ (2 <= (al : Int)) := by omega
 (go_enter Tryz.func60, Tryz.ntmps60; go_wp2_with fail)
 refine (args_is _ 7 (-1) rfl).mono ?_
 rintro e w1 ⟨rfl, rfl⟩
 go_wp2_with fail
 go_ret
 exact ⟨zj (by rw [HC.out]; (first | rfl | exact decide_eq_decide.2 (by omega) | (symm; apply decide_eq_true; omega) | (symm; apply decide_eq_false; omega) | (simp only [true_and]; first | exact decide_eq_decide.2 (by omega) | (symm; apply decide_eq_true; omega) | (symm; apply decide_eq_false; omega)))), by (exact (Below.refl _ _).alloc (Nat.le_refl _) _)⟩
set_option maxHeartbeats 1000000 in
theorem counted_11 {w : World} {cs : List Value} {h : ExHead} {dk dn : Int} {ds : ByteArray} {dA : Option Addr} {dl dc : Nat} {An : Option Addr} {nl nc : Nat} {Aa : Option Addr} {al ac : Nat} (hx : ExC enc w cs h dk dn ds dA dl dc An nl nc Aa al ac) (hm : CMaps w) (hk : h.kind = 11) : CountSays w cs h al := by
 obtain ⟨k, df, S, N, names⟩ := h
 obtain ⟨rfl, hkr, hnr, hS, hdf, hns, hes, hn1, hn2, ha1, ha2⟩ := hx
 simp only at hk hS hns hes
 subst hk
 have hal : al <= 9223372036854775807 := by unfold maxLen at ha2; omega
 have hnl : nl <= 9223372036854775807 := by unfold maxLen at hn2; omega
 clear hkr hnr hdf hn1 hn2 ha1 ha2
 unfold CountSays
 have hNL := Lib.hid hns.size
 have HC := Lib.hid (show countB 11 al S names = decide (al <= 6) from rfl)
 clear hm hns hes hNL
 by_cases h1 : al <= 6
 ·
  have h3 : (al : Int) <= 6 := by omega
  (go_enter Tryz.func60, Tryz.ntmps60; go_wp2_with fail)
  refine (args_is _ 11 (-1) rfl).mono ?_
  rintro e w1 ⟨rfl, rfl⟩
  go_wp2_with fail
  go_ret
  exact ⟨zj (by rw [HC.out]; (first | rfl | exact decide_eq_decide.2 (by omega) | (symm; apply decide_eq_true; omega) | (symm; apply decide_eq_false; omega) | (simp only [true_and]; first | exact decide_eq_decide.2 (by omega) | (symm; apply decide_eq_true; omega) | (symm; apply decide_eq_false; omega)))), by (exact (Below.refl _ _).alloc (Nat.le_refl _) _)⟩
 have h3 : ¬ ((al : Int) <= 6) := by omega
 (go_enter Tryz.func60, Tryz.ntmps60; go_wp2_with fail)
 refine (args_is _ 11 (-1) rfl).mono ?_
 rintro e w1 ⟨rfl, rfl⟩
 go_wp2_with fail
 go_ret
 exact ⟨zj (by rw [HC.out]; (first | rfl | exact decide_eq_decide.2 (by omega) | (symm; apply decide_eq_true; omega) | (symm; apply decide_eq_false; omega) | (simp only [true_and]; first | exact decide_eq_decide.2 (by omega) | (symm; apply decide_eq_true; omega) | (symm; apply decide_eq_false; omega)))), by (exact (Below.refl _ _).alloc (Nat.le_refl _) _)⟩
set_option maxHeartbeats 1000000 in
theorem counted_6 {w : World} {cs : List Value} {h : ExHead} {dk dn : Int} {ds : ByteArray} {dA : Option Addr} {dl dc : Nat} {An : Option Addr} {nl nc : Nat} {Aa : Option Addr} {al ac : Nat} (hx : ExC enc w cs h dk dn ds dA dl dc An nl nc Aa al ac) (hm : CMaps w) (hk : h.kind = 6) : CountSays w cs h al := by
 obtain ⟨k, df, S, N, names⟩ := h
 obtain ⟨rfl, hkr, hnr, hS, hdf, hns, hes, hn1, hn2, ha1, ha2⟩ := hx
 simp only at hk hS hns hes
 subst hk
 have hal : al <= 9223372036854775807 := by unfold maxLen at ha2; omega
 have hnl : nl <= 9223372036854775807 := by unfold maxLen at hn2; omega
 clear hkr hnr hdf hn1 hn2 ha1 ha2
 unfold CountSays
 have hNL := Lib.hid hns.size
 have HC := Lib.hid (show countB 6 al S names = decide (al = 1 /\ names.length <= 6) from rfl)
 rw [hNL.out] at HC
 clear hm hns hes hNL
 by_cases h1 : al = 1
 ·
  subst h1
  by_cases h2 : nl <= 6
  ·
   have h3 : (nl : Int) <= 6 := by omega
   (go_enter Tryz.func60, Tryz.ntmps60; go_wp2_with fail)
   refine (args_is _ 6 (1) rfl).mono ?_
   rintro e w1 ⟨rfl, rfl⟩
   go_wp2_with fail
   go_ret
   exact ⟨zj (by rw [HC.out]; (first | rfl | exact decide_eq_decide.2 (by omega) | (symm; apply decide_eq_true; omega) | (symm; apply decide_eq_false; omega) | (simp only [true_and]; first | exact decide_eq_decide.2 (by omega) | (symm; apply decide_eq_true; omega) | (symm; apply decide_eq_false; omega)))), by (exact (Below.refl _ _).alloc (Nat.le_refl _) _)⟩
  have h3 : ¬ (nl : Int) <= 6 := by omega
  (go_enter Tryz.func60, Tryz.ntmps60; go_wp2_with fail)
  refine (args_is _ 6 (1) rfl).mono ?_
  rintro e w1 ⟨rfl, rfl⟩
  go_wp2_with fail
  go_ret
  exact ⟨zj (by rw [HC.out]; (first | rfl | exact decide_eq_decide.2 (by omega) | (symm; apply decide_eq_true; omega) | (symm; apply decide_eq_false; omega) | (simp only [true_and]; first | exact decide_eq_decide.2 (by omega) | (symm; apply decide_eq_true; omega) | (symm; apply decide_eq_false; omega)))), by (exact (Below.refl _ _).alloc (Nat.le_refl _) _)⟩
 have h3 : (al : Int) ≠ 1 := by omega
 (go_enter Tryz.func60, Tryz.ntmps60; go_wp2_with fail)
 refine (args_is _ 6 (1) rfl).mono ?_
 rintro e w1 ⟨rfl, rfl⟩
 go_wp2_with fail
 go_ret
 exact ⟨zj (by rw [HC.out]; (first | rfl | exact decide_eq_decide.2 (by omega) | (symm; apply decide_eq_true; omega) | (symm; apply decide_eq_false; omega) | (simp only [true_and]; first | exact decide_eq_decide.2 (by omega) | (symm; apply decide_eq_true; omega) | (symm; apply decide_eq_false; omega)))), by (exact (Below.refl _ _).alloc (Nat.le_refl _) _)⟩
set_option maxHeartbeats 1000000 in
theorem counted_9 {w : World} {cs : List Value} {h : ExHead} {dk dn : Int} {ds : ByteArray} {dA : Option Addr} {dl dc : Nat} {An : Option Addr} {nl nc : Nat} {Aa : Option Addr} {al ac : Nat} (hx : ExC enc w cs h dk dn ds dA dl dc An nl nc Aa al ac) (hm : CMaps w) (hk : h.kind = 9) : CountSays w cs h al := by
 obtain ⟨k, df, S, N, names⟩ := h
 obtain ⟨rfl, hkr, hnr, hS, hdf, hns, hes, hn1, hn2, ha1, ha2⟩ := hx
 simp only at hk hS hns hes
 subst hk
 have hal : al <= 9223372036854775807 := by unfold maxLen at ha2; omega
 have hnl : nl <= 9223372036854775807 := by unfold maxLen at hn2; omega
 clear hkr hnr hdf hn1 hn2 ha1 ha2
 unfold CountSays
 have hNL := Lib.hid hns.size
 have HC := Lib.hid (show countB 9 al S names = decide (1 <= al /\ al <= 7) from rfl)
 clear hm hns hes hNL
 by_cases h1 : 1 <= al
 ·
  have h4 : (1 : Int) <= al := by omega
  by_cases h2 : al <= 7
  ·
   have h3 : (al : Int) <= 7 := by omega
   (go_enter Tryz.func60, Tryz.ntmps60; go_wp2_with fail)
   refine (args_is _ 9 (-1) rfl).mono ?_
   rintro e w1 ⟨rfl, rfl⟩
   go_wp2_with fail
   go_ret
   exact ⟨zj (by rw [HC.out]; (first | rfl | exact decide_eq_decide.2 (by omega) | (symm; apply decide_eq_true; omega) | (symm; apply decide_eq_false; omega) | (simp only [true_and]; first | exact decide_eq_decide.2 (by omega) | (symm; apply decide_eq_true; omega) | (symm; apply decide_eq_false; omega)))), by (exact (Below.refl _ _).alloc (Nat.le_refl _) _)⟩
  have h3 : ¬ (al : Int) <= 7 := by omega
  (go_enter Tryz.func60, Tryz.ntmps60; go_wp2_with fail)
  refine (args_is _ 9 (-1) rfl).mono ?_
  rintro e w1 ⟨rfl, rfl⟩
  go_wp2_with fail
  go_ret
  exact ⟨zj (by rw [HC.out]; (first | rfl | exact decide_eq_decide.2 (by omega) | (symm; apply decide_eq_true; omega) | (symm; apply decide_eq_false; omega) | (simp only [true_and]; first | exact decide_eq_decide.2 (by omega) | (symm; apply decide_eq_true; omega) | (symm; apply decide_eq_false; omega)))), by (exact (Below.refl _ _).alloc (Nat.le_refl _) _)⟩
 have h3 : ¬ (1 : Int) <= al := by omega
 (go_enter Tryz.func60, Tryz.ntmps60; go_wp2_with fail)
 refine (args_is _ 9 (-1) rfl).mono ?_
 rintro e w1 ⟨rfl, rfl⟩
 go_wp2_with fail
 go_ret
 exact ⟨zj (by rw [HC.out]; (first | rfl | exact decide_eq_decide.2 (by omega) | (symm; apply decide_eq_true; omega) | (symm; apply decide_eq_false; omega) | (simp only [true_and]; first | exact decide_eq_decide.2 (by omega) | (symm; apply decide_eq_true; omega) | (symm; apply decide_eq_false; omega)))), by (exact (Below.refl _ _).alloc (Nat.le_refl _) _)⟩
set_option maxHeartbeats 1000000 in
theorem counted_10 {w : World} {cs : List Value} {h : ExHead} {dk dn : Int} {ds : ByteArray} {dA : Option Addr} {dl dc : Nat} {An : Option Addr} {nl nc : Nat} {Aa : Option Addr} {al ac : Nat} (hx : ExC enc w cs h dk dn ds dA dl dc An nl nc Aa al ac) (hm : CMaps w) (hk : h.kind = 10) : CountSays w cs h al := by
 obtain ⟨k, df, S, N, names⟩ := h
 obtain ⟨rfl, hkr, hnr, hS, hdf, hns, hes, hn1, hn2, ha1, ha2⟩ := hx
 simp only at hk hS hns hes
 subst hk
 have hal : al <= 9223372036854775807 := by unfold maxLen at ha2; omega
 have hnl : nl <= 9223372036854775807 := by unfold maxLen at hn2; omega
 clear hkr hnr hdf hn1 hn2 ha1 ha2
 unfold CountSays
 have hNL := Lib.hid hns.size
 have HC := Lib.hid (show countB 10 al S names = decide (primN S.toList = al) from rfl)
 obtain ⟨bm, hc, hbm, hg, hl⟩ := hm.ar
 have hk := hl (w.alloc (.cells #[.int .i64 10, .int .i64 dk, .int .i64 dn, .string ds, .slice dA dl dc, .string S, .int .i64 N, .slice An nl nc, .slice Aa al ac] 28)) (Below.heap_alloc _ _ _ hbm) S hS
 clear hl hm hns hes hNL
 have hp : primN S.toList = 2 \/ primN S.toList = 1 \/ primN S.toList = -1 := by
  unfold primN; split
  ·
   exact Or.inl rfl
  split
  ·
   exact Or.inr (Or.inl rfl)
  exact Or.inr (Or.inr rfl)
 rcases hp with hp | hp | hp
 ·
  rw [hp] at HC hk
  by_cases h1 : al = 2
  ·
   subst h1
   (go_enter Tryz.func60, Tryz.ntmps60; go_wp2_with fail)
   refine (args_is _ 10 (-1) rfl).mono ?_
   rintro e w1 ⟨rfl, rfl⟩
   go_wp2_with fail
   go_ret
   exact ⟨zj (by rw [HC.out]; (first | rfl | exact decide_eq_decide.2 (by omega) | (symm; apply decide_eq_true; omega) | (symm; apply decide_eq_false; omega) | (simp only [true_and]; first | exact decide_eq_decide.2 (by omega) | (symm; apply decide_eq_true; omega) | (symm; apply decide_eq_false; omega)))), by (exact (Below.refl _ _).alloc (Nat.le_refl _) _)⟩
  have h3 : (2 : Int) ≠ al := by omega
  (go_enter Tryz.func60, Tryz.ntmps60; go_wp2_with fail)
  refine (args_is _ 10 (-1) rfl).mono ?_
  rintro e w1 ⟨rfl, rfl⟩
  go_wp2_with fail
  go_ret
  exact ⟨zj (by rw [HC.out]; (first | rfl | exact decide_eq_decide.2 (by omega) | (symm; apply decide_eq_true; omega) | (symm; apply decide_eq_false; omega) | (simp only [true_and]; first | exact decide_eq_decide.2 (by omega) | (symm; apply decide_eq_true; omega) | (symm; apply decide_eq_false; omega)))), by (exact (Below.refl _ _).alloc (Nat.le_refl _) _)⟩
 ·
  rw [hp] at HC hk
  by_cases h1 : al = 1
  ·
   subst h1
   (go_enter Tryz.func60, Tryz.ntmps60; go_wp2_with fail)
   refine (args_is _ 10 (-1) rfl).mono ?_
   rintro e w1 ⟨rfl, rfl⟩
   go_wp2_with fail
   go_ret
   exact ⟨zj (by rw [HC.out]; (first | rfl | exact decide_eq_decide.2 (by omega) | (symm; apply decide_eq_true; omega) | (symm; apply decide_eq_false; omega) | (simp only [true_and]; first | exact decide_eq_decide.2 (by omega) | (symm; apply decide_eq_true; omega) | (symm; apply decide_eq_false; omega)))), by (exact (Below.refl _ _).alloc (Nat.le_refl _) _)⟩
  have h3 : (1 : Int) ≠ al := by omega
  (go_enter Tryz.func60, Tryz.ntmps60; go_wp2_with fail)
  refine (args_is _ 10 (-1) rfl).mono ?_
  rintro e w1 ⟨rfl, rfl⟩
  go_wp2_with fail
  go_ret
  exact ⟨zj (by rw [HC.out]; (first | rfl | exact decide_eq_decide.2 (by omega) | (symm; apply decide_eq_true; omega) | (symm; apply decide_eq_false; omega) | (simp only [true_and]; first | exact decide_eq_decide.2 (by omega) | (symm; apply decide_eq_true; omega) | (symm; apply decide_eq_false; omega)))), by (exact (Below.refl _ _).alloc (Nat.le_refl _) _)⟩
 rw [hp] at HC hk
 (go_enter Tryz.func60, Tryz.ntmps60; go_wp2_with fail)
 refine (args_is _ 10 (-1) rfl).mono ?_
 rintro e w1 ⟨rfl, rfl⟩
 go_wp2_with fail
 go_ret
 exact ⟨zj (by rw [HC.out]; (first | rfl | exact decide_eq_decide.2 (by omega) | (symm; apply decide_eq_true; omega) | (symm; apply decide_eq_false; omega) | (simp only [true_and]; first | exact decide_eq_decide.2 (by omega) | (symm; apply decide_eq_true; omega) | (symm; apply decide_eq_false; omega)))), by (exact (Below.refl _ _).alloc (Nat.le_refl _) _)⟩
set_option maxHeartbeats 1000000 in
theorem counted_13 {w : World} {cs : List Value} {h : ExHead} {dk dn : Int} {ds : ByteArray} {dA : Option Addr} {dl dc : Nat} {An : Option Addr} {nl nc : Nat} {Aa : Option Addr} {al ac : Nat} (hx : ExC enc w cs h dk dn ds dA dl dc An nl nc Aa al ac) (hm : CMaps w) (hk : h.kind = 13) : CountSays w cs h al := by
 obtain ⟨k, df, S, N, names⟩ := h
 obtain ⟨rfl, hkr, hnr, hS, hdf, hns, hes, hn1, hn2, ha1, ha2⟩ := hx
 simp only at hk hS hns hes
 subst hk
 have hal : al <= 9223372036854775807 := by unfold maxLen at ha2; omega
 have hnl : nl <= 9223372036854775807 := by unfold maxLen at hn2; omega
 clear hkr hnr hdf hn1 hn2 ha1 ha2
 unfold CountSays
 have hNL := Lib.hid hns.size
 have HC := Lib.hid (show countB 13 al S names = (decide (al = 1 /\ names.length = 1) && nameB (names.getD 0 ByteArray.empty).data.toList) from rfl)
 rw [hNL.out] at HC
 by_cases h1 : al = 1
 ·
  subst h1
  by_cases h2 : nl = 1
  ·
   subst h2
   obtain ⟨b, o, rfl, hb, hat⟩ := hns.at_ (by omega)
   match names, hNL.out with
   | [s], _ =>
    have hc := hat 0 (by simp)
    simp only [Nat.add_zero, List.getElem_cons_zero] at hc
    have hs := hes s (by simp)
    clear hm hns hes hNL hat
    (go_enter Tryz.func60, Tryz.ntmps60; go_wp2_with fail)
    refine (args_is _ 13 1 rfl).mono ?_
    rintro e w1 ⟨rfl, rfl⟩
    go_wp2_with fail
    refine (symbol_code s hs _).mono ?_
    rintro e w1 ⟨rfl, hb1⟩
    have HB1 := Lib.hid hb1
    clear hb1
    go_wp2_with fail
    go_ret
    exact ⟨zj (by rw [HC.out]; simp), ((Below.refl _ _).alloc (Nat.le_refl _) _).trans (HB1.out.mono (by simp))⟩
  have h3 : (nl : Int) ≠ 1 := by omega
  clear hm hns hes hNL
  (go_enter Tryz.func60, Tryz.ntmps60; go_wp2_with fail)
  refine (args_is _ 13 1 rfl).mono ?_
  rintro e w1 ⟨rfl, rfl⟩
  go_wp2_with fail
  go_ret
  exact ⟨zj (by rw [HC.out]; simp [h2]), by (exact (Below.refl _ _).alloc (Nat.le_refl _) _)⟩
 have h3 : (al : Int) ≠ 1 := by omega
 clear hm hns hes hNL
 (go_enter Tryz.func60, Tryz.ntmps60; go_wp2_with fail)
 refine (args_is _ 13 1 rfl).mono ?_
 rintro e w1 ⟨rfl, rfl⟩
 go_wp2_with fail
 go_ret
 exact ⟨zj (by rw [HC.out]; simp [h1]), by (exact (Below.refl _ _).alloc (Nat.le_refl _) _)⟩
set_option maxHeartbeats 1000000 in
theorem counted_14 {w : World} {cs : List Value} {h : ExHead} {dk dn : Int} {ds : ByteArray} {dA : Option Addr} {dl dc : Nat} {An : Option Addr} {nl nc : Nat} {Aa : Option Addr} {al ac : Nat} (hx : ExC enc w cs h dk dn ds dA dl dc An nl nc Aa al ac) (hm : CMaps w) (hk : h.kind = 14) : CountSays w cs h al := by
 obtain ⟨k, df, S, N, names⟩ := h
 obtain ⟨rfl, hkr, hnr, hS, hdf, hns, hes, hn1, hn2, ha1, ha2⟩ := hx
 simp only at hk hS hns hes
 subst hk
 have hal : al <= 9223372036854775807 := by unfold maxLen at ha2; omega
 have hnl : nl <= 9223372036854775807 := by unfold maxLen at hn2; omega
 clear hkr hnr hdf hn1 hn2 ha1 ha2
 unfold CountSays
 have hNL := Lib.hid hns.size
 have HC := Lib.hid (show countB 14 al S names = (decide (al = 2 /\ names.length = 1) && nameB (names.getD 0 ByteArray.empty).data.toList) from rfl)
 rw [hNL.out] at HC
 by_cases h1 : al = 2
 ·
  subst h1
  by_cases h2 : nl = 1
  ·
   subst h2
   obtain ⟨b, o, rfl, hb, hat⟩ := hns.at_ (by omega)
   match names, hNL.out with
   | [s], _ =>
    have hc := hat 0 (by simp)
    simp only [Nat.add_zero, List.getElem_cons_zero] at hc
    have hs := hes s (by simp)
    clear hm hns hes hNL hat
    (go_enter Tryz.func60, Tryz.ntmps60; go_wp2_with fail)
    refine (args_is _ 14 2 rfl).mono ?_
    rintro e w1 ⟨rfl, rfl⟩
    go_wp2_with fail
    refine (symbol_code s hs _).mono ?_
    rintro e w1 ⟨rfl, hb1⟩
    have HB1 := Lib.hid hb1
    clear hb1
    go_wp2_with fail
    go_ret
    exact ⟨zj (by rw [HC.out]; simp), ((Below.refl _ _).alloc (Nat.le_refl _) _).trans (HB1.out.mono (by simp))⟩
  have h3 : (nl : Int) ≠ 1 := by omega
  clear hm hns hes hNL
  (go_enter Tryz.func60, Tryz.ntmps60; go_wp2_with fail)
  refine (args_is _ 14 2 rfl).mono ?_
  rintro e w1 ⟨rfl, rfl⟩
  go_wp2_with fail
  go_ret
  exact ⟨zj (by rw [HC.out]; simp [h2]), by (exact (Below.refl _ _).alloc (Nat.le_refl _) _)⟩
 have h3 : (al : Int) ≠ 2 := by omega
 clear hm hns hes hNL
 (go_enter Tryz.func60, Tryz.ntmps60; go_wp2_with fail)
 refine (args_is _ 14 2 rfl).mono ?_
 rintro e w1 ⟨rfl, rfl⟩
 go_wp2_with fail
 go_ret
 exact ⟨zj (by rw [HC.out]; simp [h1]), by (exact (Below.refl _ _).alloc (Nat.le_refl _) _)⟩
theorem counted_any {w : World} {cs : List Value} {h : ExHead} {dk dn : Int} {ds : ByteArray} {dA : Option Addr} {dl dc : Nat} {An : Option Addr} {nl nc : Nat} {Aa : Option Addr} {al ac : Nat} (hx : ExC enc w cs h dk dn ds dA dl dc An nl nc Aa al ac) (hm : CMaps w) (hk : ¬ (h.kind < 1 \/ 15 < h.kind)) : CountSays w cs h al := by
 rcases kinds hk with hk | hk | hk | hk | hk | hk | hk | hk | hk | hk | hk | hk | hk | hk | hk
 ·
  exact counted_1 hx hm hk
 ·
  exact counted_2 hx hm hk
 ·
  exact counted_3 hx hm hk
 ·
  exact counted_4 hx hm hk
 ·
  exact counted_5 hx hm hk
 ·
  exact counted_6 hx hm hk
 ·
  exact counted_7 hx hm hk
 ·
  exact counted_8 hx hm hk
 ·
  exact counted_9 hx hm hk
 ·
  exact counted_10 hx hm hk
 ·
  exact counted_11 hx hm hk
 ·
  exact counted_12 hx hm hk
 ·
  exact counted_13 hx hm hk
 ·
  exact counted_14 hx hm hk
 exact counted_15 hx hm hk
end
/- Contract of code.named, kind by kind (printed by gen_named.py). -/
def nameAt (names : List ByteArray) (i : Nat) : Bool := freeB (names.getD i ByteArray.empty) && !inL (names.take i) (names.getD i ByteArray.empty)
def namesB (names : List ByteArray) : Bool := (List.range names.length).all (nameAt names)
theorem namesB_no {names : List ByteArray} {i : Nat} (hi : i < names.length) (h : nameAt names i = false) : namesB names = false := by
 unfold namesB
 rw [Bool.eq_false_iff]
 intro ha
 rw [List.all_eq_true] at ha
 rw [ha i (by simpa using hi)] at h
 cases h
theorem namesB_yes {names : List ByteArray} (h : ∀ i, i < names.length -> nameAt names i = true) : namesB names = true := by
 unfold namesB
 rw [List.all_eq_true]
 intro i hi
 exact h i (by simpa using hi)
def namedB (k N : Int) (S : ByteArray) (names scope : List ByteArray) : Bool :=
 if k = 2 then inL scope S else if k = 3 \/ k = 11 \/ k = 12 \/ k = 13 \/ k = 14 then freeB S
 else if k = 8 then (decide (N = 0) && freeB S) || (decide (N = 1) && inL scope S)
 else if k = 5 \/ k = 6 then namesB names else true
section
variable {H : Type} {enc : TypeId × Value -> H}
def NamedSays (w : World) (cs : List Value) (h : ExHead) (As : Option Addr) (sl sc : Nat) (scope : List ByteArray) : Prop :=
 Calls Tryz.prog 61 #[.agg cs.toArray, .slice As sl sc] w fun e w' => e = .returned (.bool (namedB h.kind h.N h.S h.names scope)) /\ Below w.heap.size w w'
theorem box_below {w w1 : World} {o : Obj} (h : Below (w.alloc o).heap.size (w.alloc o) w1) : Below w.heap.size w w1 := ((Below.refl _ _).alloc (Nat.le_refl _) _).trans (h.mono (by simp))
set_option maxHeartbeats 1000000 in
theorem named_1 {w : World} {cs : List Value} {h : ExHead} {dk dn : Int} {ds : ByteArray} {dA : Option Addr} {dl dc : Nat} {An : Option Addr} {nl nc : Nat} {Aa : Option Addr} {al ac : Nat} {As : Option Addr} {sl sc : Nat} {scope : List ByteArray} (hx : ExC enc w cs h dk dn ds dA dl dc An nl nc Aa al ac) (hm : CMaps w) (hs : zt w As sl scope) (hsl : sl <= sc) (hsc : sc <= maxLen) (hk : h.kind = 1) : NamedSays w cs h As sl sc scope := by
 obtain ⟨k, df, S, N, names⟩ := h
 obtain ⟨rfl, hkr, hnr, hS, hdf, hns, hes, hn1, hn2, ha1, ha2⟩ := hx
 simp only at hk hS hns hes
 subst hk
 have hnl : nl <= 9223372036854775807 := by unfold maxLen at hn2; omega
 clear hkr hdf ha1 ha2
 unfold NamedSays
 have HC := Lib.hid (show namedB 1 N S names scope = true from rfl)
 clear hm hns hes hs
 (go_enter Tryz.func61, Tryz.ntmps61; go_wp2_with fail)
 go_ret
 exact ⟨zj HC.out.symm, by (exact (Below.refl _ _).alloc (Nat.le_refl _) _)⟩
set_option maxHeartbeats 1000000 in
theorem named_4 {w : World} {cs : List Value} {h : ExHead} {dk dn : Int} {ds : ByteArray} {dA : Option Addr} {dl dc : Nat} {An : Option Addr} {nl nc : Nat} {Aa : Option Addr} {al ac : Nat} {As : Option Addr} {sl sc : Nat} {scope : List ByteArray} (hx : ExC enc w cs h dk dn ds dA dl dc An nl nc Aa al ac) (hm : CMaps w) (hs : zt w As sl scope) (hsl : sl <= sc) (hsc : sc <= maxLen) (hk : h.kind = 4) : NamedSays w cs h As sl sc scope := by
 obtain ⟨k, df, S, N, names⟩ := h
 obtain ⟨rfl, hkr, hnr, hS, hdf, hns, hes, hn1, hn2, ha1, ha2⟩ := hx
 simp only at hk hS hns hes
 subst hk
 have hnl : nl <= 9223372036854775807 := by unfold maxLen at hn2; omega
 clear hkr hdf ha1 ha2
 unfold NamedSays
 have HC := Lib.hid (show namedB 4 N S names scope = true from rfl)
 clear hm hns hes hs
 (go_enter Tryz.func61, Tryz.ntmps61; go_wp2_with fail)
 go_ret
 exact ⟨zj HC.out.symm, by (exact (Below.refl _ _).alloc (Nat.le_refl _) _)⟩
set_option maxHeartbeats 1000000 in
theorem named_7 {w : World} {cs : List Value} {h : ExHead} {dk dn : Int} {ds : ByteArray} {dA : Option Addr} {dl dc : Nat} {An : Option Addr} {nl nc : Nat} {Aa : Option Addr} {al ac : Nat} {As : Option Addr} {sl sc : Nat} {scope : List ByteArray} (hx : ExC enc w cs h dk dn ds dA dl dc An nl nc Aa al ac) (hm : CMaps w) (hs : zt w As sl scope) (hsl : sl <= sc) (hsc : sc <= maxLen) (hk : h.kind = 7) : NamedSays w cs h As sl sc scope := by
 obtain ⟨k, df, S, N, names⟩ := h
 obtain ⟨rfl, hkr, hnr, hS, hdf, hns, hes, hn1, hn2, ha1, ha2⟩ := hx
 simp only at hk hS hns hes
 subst hk
 have hnl : nl <= 9223372036854775807 := by unfold maxLen at hn2; omega
 clear hkr hdf ha1 ha2
 unfold NamedSays
 have HC := Lib.hid (show namedB 7 N S names scope = true from rfl)
 clear hm hns hes hs
 (go_enter Tryz.func61, Tryz.ntmps61; go_wp2_with fail)
 go_ret
 exact ⟨zj HC.out.symm, by (exact (Below.refl _ _).alloc (Nat.le_refl _) _)⟩
set_option maxHeartbeats 1000000 in
theorem named_9 {w : World} {cs : List Value} {h : ExHead} {dk dn : Int} {ds : ByteArray} {dA : Option Addr} {dl dc : Nat} {An : Option Addr} {nl nc : Nat} {Aa : Option Addr} {al ac : Nat} {As : Option Addr} {sl sc : Nat} {scope : List ByteArray} (hx : ExC enc w cs h dk dn ds dA dl dc An nl nc Aa al ac) (hm : CMaps w) (hs : zt w As sl scope) (hsl : sl <= sc) (hsc : sc <= maxLen) (hk : h.kind = 9) : NamedSays w cs h As sl sc scope := by
 obtain ⟨k, df, S, N, names⟩ := h
 obtain ⟨rfl, hkr, hnr, hS, hdf, hns, hes, hn1, hn2, ha1, ha2⟩ := hx
 simp only at hk hS hns hes
 subst hk
 have hnl : nl <= 9223372036854775807 := by unfold maxLen at hn2; omega
 clear hkr hdf ha1 ha2
 unfold NamedSays
 have HC := Lib.hid (show namedB 9 N S names scope = true from rfl)
 clear hm hns hes hs
 (go_enter Tryz.func61, Tryz.ntmps61; go_wp2_with fail)
 go_ret
 exact ⟨zj HC.out.symm, by (exact (Below.refl _ _).alloc (Nat.le_refl _) _)⟩
set_option maxHeartbeats 1000000 in
theorem named_10 {w : World} {cs : List Value} {h : ExHead} {dk dn : Int} {ds : ByteArray} {dA : Option Addr} {dl dc : Nat} {An : Option Addr} {nl nc : Nat} {Aa : Option Addr} {al ac : Nat} {As : Option Addr} {sl sc : Nat} {scope : List ByteArray} (hx : ExC enc w cs h dk dn ds dA dl dc An nl nc Aa al ac) (hm : CMaps w) (hs : zt w As sl scope) (hsl : sl <= sc) (hsc : sc <= maxLen) (hk : h.kind = 10) : NamedSays w cs h As sl sc scope := by
 obtain ⟨k, df, S, N, names⟩ := h
 obtain ⟨rfl, hkr, hnr, hS, hdf, hns, hes, hn1, hn2, ha1, ha2⟩ := hx
 simp only at hk hS hns hes
 subst hk
 have hnl : nl <= 9223372036854775807 := by unfold maxLen at hn2; omega
 clear hkr hdf ha1 ha2
 unfold NamedSays
 have HC := Lib.hid (show namedB 10 N S names scope = true from rfl)
 clear hm hns hes hs
 (go_enter Tryz.func61, Tryz.ntmps61; go_wp2_with fail)
 go_ret
 exact ⟨zj HC.out.symm, by (exact (Below.refl _ _).alloc (Nat.le_refl _) _)⟩
set_option maxHeartbeats 1000000 in
theorem named_15 {w : World} {cs : List Value} {h : ExHead} {dk dn : Int} {ds : ByteArray} {dA : Option Addr} {dl dc : Nat} {An : Option Addr} {nl nc : Nat} {Aa : Option Addr} {al ac : Nat} {As : Option Addr} {sl sc : Nat} {scope : List ByteArray} (hx : ExC enc w cs h dk dn ds dA dl dc An nl nc Aa al ac) (hm : CMaps w) (hs : zt w As sl scope) (hsl : sl <= sc) (hsc : sc <= maxLen) (hk : h.kind = 15) : NamedSays w cs h As sl sc scope := by
 obtain ⟨k, df, S, N, names⟩ := h
 obtain ⟨rfl, hkr, hnr, hS, hdf, hns, hes, hn1, hn2, ha1, ha2⟩ := hx
 simp only at hk hS hns hes
 subst hk
 have hnl : nl <= 9223372036854775807 := by unfold maxLen at hn2; omega
 clear hkr hdf ha1 ha2
 unfold NamedSays
 have HC := Lib.hid (show namedB 15 N S names scope = true from rfl)
 clear hm hns hes hs
 (go_enter Tryz.func61, Tryz.ntmps61; go_wp2_with fail)
 go_ret
 exact ⟨zj HC.out.symm, by (exact (Below.refl _ _).alloc (Nat.le_refl _) _)⟩
set_option maxHeartbeats 1000000 in
theorem named_3 {w : World} {cs : List Value} {h : ExHead} {dk dn : Int} {ds : ByteArray} {dA : Option Addr} {dl dc : Nat} {An : Option Addr} {nl nc : Nat} {Aa : Option Addr} {al ac : Nat} {As : Option Addr} {sl sc : Nat} {scope : List ByteArray} (hx : ExC enc w cs h dk dn ds dA dl dc An nl nc Aa al ac) (hm : CMaps w) (hs : zt w As sl scope) (hsl : sl <= sc) (hsc : sc <= maxLen) (hk : h.kind = 3) : NamedSays w cs h As sl sc scope := by
 obtain ⟨k, df, S, N, names⟩ := h
 obtain ⟨rfl, hkr, hnr, hS, hdf, hns, hes, hn1, hn2, ha1, ha2⟩ := hx
 simp only at hk hS hns hes
 subst hk
 have hnl : nl <= 9223372036854775807 := by unfold maxLen at hn2; omega
 clear hkr hdf ha1 ha2
 unfold NamedSays
 have HC := Lib.hid (show namedB 3 N S names scope = freeB S from rfl)
 have HM := Lib.hid hm
 clear hm hns hes hs
 (go_enter Tryz.func61, Tryz.ntmps61; go_wp2_with fail)
 refine (free_code S hS _ (HM.out.um.below ((Below.refl _ _).alloc (Nat.le_refl _) _))).mono ?_
 rintro e w1 ⟨rfl, hb1⟩
 have HB1 := Lib.hid (box_below hb1)
 clear hb1
 go_wp2_with fail
 go_ret
 exact ⟨zj HC.out.symm, HB1.out⟩
set_option maxHeartbeats 1000000 in
theorem named_11 {w : World} {cs : List Value} {h : ExHead} {dk dn : Int} {ds : ByteArray} {dA : Option Addr} {dl dc : Nat} {An : Option Addr} {nl nc : Nat} {Aa : Option Addr} {al ac : Nat} {As : Option Addr} {sl sc : Nat} {scope : List ByteArray} (hx : ExC enc w cs h dk dn ds dA dl dc An nl nc Aa al ac) (hm : CMaps w) (hs : zt w As sl scope) (hsl : sl <= sc) (hsc : sc <= maxLen) (hk : h.kind = 11) : NamedSays w cs h As sl sc scope := by
 obtain ⟨k, df, S, N, names⟩ := h
 obtain ⟨rfl, hkr, hnr, hS, hdf, hns, hes, hn1, hn2, ha1, ha2⟩ := hx
 simp only at hk hS hns hes
 subst hk
 have hnl : nl <= 9223372036854775807 := by unfold maxLen at hn2; omega
 clear hkr hdf ha1 ha2
 unfold NamedSays
 have HC := Lib.hid (show namedB 11 N S names scope = freeB S from rfl)
 have HM := Lib.hid hm
 clear hm hns hes hs
 (go_enter Tryz.func61, Tryz.ntmps61; go_wp2_with fail)
 refine (free_code S hS _ (HM.out.um.below ((Below.refl _ _).alloc (Nat.le_refl _) _))).mono ?_
 rintro e w1 ⟨rfl, hb1⟩
 have HB1 := Lib.hid (box_below hb1)
 clear hb1
 go_wp2_with fail
 go_ret
 exact ⟨zj HC.out.symm, HB1.out⟩
set_option maxHeartbeats 1000000 in
theorem named_12 {w : World} {cs : List Value} {h : ExHead} {dk dn : Int} {ds : ByteArray} {dA : Option Addr} {dl dc : Nat} {An : Option Addr} {nl nc : Nat} {Aa : Option Addr} {al ac : Nat} {As : Option Addr} {sl sc : Nat} {scope : List ByteArray} (hx : ExC enc w cs h dk dn ds dA dl dc An nl nc Aa al ac) (hm : CMaps w) (hs : zt w As sl scope) (hsl : sl <= sc) (hsc : sc <= maxLen) (hk : h.kind = 12) : NamedSays w cs h As sl sc scope := by
 obtain ⟨k, df, S, N, names⟩ := h
 obtain ⟨rfl, hkr, hnr, hS, hdf, hns, hes, hn1, hn2, ha1, ha2⟩ := hx
 simp only at hk hS hns hes
 subst hk
 have hnl : nl <= 9223372036854775807 := by unfold maxLen at hn2; omega
 clear hkr hdf ha1 ha2
 unfold NamedSays
 have HC := Lib.hid (show namedB 12 N S names scope = freeB S from rfl)
 have HM := Lib.hid hm
 clear hm hns hes hs
 (go_enter Tryz.func61, Tryz.ntmps61; go_wp2_with fail)
 refine (free_code S hS _ (HM.out.um.below ((Below.refl _ _).alloc (Nat.le_refl _) _))).mono ?_
 rintro e w1 ⟨rfl, hb1⟩
 have HB1 := Lib.hid (box_below hb1)
 clear hb1
 go_wp2_with fail
 go_ret
 exact ⟨zj HC.out.symm, HB1.out⟩
set_option maxHeartbeats 1000000 in
theorem named_13 {w : World} {cs : List Value} {h : ExHead} {dk dn : Int} {ds : ByteArray} {dA : Option Addr} {dl dc : Nat} {An : Option Addr} {nl nc : Nat} {Aa : Option Addr} {al ac : Nat} {As : Option Addr} {sl sc : Nat} {scope : List ByteArray} (hx : ExC enc w cs h dk dn ds dA dl dc An nl nc Aa al ac) (hm : CMaps w) (hs : zt w As sl scope) (hsl : sl <= sc) (hsc : sc <= maxLen) (hk : h.kind = 13) : NamedSays w cs h As sl sc scope := by
 obtain ⟨k, df, S, N, names⟩ := h
 obtain ⟨rfl, hkr, hnr, hS, hdf, hns, hes, hn1, hn2, ha1, ha2⟩ := hx
 simp only at hk hS hns hes
 subst hk
 have hnl : nl <= 9223372036854775807 := by unfold maxLen at hn2; omega
 clear hkr hdf ha1 ha2
 unfold NamedSays
 have HC := Lib.hid (show namedB 13 N S names scope = freeB S from rfl)
 have HM := Lib.hid hm
 clear hm hns hes hs
 (go_enter Tryz.func61, Tryz.ntmps61; go_wp2_with fail)
 refine (free_code S hS _ (HM.out.um.below ((Below.refl _ _).alloc (Nat.le_refl _) _))).mono ?_
 rintro e w1 ⟨rfl, hb1⟩
 have HB1 := Lib.hid (box_below hb1)
 clear hb1
 go_wp2_with fail
 go_ret
 exact ⟨zj HC.out.symm, HB1.out⟩
set_option maxHeartbeats 1000000 in
theorem named_14 {w : World} {cs : List Value} {h : ExHead} {dk dn : Int} {ds : ByteArray} {dA : Option Addr} {dl dc : Nat} {An : Option Addr} {nl nc : Nat} {Aa : Option Addr} {al ac : Nat} {As : Option Addr} {sl sc : Nat} {scope : List ByteArray} (hx : ExC enc w cs h dk dn ds dA dl dc An nl nc Aa al ac) (hm : CMaps w) (hs : zt w As sl scope) (hsl : sl <= sc) (hsc : sc <= maxLen) (hk : h.kind = 14) : NamedSays w cs h As sl sc scope := by
 obtain ⟨k, df, S, N, names⟩ := h
 obtain ⟨rfl, hkr, hnr, hS, hdf, hns, hes, hn1, hn2, ha1, ha2⟩ := hx
 simp only at hk hS hns hes
 subst hk
 have hnl : nl <= 9223372036854775807 := by unfold maxLen at hn2; omega
 clear hkr hdf ha1 ha2
 unfold NamedSays
 have HC := Lib.hid (show namedB 14 N S names scope = freeB S from rfl)
 have HM := Lib.hid hm
 clear hm hns hes hs
 (go_enter Tryz.func61, Tryz.ntmps61; go_wp2_with fail)
 refine (free_code S hS _ (HM.out.um.below ((Below.refl _ _).alloc (Nat.le_refl _) _))).mono ?_
 rintro e w1 ⟨rfl, hb1⟩
 have HB1 := Lib.hid (box_below hb1)
 clear hb1
 go_wp2_with fail
 go_ret
 exact ⟨zj HC.out.symm, HB1.out⟩
set_option maxHeartbeats 1000000 in
theorem named_2 {w : World} {cs : List Value} {h : ExHead} {dk dn : Int} {ds : ByteArray} {dA : Option Addr} {dl dc : Nat} {An : Option Addr} {nl nc : Nat} {Aa : Option Addr} {al ac : Nat} {As : Option Addr} {sl sc : Nat} {scope : List ByteArray} (hx : ExC enc w cs h dk dn ds dA dl dc An nl nc Aa al ac) (hm : CMaps w) (hs : zt w As sl scope) (hsl : sl <= sc) (hsc : sc <= maxLen) (hk : h.kind = 2) : NamedSays w cs h As sl sc scope := by
 obtain ⟨k, df, S, N, names⟩ := h
 obtain ⟨rfl, hkr, hnr, hS, hdf, hns, hes, hn1, hn2, ha1, ha2⟩ := hx
 simp only at hk hS hns hes
 subst hk
 have hnl : nl <= 9223372036854775807 := by unfold maxLen at hn2; omega
 clear hkr hdf ha1 ha2
 unfold NamedSays
 have HC := Lib.hid (show namedB 2 N S names scope = inL scope S from rfl)
 have HS := Lib.hid hs
 clear hm hns hes hs
 (go_enter Tryz.func61, Tryz.ntmps61; go_wp2_with fail)
 refine (contains_any S As sl sc scope _ hsc hsl (HS.out.below ((Below.refl _ _).alloc (Nat.le_refl _) _))).mono ?_
 rintro e w1 ⟨rfl, rfl⟩
 go_wp2_with fail
 go_ret
 exact ⟨zj HC.out.symm, by (exact (Below.refl _ _).alloc (Nat.le_refl _) _)⟩
set_option maxHeartbeats 1000000 in
theorem named_8 {w : World} {cs : List Value} {h : ExHead} {dk dn : Int} {ds : ByteArray} {dA : Option Addr} {dl dc : Nat} {An : Option Addr} {nl nc : Nat} {Aa : Option Addr} {al ac : Nat} {As : Option Addr} {sl sc : Nat} {scope : List ByteArray} (hx : ExC enc w cs h dk dn ds dA dl dc An nl nc Aa al ac) (hm : CMaps w) (hs : zt w As sl scope) (hsl : sl <= sc) (hsc : sc <= maxLen) (hk : h.kind = 8) : NamedSays w cs h As sl sc scope := by
 obtain ⟨k, df, S, N, names⟩ := h
 obtain ⟨rfl, hkr, hnr, hS, hdf, hns, hes, hn1, hn2, ha1, ha2⟩ := hx
 simp only at hk hS hns hes
 subst hk
 have hnl : nl <= 9223372036854775807 := by unfold maxLen at hn2; omega
 clear hkr hdf ha1 ha2
 unfold NamedSays
 have HC := Lib.hid (show namedB 8 N S names scope = ((decide (N = 0) && freeB S) || (decide (N = 1) && inL scope S)) from rfl)
 have HS := Lib.hid hs
 have HM := Lib.hid hm
 clear hm hns hes hs
 by_cases h0 : N = 0
 ·
  subst h0
  cases hf : freeB S
  all_goals
   have hF := fun w hm => free_code S hS w hm
   rw [hf] at hF
   have HF := Lib.hid hf
   have HFF := Lib.hid hF
   clear hf hF
   (go_enter Tryz.func61, Tryz.ntmps61; go_wp2_with fail)
   refine (HFF.out _ (HM.out.um.below ((Below.refl _ _).alloc (Nat.le_refl _) _))).mono ?_
   rintro e w1 ⟨rfl, hb1⟩
   have c6 : w1.cell? ⟨w.heap.size, 6, none⟩ = some (.int .i64 0) := box_cell hb1 rfl
   have HB1 := Lib.hid (box_below hb1)
   clear hb1
   go_wp2_with fail
   go_ret
   exact ⟨zj (by rw [HC.out, HF.out]; rfl), HB1.out⟩
 by_cases h1 : N = 1
 ·
  subst h1
  (go_enter Tryz.func61, Tryz.ntmps61; go_wp2_with fail)
  refine (contains_any S As sl sc scope _ hsc hsl (HS.out.below ((Below.refl _ _).alloc (Nat.le_refl _) _))).mono ?_
  rintro e w1 ⟨rfl, rfl⟩
  go_wp2_with fail
  go_ret
  exact ⟨zj (by rw [HC.out]; rfl), by (exact (Below.refl _ _).alloc (Nat.le_refl _) _)⟩
 have HN := Lib.hid (And.intro (decide_eq_false h0) (decide_eq_false h1))
 (go_enter Tryz.func61, Tryz.ntmps61; go_wp2_with fail)
 go_ret
 exact ⟨zj (by rw [HC.out, HN.out.1, HN.out.2]; rfl), by (exact (Below.refl _ _).alloc (Nat.le_refl _) _)⟩
set_option maxHeartbeats 1000000 in
theorem named_5 {w : World} {cs : List Value} {h : ExHead} {dk dn : Int} {ds : ByteArray} {dA : Option Addr} {dl dc : Nat} {An : Option Addr} {nl nc : Nat} {Aa : Option Addr} {al ac : Nat} {As : Option Addr} {sl sc : Nat} {scope : List ByteArray} (hx : ExC enc w cs h dk dn ds dA dl dc An nl nc Aa al ac) (hm : CMaps w) (hs : zt w As sl scope) (hsl : sl <= sc) (hsc : sc <= maxLen) (hk : h.kind = 5) : NamedSays w cs h As sl sc scope := by
 obtain ⟨k, df, S, N, names⟩ := h
 obtain ⟨rfl, hkr, hnr, hS, hdf, hns, hes, hn1, hn2, ha1, ha2⟩ := hx
 simp only at hk hS hns hes
 subst hk
 have hnl : nl <= 9223372036854775807 := by unfold maxLen at hn2; omega
 clear hkr hdf ha1 ha2
 unfold NamedSays
 have HC := Lib.hid (show namedB 5 N S names scope = namesB names from rfl)
 have HM := Lib.hid hm
 have HNS := Lib.hid hns
 have HES := Lib.hid hes
 clear hm hns hes hs
 (go_enter Tryz.func61, Tryz.ntmps61; go_wp2_with fail)
 go_loopg [55] nl (fun g i wr => ∃ k : Nat, g = nl - k /\ k <= nl /\ i = .int .i64 k /\ wr.cell? ⟨w.heap.size, 7, none⟩ = some (.slice An nl nc) /\ w.heap.size < wr.heap.size /\ Below w.heap.size w wr /\ ∀ j, j < k -> nameAt names j = true)
 case atStart => exact ⟨0, by omega, by omega, rfl, box_cell (Below.refl _ _) rfl, by simp, (Below.refl _ _).alloc (Nat.le_refl _) _, fun j h => absurd h (by omega)⟩
 case round =>
  obtain ⟨k, hg, hk, rfl, hbox, hbs, hb, hall⟩ := hrel
  have HG := Lib.hid hg
  have HALL := Lib.hid hall
  have HBR := Lib.hid hb
  have hsz := hb.size
  clear hg hall hb
  by_cases hlt : k < nl
  ·
   obtain ⟨b, o, rfl, hbw, hrow⟩ := HNS.out.at_ (by omega)
   have hks : k < names.length := by rw [HNS.out.size]; exact hlt
   have hc : wr.cell? ⟨b, o + k, none⟩ = some (.string names[k]) := (HBR.out.cell (p := ⟨b, o + k, none⟩) hbw).trans (hrow k hks)
   have hcs : names[k].size <= maxLen := HES.out _ (List.getElem_mem hks)
   have HGD := Lib.hid (show names.getD k ByteArray.empty = names[k] from by simp [hks])
   clear hrow
   cases hn : freeB names[k]
   ·
    have HK := Lib.hid (show nameAt names k = false from by unfold nameAt; rw [HGD.out, hn]; rfl)
    have hF := fun w hm => free_code names[k] hcs w hm
    rw [hn] at hF
    have HF := Lib.hid hF
    clear hF hn
    go_wp2_with fail
    refine (HF.out _ (HM.out.um.below HBR.out)).mono ?_
    rintro e w2 ⟨rfl, hb2⟩
    have HB2 := Lib.hid (HBR.out.trans (hb2.mono hsz))
    clear hb2
    go_wp2_with fail
    go_ret
    exact ⟨zj (by rw [HC.out]; exact (namesB_no hks HK.out).symm), HB2.out⟩
   have hF := fun w hm => free_code names[k] hcs w hm
   rw [hn] at hF
   have HF := Lib.hid hF
   have HN := Lib.hid hn
   clear hF hn
   go_wp2_with fail
   refine (HF.out _ (HM.out.um.below HBR.out)).mono ?_
   rintro e w2 ⟨rfl, hb2⟩
   have hbox2 : w2.cell? ⟨w.heap.size, 7, none⟩ = some (.slice (some ⟨b, o, none⟩) nl nc) := (hb2.cell (p := ⟨w.heap.size, 7, none⟩) hbs).trans hbox
   have hbs2 : w.heap.size < w2.heap.size := Nat.lt_of_lt_of_le hbs hb2.size
   have HB2 := Lib.hid (HBR.out.trans (hb2.mono hsz))
   clear hb2
   have hst : zt w2 (some ⟨b, o, none⟩) k (names.take k) := (HNS.out.take (Nat.le_of_lt hlt)).below HB2.out
   have hcon := contains_any names[k] (some ⟨b, o, none⟩) k nc (names.take k) w2 hn2 (by omega) hst
   cases hin : inL (names.take k) names[k]
   ·
    rw [hin] at hcon
    have HCON := Lib.hid hcon
    have HK := Lib.hid (show nameAt names k = true from by unfold nameAt; rw [HGD.out, HN.out, hin]; rfl)
    clear hin hcon hst
    go_wp2_with fail
    refine HCON.out.mono ?_
    rintro e w3 ⟨rfl, rfl⟩
    go_wp2_with fail
    go_roundg (nl - (k + 1))
    case measure => have := HG.out; omega
    case rel =>
     refine ⟨k + 1, rfl, hlt, rfl, hbox2, hbs2, HB2.out, fun j hj => ?_⟩
     by_cases hjk : j = k
     ·
      subst hjk; exact HK.out
     exact HALL.out j (by omega)
   rw [hin] at hcon
   have HCON := Lib.hid hcon
   have HK := Lib.hid (show nameAt names k = false from by unfold nameAt; rw [HGD.out, HN.out, hin]; rfl)
   clear hin hcon hst
   go_wp2_with fail
   refine HCON.out.mono ?_
   rintro e w3 ⟨rfl, rfl⟩
   go_wp2_with fail
   go_ret
   exact ⟨zj (by rw [HC.out]; exact (namesB_no hks HK.out).symm), HB2.out⟩
  obtain rfl : k = nl := by omega
  go_wp2_with fail
  go_ret
  exact ⟨zj (by rw [HC.out]; exact (namesB_yes fun i hi => HALL.out i (by rw [<- HNS.out.size]; exact hi)).symm), HBR.out⟩
set_option maxHeartbeats 1000000 in
theorem named_6 {w : World} {cs : List Value} {h : ExHead} {dk dn : Int} {ds : ByteArray} {dA : Option Addr} {dl dc : Nat} {An : Option Addr} {nl nc : Nat} {Aa : Option Addr} {al ac : Nat} {As : Option Addr} {sl sc : Nat} {scope : List ByteArray} (hx : ExC enc w cs h dk dn ds dA dl dc An nl nc Aa al ac) (hm : CMaps w) (hs : zt w As sl scope) (hsl : sl <= sc) (hsc : sc <= maxLen) (hk : h.kind = 6) : NamedSays w cs h As sl sc scope := by
 obtain ⟨k, df, S, N, names⟩ := h
 obtain ⟨rfl, hkr, hnr, hS, hdf, hns, hes, hn1, hn2, ha1, ha2⟩ := hx
 simp only at hk hS hns hes
 subst hk
 have hnl : nl <= 9223372036854775807 := by unfold maxLen at hn2; omega
 clear hkr hdf ha1 ha2
 unfold NamedSays
 have HC := Lib.hid (show namedB 6 N S names scope = namesB names from rfl)
 have HM := Lib.hid hm
 have HNS := Lib.hid hns
 have HES := Lib.hid hes
 clear hm hns hes hs
 (go_enter Tryz.func61, Tryz.ntmps61; go_wp2_with fail)
 go_loopg [55] nl (fun g i wr => ∃ k : Nat, g = nl - k /\ k <= nl /\ i = .int .i64 k /\ wr.cell? ⟨w.heap.size, 7, none⟩ = some (.slice An nl nc) /\ w.heap.size < wr.heap.size /\ Below w.heap.size w wr /\ ∀ j, j < k -> nameAt names j = true)
 case atStart => exact ⟨0, by omega, by omega, rfl, box_cell (Below.refl _ _) rfl, by simp, (Below.refl _ _).alloc (Nat.le_refl _) _, fun j h => absurd h (by omega)⟩
 case round =>
  obtain ⟨k, hg, hk, rfl, hbox, hbs, hb, hall⟩ := hrel
  have HG := Lib.hid hg
  have HALL := Lib.hid hall
  have HBR := Lib.hid hb
  have hsz := hb.size
  clear hg hall hb
  by_cases hlt : k < nl
  ·
   obtain ⟨b, o, rfl, hbw, hrow⟩ := HNS.out.at_ (by omega)
   have hks : k < names.length := by rw [HNS.out.size]; exact hlt
   have hc : wr.cell? ⟨b, o + k, none⟩ = some (.string names[k]) := (HBR.out.cell (p := ⟨b, o + k, none⟩) hbw).trans (hrow k hks)
   have hcs : names[k].size <= maxLen := HES.out _ (List.getElem_mem hks)
   have HGD := Lib.hid (show names.getD k ByteArray.empty = names[k] from by simp [hks])
   clear hrow
   cases hn : freeB names[k]
   ·
    have HK := Lib.hid (show nameAt names k = false from by unfold nameAt; rw [HGD.out, hn]; rfl)
    have hF := fun w hm => free_code names[k] hcs w hm
    rw [hn] at hF
    have HF := Lib.hid hF
    clear hF hn
    go_wp2_with fail
    refine (HF.out _ (HM.out.um.below HBR.out)).mono ?_
    rintro e w2 ⟨rfl, hb2⟩
    have HB2 := Lib.hid (HBR.out.trans (hb2.mono hsz))
    clear hb2
    go_wp2_with fail
    go_ret
    exact ⟨zj (by rw [HC.out]; exact (namesB_no hks HK.out).symm), HB2.out⟩
   have hF := fun w hm => free_code names[k] hcs w hm
   rw [hn] at hF
   have HF := Lib.hid hF
   have HN := Lib.hid hn
   clear hF hn
   go_wp2_with fail
   refine (HF.out _ (HM.out.um.below HBR.out)).mono ?_
   rintro e w2 ⟨rfl, hb2⟩
   have hbox2 : w2.cell? ⟨w.heap.size, 7, none⟩ = some (.slice (some ⟨b, o, none⟩) nl nc) := (hb2.cell (p := ⟨w.heap.size, 7, none⟩) hbs).trans hbox
   have hbs2 : w.heap.size < w2.heap.size := Nat.lt_of_lt_of_le hbs hb2.size
   have HB2 := Lib.hid (HBR.out.trans (hb2.mono hsz))
   clear hb2
   have hst : zt w2 (some ⟨b, o, none⟩) k (names.take k) := (HNS.out.take (Nat.le_of_lt hlt)).below HB2.out
   have hcon := contains_any names[k] (some ⟨b, o, none⟩) k nc (names.take k) w2 hn2 (by omega) hst
   cases hin : inL (names.take k) names[k]
   ·
    rw [hin] at hcon
    have HCON := Lib.hid hcon
    have HK := Lib.hid (show nameAt names k = true from by unfold nameAt; rw [HGD.out, HN.out, hin]; rfl)
    clear hin hcon hst
    go_wp2_with fail
    refine HCON.out.mono ?_
    rintro e w3 ⟨rfl, rfl⟩
    go_wp2_with fail
    go_roundg (nl - (k + 1))
    case measure => have := HG.out; omega
    case rel =>
     refine ⟨k + 1, rfl, hlt, rfl, hbox2, hbs2, HB2.out, fun j hj => ?_⟩
     by_cases hjk : j = k
     ·
      subst hjk; exact HK.out
     exact HALL.out j (by omega)
   rw [hin] at hcon
   have HCON := Lib.hid hcon
   have HK := Lib.hid (show nameAt names k = false from by unfold nameAt; rw [HGD.out, HN.out, hin]; rfl)
   clear hin hcon hst
   go_wp2_with fail
   refine HCON.out.mono ?_
   rintro e w3 ⟨rfl, rfl⟩
   go_wp2_with fail
   go_ret
   exact ⟨zj (by rw [HC.out]; exact (namesB_no hks HK.out).symm), HB2.out⟩
  obtain rfl : k = nl := by omega
  go_wp2_with fail
  go_ret
  exact ⟨zj (by rw [HC.out]; exact (namesB_yes fun i hi => HALL.out i (by rw [<- HNS.out.size]; exact hi)).symm), HBR.out⟩
theorem named_any {w : World} {cs : List Value} {h : ExHead} {dk dn : Int} {ds : ByteArray} {dA : Option Addr} {dl dc : Nat} {An : Option Addr} {nl nc : Nat} {Aa : Option Addr} {al ac : Nat} {As : Option Addr} {sl sc : Nat} {scope : List ByteArray} (hx : ExC enc w cs h dk dn ds dA dl dc An nl nc Aa al ac) (hm : CMaps w) (hs : zt w As sl scope) (hsl : sl <= sc) (hsc : sc <= maxLen) (hk : ¬ (h.kind < 1 \/ 15 < h.kind)) : NamedSays w cs h As sl sc scope := by
 rcases kinds hk with hk | hk | hk | hk | hk | hk | hk | hk | hk | hk | hk | hk | hk | hk | hk
 ·
  exact named_1 hx hm hs hsl hsc hk
 ·
  exact named_2 hx hm hs hsl hsc hk
 ·
  exact named_3 hx hm hs hsl hsc hk
 ·
  exact named_4 hx hm hs hsl hsc hk
 ·
  exact named_5 hx hm hs hsl hsc hk
 ·
  exact named_6 hx hm hs hsl hsc hk
 ·
  exact named_7 hx hm hs hsl hsc hk
 ·
  exact named_8 hx hm hs hsl hsc hk
 ·
  exact named_9 hx hm hs hsl hsc hk
 ·
  exact named_10 hx hm hs hsl hsc hk
 ·
  exact named_11 hx hm hs hsl hsc hk
 ·
  exact named_12 hx hm hs hsl hsc hk
 ·
  exact named_13 hx hm hs hsl hsc hk
 ·
  exact named_14 hx hm hs hsl hsc hk
 exact named_15 hx hm hs hsl hsc hk
end
/- Contract of slices.Clone at []string, whatever the slice. -/
theorem clone_any (A : Option Addr) (len cap : Nat) (ss : List ByteArray) (w : World) (hs : zt w A len ss) (hl : len <= 1099511627776) :
  Calls Tryz.prog 63 #[.slice A len cap] w fun e w' => ∃ v, e = .returned v /\ w'.ownsRow w.heap.size 9 1 v len (ss.map Value.string) /\ Below w.heap.size w w' := by
 rcases Nat.eq_zero_or_pos len with h0 | h0
 ·
  subst h0
  have hss : ss = [] := List.length_eq_zero_iff.1 hs.size
  subst hss
  cases A with
  | none =>
   refine (Tryz.slices_Clone_string_nil 0 cap w).mono ?_
   rintro e w' ⟨rfl, rfl⟩
   exact ⟨_, rfl, World.ownsRow_nil _ _ _ _, Below.refl _ _⟩
  | some a =>
   refine (Tryz.slices_Clone_string_zero a cap w).mono ?_
   rintro e w' ⟨v, rfl, h1, _, h2⟩
   exact ⟨v, rfl, h1, h2⟩
 obtain ⟨b, o, rfl, hb, hrow⟩ := hs.at_ h0
 have hsz := hs.size
 refine (Tryz.slices_Clone_string b o len cap ss w (by omega) (by omega) (fun j hj => by rw [hrow j hj]; simp [hj])).mono ?_
 rintro e w' ⟨v, rfl, h1, _, h2⟩
 rw [List.take_of_length_le (by omega)] at h1
 exact ⟨v, rfl, h1, h2⟩
theorem run_append_zero {w : World} {P : Program} (base : Nat) (t ty e : TypeId) (i : TypeInfo) (size : Nat) (ht : P.underlying t = some (.slice e)) (hi : P.info? e = some i)
  (v : Value) (n : Nat) (xs : List Value) (hown : w.ownsRow base e size v n xs) (A : Option Addr) (c : Nat) : (Builtin.append_ #[t, t] ty #[v, .slice A 0 c]).run P w = .ok v w := by
 rcases hown.2 with ⟨rfl, rfl⟩ | ⟨g, cap, cur, rfl, hg, hh, hr⟩
 ·
  cases A <;> simp [Builtin.append_, run_underlying ht, sizeOf, typeInfo, hi, Builtin.lenOf, Builtin.firstCells, loadCells, loadCellsFrom]
 cases A <;> simp [Builtin.append_, run_underlying ht, sizeOf, typeInfo, hi, Builtin.lenOf, Builtin.firstCells, loadCells, loadCellsFrom, hr.1, storeCells]
theorem step_append_strs {w : World} {ops : Array Oper} {o : Oper} {a : Act} {K : Act -> World -> Prop} {Q : Exit -> Act -> World -> Prop} {E : Prop} (hgd : o.guard = none) (s x : Operand)
  (ho : o.op = .call { callee := .builtin .append, args := #[s, x], argTypes := #[25, 25] })
  (base : Nat) (v : Value) (n : Nat) (xs : List Value) (hs : a.eval s = v) (hown : w.ownsRow base 9 1 v n xs)
  (A : Option Addr) (m c : Nat) (names : List ByteArray) (hx : a.eval x = .slice A m c) (hst : zt w A m names)
  (hnm : n + m <= 1099511627776) (hbase : base <= w.heap.size)
  (h : ∀ v' w', w'.ownsRow base 9 1 v' (n + m) (xs ++ names.map Value.string) -> Below base w w' -> K (a.put o.dst v') w') :
  if Region.wanted o (yielded ops a.tmps) = true then Oper.wp Tryz.prog o a w K Q else E := by
 have hw : Region.wanted o (yielded ops a.tmps) = true := by simp [Region.wanted, hgd]
 rw [if_pos hw]
 obtain ⟨i0, hi, hz0, hz1, hz2⟩ := info_parts infoString
 cases A with
 | none =>
  have hm : m = 0 := by
   rcases Nat.eq_zero_or_pos m with h0 | h0
   ·
    exact h0
   obtain ⟨b, o, hA, _⟩ := hst.at_ h0
   cases hA
  subst hm
  have hnn : names = [] := List.length_eq_zero_iff.1 hst.size
  subst hnn
  have hr := run_append_zero (P := Tryz.prog) base 25 o.type 9 i0 1 Tryz.underlying25 hi v n xs hown none c
  unfold Oper.wp execOp
  simp only [ho, resolve, invoke, builtin, Sem.run_bind, Sem.run_pure, Result.andThen_ok, List.map_toArray, List.map_cons, List.map_nil, hs, hx, hr]
  exact h v w (by simpa using hown) (Below.refl _ _)
 | some ad =>
  refine wp_append_own w s x 25 ho base 9 i0 _ 1 16 Tryz.underlying25 hi hz0 hz1 hz2 rfl (by decide) v n xs hs hown ad m c (names.map Value.string) hx (by simp [hst.size]) ?_ ?_ (by unfold maxLen; omega) (by omega) hbase fun v' w' h1 h2 _ => h v' w' h1 ((Below.refl _ _).grown h2 hbase (zq hown))
  ·
   intro j u hj
   have hjl : j < names.length := by
    have := List.getElem?_eq_some_iff.1 hj
    simpa using this.1
   obtain ⟨b, o', hA, hb, hrow⟩ := hst.at_ (by rw [<- hst.size]; omega)
   cases hA
   have h1 := hrow j hjl
   have h2 : (Addr.add ⟨b, o', none⟩ j) = ⟨b, o' + j, none⟩ := by unfold Addr.add; by_cases h0 : j = 0 <;> simp [h0]
   rw [h2, h1]
   simpa [hjl] using hj
  intro u hu
  obtain ⟨s', _, rfl⟩ := List.mem_map.1 hu
  rfl
/- What code.check and grafteryref.exprFault answer of an expression's tree. -/
def inB2 (k : Int) (i n : Nat) : Bool := decide (k = 6) || (decide (k = 5) && decide (i + 1 = n))
def exprF : (n : Nat) -> Tr n -> List ByteArray -> Int -> Int
 | 0, _, _, _ => 0
 | n + 1, x, sc, o =>
  if x.1.kind < 1 \/ 15 < x.1.kind then 3
  else if countB x.1.kind x.2.length x.1.S x.1.names = false then 10
  else if namedB x.1.kind x.1.N x.1.S x.1.names sc = false then 6
  else if (x.1.kind = 1 /\ x.1.df ≠ 0) \/ (x.1.kind = 15 /\ (x.1.N < 0 \/ o <= x.1.N)) then 4
  else if 0 <= o /\ x.1.kind ≠ 1 /\ x.1.kind ≠ 4 /\ x.1.kind ≠ 10 /\ x.1.kind ≠ 15 then 15
  else firstErr (x.2.zipIdx.map fun p => if inB2 x.1.kind p.2 x.2.length then (if 40 < sc.length + x.1.names.length then 1 else exprF n p.1 (sc ++ x.1.names) o) else exprF n p.1 sc o)
def argF {n : Nat} (x : Tr (n + 1)) (sc : List ByteArray) (o : Int) (i : Nat) (hi : i < x.2.length) : Int :=
 if inB2 x.1.kind i x.2.length then (if 40 < sc.length + x.1.names.length then 1 else exprF n x.2[i] (sc ++ x.1.names) o) else exprF n x.2[i] sc o
section
variable {n : Nat} {x : Tr (n + 1)} {sc : List ByteArray} {o : Int}
theorem exprF_kind (h : x.1.kind < 1 \/ 15 < x.1.kind) : exprF (n + 1) x sc o = 3 := by
 unfold exprF; rw [if_pos h]
theorem exprF_count (h : ¬ (x.1.kind < 1 \/ 15 < x.1.kind)) (hc : countB x.1.kind x.2.length x.1.S x.1.names = false) : exprF (n + 1) x sc o = 10 := by
 unfold exprF; rw [if_neg h, if_pos hc]
structure Fine (x : Tr (n + 1)) (sc : List ByteArray) : Prop where
 kind : ¬ (x.1.kind < 1 \/ 15 < x.1.kind)
 count : countB x.1.kind x.2.length x.1.S x.1.names = true
 named : namedB x.1.kind x.1.N x.1.S x.1.names sc = true
theorem exprF_named (h : ¬ (x.1.kind < 1 \/ 15 < x.1.kind)) (hc : countB x.1.kind x.2.length x.1.S x.1.names = true) (hn : namedB x.1.kind x.1.N x.1.S x.1.names sc = false) : exprF (n + 1) x sc o = 6 := by
 unfold exprF; rw [if_neg h, if_neg (by rw [hc]; simp), if_pos hn]
theorem exprF_form (f : Fine x sc) (h : (x.1.kind = 1 /\ x.1.df ≠ 0) \/ (x.1.kind = 15 /\ (x.1.N < 0 \/ o <= x.1.N))) : exprF (n + 1) x sc o = 4 := by
 unfold exprF; rw [if_neg f.kind, if_neg (by rw [f.count]; simp), if_neg (by rw [f.named]; simp), if_pos h]
theorem exprF_pure (f : Fine x sc) (h : 0 <= o /\ x.1.kind ≠ 1 /\ x.1.kind ≠ 4 /\ x.1.kind ≠ 10 /\ x.1.kind ≠ 15) : exprF (n + 1) x sc o = 15 := by
 unfold exprF; rw [if_neg f.kind, if_neg (by rw [f.count]; simp), if_neg (by rw [f.named]; simp), if_neg (by omega), if_pos h]
structure Own (x : Tr (n + 1)) (sc : List ByteArray) (o : Int) : Prop extends Fine x sc where
 form : ¬ ((x.1.kind = 1 /\ x.1.df ≠ 0) \/ (x.1.kind = 15 /\ (x.1.N < 0 \/ o <= x.1.N)))
 pure_ : ¬ (0 <= o /\ x.1.kind ≠ 1 /\ x.1.kind ≠ 4 /\ x.1.kind ≠ 10 /\ x.1.kind ≠ 15)
theorem exprF_args (f : Own x sc o) : exprF (n + 1) x sc o = firstErr (x.2.zipIdx.map fun p => if inB2 x.1.kind p.2 x.2.length then (if 40 < sc.length + x.1.names.length then 1 else exprF n p.1 (sc ++ x.1.names) o) else exprF n p.1 sc o) := by
 rw [exprF, if_neg f.kind, if_neg (by rw [f.count]; simp), if_neg (by rw [f.named]; simp), if_neg f.form, if_neg f.pure_]
theorem exprF_zero (f : Own x sc o) (h : ∀ i, (hi : i < x.2.length) -> argF x sc o i hi = 0) : exprF (n + 1) x sc o = 0 := by
 rw [exprF_args f]
 refine firstErr_zero fun e he => ?_
 obtain ⟨p, hp, rfl⟩ := List.mem_map.1 he
 obtain ⟨i, hi, rfl⟩ := List.mem_iff_getElem.1 hp
 have hi' : i < x.2.length := by simpa using hi
 have := h i hi'
 unfold argF at this
 simpa using this
theorem exprF_at (f : Own x sc o) {i : Nat} (hi : i < x.2.length) (h : ∀ j, (hj : j < i) -> argF x sc o j (Nat.lt_trans hj hi) = 0) (hn : argF x sc o i hi ≠ 0) : exprF (n + 1) x sc o = argF x sc o i hi := by
 rw [exprF_args f]
 have hg : ∀ j, (hj : j < (x.2.zipIdx.map fun p => if inB2 x.1.kind p.2 x.2.length then (if 40 < sc.length + x.1.names.length then 1 else exprF n p.1 (sc ++ x.1.names) o) else exprF n p.1 sc o).length) -> (hj' : j < x.2.length) -> (x.2.zipIdx.map fun p => if inB2 x.1.kind p.2 x.2.length then (if 40 < sc.length + x.1.names.length then 1 else exprF n p.1 (sc ++ x.1.names) o) else exprF n p.1 sc o)[j] = argF x sc o j hj' := by
  intro j hj hj'
  unfold argF
  simp
 rw [firstErr_at (i := i) (by simpa using hi) (fun j hj => by rw [hg j _ (Nat.lt_trans hj hi)]; exact h j hj) (by rw [hg i _ hi]; exact hn)]
 exact hg i _ hi
end
end Go.Proofs.YtfhbdlobhjegcaaGreatDoor
