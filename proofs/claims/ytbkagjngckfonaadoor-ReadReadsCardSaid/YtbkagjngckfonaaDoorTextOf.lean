/- The text of a datum, and grafteryref.datumText's contract. -/
import Derived.Test.YtbkagjngckfonaaDoorDec
import Derived.Test.YtbkagjngckfonaaDoorDatum
import Derived.Lib.UnsafeStr
import Derived.Lib.ItoaLen
import Derived.Deep.LoopGhost
namespace Go.Proofs.YtbkagjngckfonaaDoor
open Go.RowKit Go.ChangeShapes Go.WideShapes Go.Deep
set_option linter.unusedVariables false

/-- With spaces between. -/
def joinSp : List (List UInt8) → List UInt8
  | [] => []
  | x :: r => x ++ (r.map fun y => 32 :: y).flatten
theorem joinSp_snoc (l : List (List UInt8)) (x : List UInt8) : joinSp (l ++ [x]) = joinSp l ++ (if l = [] then x else 32 :: x) := by
  cases l with
  | nil => simp [joinSp]
  | cons a r => simp [joinSp]
theorem joinSp_take (l : List (List UInt8)) (k : Nat) (hk : k < l.length) : joinSp (l.take (k + 1)) = joinSp (l.take k) ++ (if k = 0 then l[k] else 32 :: l[k]) := by
  rw [List.take_succ_eq_append_getElem hk, joinSp_snoc]
  congr 1
  by_cases h : k = 0
  · subst h; simp
  · rw [if_neg h, if_neg]
    intro e
    have h2 : (l.take k).length = 0 := by rw [e]; rfl
    rw [List.length_take] at h2
    omega
theorem joinSp_mono (l : List (List UInt8)) : ∀ (j k : Nat), (joinSp (l.take k)).length ≤ (joinSp (l.take (k + j))).length
  | 0, k => Nat.le_refl _
  | j + 1, k => by
    refine Nat.le_trans (joinSp_mono l j k) ?_
    by_cases h : k + j < l.length
    · rw [← Nat.add_assoc, joinSp_take l (k + j) h, List.length_append]; omega
    · rw [List.take_of_length_le (by omega), List.take_of_length_le (by omega)]; exact Nat.le_refl _
theorem joinSp_le (l : List (List UInt8)) (k : Nat) : (joinSp (l.take k)).length ≤ (joinSp l).length := by
  have h := joinSp_mono l l.length k
  rwa [List.take_of_length_le (i := k + l.length) (by omega)] at h

theorem glue1 (P : List UInt8) : Value.string ((⟨P.toArray⟩ : ByteArray) ++ ⟨#[41]⟩) = .string ⟨(P ++ [41]).toArray⟩ := by rw [show (⟨#[41]⟩ : ByteArray) = ⟨[41].toArray⟩ from rfl, ByteArray.mk_append_mk]
theorem glue2 (P X : List UInt8) : Value.string ((⟨P.toArray⟩ : ByteArray) ++ ⟨X.toArray⟩) = .string ⟨(P ++ X).toArray⟩ := by rw [ByteArray.mk_append_mk]
theorem glue3 (P X : List UInt8) : Value.string (((⟨P.toArray⟩ : ByteArray) ++ ⟨#[32]⟩) ++ ⟨X.toArray⟩) = .string ⟨(P ++ 32 :: X).toArray⟩ := by
  rw [show (⟨#[32]⟩ : ByteArray) = ⟨[32].toArray⟩ from rfl, ByteArray.mk_append_mk, ByteArray.mk_append_mk, List.append_assoc]
  rfl
section
variable {H : Type} {enc : TypeId × Value → H}

/-- P1.3: the text of a datum, so many levels looked at. -/
def textN : Nat → DataW H → List UInt8
  | 0, _ => []
  | r + 1, d =>
    if dKind d = 1 then Lib.itoa (dN d) else if dKind d = 2 then (if dN d = 1 then [35, 116] else [35, 102]) else if dKind d = 3 then dS d
    else 40 :: (joinSp ((dItems d).map (textN r)) ++ [41])
theorem text1 {r : Nat} {n : Int} {s : List UInt8} {it : DataW H} : textN (r + 1) (.agg [.lit (.int .i64 1), .lit (.int .i64 n), .lit (.string s), it]) = Lib.itoa n := rfl
theorem text2 {r : Nat} {n : Int} {s : List UInt8} {it : DataW H} : textN (r + 1) (.agg [.lit (.int .i64 2), .lit (.int .i64 n), .lit (.string s), it]) = (if n = 1 then [35, 116] else [35, 102]) := rfl
theorem text3 {r : Nat} {n : Int} {s : List UInt8} {it : DataW H} : textN (r + 1) (.agg [.lit (.int .i64 3), .lit (.int .i64 n), .lit (.string s), it]) = s := rfl
theorem text4 {r : Nat} {n : Int} {s : List UInt8} {it : DataW H} : textN (r + 1) (.agg [.lit (.int .i64 4), .lit (.int .i64 n), .lit (.string s), it]) = 40 :: (joinSp ((elems it).map (textN r)) ++ [41]) := rfl

theorem firstErr_all {l : List Int} (h : firstErr l = 0) : ∀ x ∈ l, x = 0 := by
  induction l with
  | nil => simp
  | cons a l ih =>
    rw [firstErr] at h
    by_cases ha : a = 0
    · rw [if_pos ha] at h
      intro x hx
      rcases List.mem_cons.1 hx with rfl | hx
      · exact ha
      · exact ih h x hx
    · rw [if_neg ha] at h
      exact absurd h ha
/-- What a datum without fault is. -/
theorem fault_good {r : Nat} {k n : Int} {s : List UInt8} {it : DataW H} (h : fault (r + 1) (.agg [.lit (.int .i64 k), .lit (.int .i64 n), .lit (.string s), it]) = 0) :
    (1 ≤ k ∧ k ≤ 4) ∧ (k = 1 → -1099511627776 ≤ n ∧ n ≤ 1099511627776) ∧ (k = 2 → n = 0 ∨ n = 1) ∧ ∀ x ∈ elems it, fault r x = 0 := by
  have h1 : 1 ≤ k ∧ k ≤ 4 := by
    by_cases hk : k < 1 ∨ 4 < k
    · rw [fault_mk_kind hk] at h; cases h
    · omega
  have h2 : headFault k n (nameB s) s.length (elems it).length = 0 := by
    by_cases he : headFault k n (nameB s) s.length (elems it).length = 0
    · exact he
    · rw [fault_mk_bad h1 rfl he] at h; exact absurd h he
  have h3 : ¬ ((k = 1 ∧ (n < -1099511627776 ∨ 1099511627776 < n)) ∨ (k = 2 ∧ (n < 0 ∨ 1 < n))) := fun hh => by rw [hf2 hh] at h2; cases h2
  refine ⟨h1, fun hk => by omega, fun hk => by omega, fun x hx => ?_⟩
  rw [fault_mk_ok h1 h2] at h
  exact firstErr_all h _ (List.mem_map.2 ⟨x, hx, rfl⟩)
theorem fault_zero (d : DataW H) : fault 0 d ≠ 0 := by
  simp only [fault]
  split <;> decide

def StrIs (l : List UInt8) (w : World) (e : Ending) (w' : World) : Prop := e = .returned (.string ⟨l.toArray⟩) ∧ Below w.heap.size w w'

set_option maxHeartbeats 4000000 in
set_option maxRecDepth 20000 in
theorem datumText_any (r : Nat) : ∀ (w : World) (cs : List Value) (d : DataW H), Rd enc w 24 cs d → fault r d = 0 → (textN r d).length ≤ 4611686018427387904 →
    Calls Tryd.prog 14 #[.agg cs.toArray] w (StrIs (textN r d) w) := by
  induction r with
  | zero => intro w cs d _ h; exact absurd h (fault_zero d)
  | succ r ih =>
    intro w cs d hd hf hlen
    obtain ⟨k, n, s, A, len, cap, it, rfl, rfl, hk, hn, hs, hA⟩ := hd.datum
    obtain ⟨hk14, hk1, hk2, hall⟩ := fault_good hf
    have IH := Lib.hid ih
    have HA := Lib.hid hA
    have HALL := Lib.hid hall
    have hw0 : Below w.heap.size w (w.alloc (.cells #[.int .i64 k, .int .i64 n, .string s, .slice A len cap] 24)) := (Below.refl _ _).alloc (Nat.le_refl _) _
    have hln : len ≤ 9223372036854775807 := by have := hA.le; have := hA.wide; unfold maxLen at this; omega
    clear hd hf ih hA hall hk hs
    obtain rfl | rfl | rfl | rfl : k = 1 ∨ k = 2 ∨ k = 3 ∨ k = 4 := by omega
    · rw [text1] at hlen ⊢
      obtain ⟨q1, q2⟩ := hk1 rfl
      clear hk14 hk1 hk2 hlen
      go_enter Tryd.func14, Tryd.ntmps14
      go_wp2_with fail
      refine (dec_any n q1 q2 _).mono ?_
      rintro e w1 ⟨rfl, hb1⟩
      have HB := Lib.hid (hw0.trans (hb1.mono hw0.size))
      clear hb1 hw0
      go_wp2_with fail
      go_ret
      exact ⟨rfl, HB.out⟩
    · rw [text2]
      obtain rfl | rfl : n = 0 ∨ n = 1 := hk2 rfl
      all_goals
        clear hk14 hk1 hk2 hlen
        go_enter Tryd.func14, Tryd.ntmps14
        go_wp2_with fail
        go_ret
        exact ⟨rfl, hw0⟩
    · rw [text3]
      clear hk14 hk1 hk2 hlen
      go_enter Tryd.func14, Tryd.ntmps14
      go_wp2_with fail
      go_ret
      exact ⟨rfl, hw0⟩
    · rw [text4] at hlen ⊢
      clear hk14 hk1 hk2
      have HW := Lib.hid hw0
      obtain ⟨L, hL⟩ : ∃ L, (elems it).map (textN r) = L := ⟨_, rfl⟩
      rw [hL] at hlen ⊢
      have hLl : L.length = len := by rw [← hL, List.length_map]; exact HA.out.size
      have hjl : (joinSp L).length + 2 ≤ 4611686018427387904 := by simpa using hlen
      have HLL := Lib.hid hLl
      have HL := Lib.hid hL
      have HJ := Lib.hid hjl
      clear hL hLl hlen hjl hw0
      go_enter Tryd.func14, Tryd.ntmps14
      go_wp2_with fail
      go_loopg [3, 4] len (fun g s i wr => ∃ k : Nat, g = len - k ∧ k ≤ len ∧ i = .int .i64 k ∧ s = .string ⟨(40 :: joinSp (L.take k)).toArray⟩ ∧ Below w.heap.size w wr ∧ wr.cell? ⟨w.heap.size, 3, none⟩ = some (.slice A len cap))
      case atStart => exact ⟨0, by omega, by omega, rfl, rfl, HW.out, by simp⟩
      case round =>
        obtain ⟨k, hg, hk, rfl, rfl, hb, hc3⟩ := hrel
        have HG := Lib.hid hg
        have HB := Lib.hid hb
        have hwr : w.heap.size < wr.heap.size := by
          have := World.block_lt_of_cell? wr _ hc3
          exact this
        clear hg
        obtain ⟨P, hP⟩ : ∃ P, (40 :: joinSp (L.take k)) = P := ⟨_, rfl⟩
        have hPl : P.length ≤ 4611686018427387903 := by
          rw [← hP]
          have := joinSp_le L k
          have := HJ.out
          simp only [List.length_cons]
          omega
        rw [hP]
        have HPE := Lib.hid hP
        clear hP
        by_cases hlt : k < len
        · obtain ⟨b, o, rfl, hbw, hrow⟩ := HA.out.at_ (by omega)
          have hkl : k < (elems it).length := by rw [HA.out.size]; exact hlt
          obtain ⟨cs', hcl, hrw, hrd⟩ := hrow k hkl
          clear hrow
          have hft : fault r (elems it)[k] = 0 := HALL.out _ (List.getElem_mem hkl)
          have hkL : k < L.length := by rw [HLL.out]; exact hlt
          have hLk : L[k] = textN r (elems it)[k] := by
            have e := HL.out
            subst e
            simp
          have hsn := joinSp_take L k hkL
          have hle1 := joinSp_le L (k + 1)
          obtain ⟨D, hD⟩ : ∃ D, (elems it)[k] = D := ⟨_, rfl⟩
          rw [hD] at hrd hft hLk
          obtain ⟨k', n', s', A', len', cap', it', rfl, hd', hk', hn', hs', hsl'⟩ := hrd.datum
          have hrw' := hrw.below hb hbw
          have c0 : wr.cell? ⟨b, o + k * 4, none⟩ = some (.int .i64 k') := hrw' 0 (by simp)
          have c1 : wr.cell? ⟨b, o + k * 4 + 1, none⟩ = some (.int .i64 n') := hrw' 1 (by simp)
          have c2 : wr.cell? ⟨b, o + k * 4 + 2, none⟩ = some (.string s') := hrw' 2 (by simp)
          have c3 : wr.cell? ⟨b, o + k * 4 + 3, none⟩ = some (.slice A' len' cap') := hrw' 3 (by simp)
          obtain ⟨X, hX⟩ : ∃ X, textN r D = X := ⟨_, rfl⟩
          have HX := Lib.hid hX
          have hXl : P.length + 1 + X.length ≤ 4611686018427387904 ∧ X.length ≤ 4611686018427387904 := by
            have h1 := HJ.out
            have h2 := congrArg List.length HPE.out
            simp only [List.length_cons] at h2
            rw [hsn, hLk, hX, List.length_append] at hle1
            split at hle1
            · omega
            · simp only [List.length_cons] at hle1; omega
          have HRD := Lib.hid (hrd.below readableDatum rowDatum hb)
          have HFT := Lib.hid hft
          have HSN := Lib.hid hsn
          have HLK := Lib.hid (hLk.trans hX)
          obtain ⟨hX1, hX2⟩ := hXl
          have y3 : (0 : Int) ≤ (k : Int) := Int.natCast_nonneg _
          have y4 : (k : Int) < (len : Int) := by omega
          have y5 : (k : Int) < (cap : Int) := by have := HA.out.le; omega
          clear hrw hrw' hrd hd' hsl' hcl hft hLk hsn hle1 hD hX hb
          by_cases hk0 : k = 0
          · subst hk0
            simp only [Nat.zero_mul, Nat.add_zero] at c0 c1 c2 c3
            have hneg : ¬ 9223372036854775807 < P.length + X.length := by omega
            go_wp2_with fail
            refine (IH.out _ [.int .i64 k', .int .i64 n', .string s', .slice A' len' cap'] D HRD.out HFT.out (by rw [HX.out]; omega)).mono ?_
            rw [HX.out]
            rintro e w1 ⟨rfl, hb1⟩
            have c3' : w1.cell? ⟨w.heap.size, 3, none⟩ = some (.slice (some ⟨b, o, none⟩) len cap) := (hb1.cell (p := ⟨w.heap.size, 3, none⟩) hwr).trans hc3
            have HB1 := Lib.hid (HB.out.trans (hb1.mono HB.out.size))
            clear hb1
            go_wp2_with fail
            go_roundg (len - (0 + 1))
            case measure => have := HG.out; omega
            case rel => exact ⟨0 + 1, rfl, by omega, by go_num, by rw [HSN.out, if_pos trivial, HLK.out, glue2, ← HPE.out]; rfl, HB1.out, c3'⟩
          · have hneg : ¬ 9223372036854775807 < P.length + 1 := by omega
            have hneg2 : ¬ 9223372036854775807 < P.length + 1 + X.length := by omega
            have hk0' : (0 : Int) < (k : Int) := by omega
            go_wp2_with fail
            refine (IH.out _ [.int .i64 k', .int .i64 n', .string s', .slice A' len' cap'] D HRD.out HFT.out (by rw [HX.out]; omega)).mono ?_
            rw [HX.out]
            rintro e w1 ⟨rfl, hb1⟩
            have c3' : w1.cell? ⟨w.heap.size, 3, none⟩ = some (.slice (some ⟨b, o, none⟩) len cap) := (hb1.cell (p := ⟨w.heap.size, 3, none⟩) hwr).trans hc3
            have HB1 := Lib.hid (HB.out.trans (hb1.mono HB.out.size))
            clear hb1
            go_wp2_with fail
            go_roundg (len - (k + 1))
            case measure => have := HG.out; omega
            case rel => exact ⟨k + 1, rfl, by omega, by go_num, by rw [HSN.out, if_neg hk0, HLK.out, glue3, ← HPE.out]; rfl, HB1.out, c3'⟩
        · obtain rfl : len = k := by omega
          have hneg : ¬ 9223372036854775807 < P.length + 1 := by omega
          clear hb
          go_wp2_with fail
          go_ret
          exact ⟨by have h := HPE.out; rw [List.take_of_length_le (by rw [HLL.out]; exact Nat.le_refl _)] at h; rw [← h]; exact congrArg Ending.returned (glue1 _), HB.out⟩
end
end Go.Proofs.YtbkagjngckfonaaDoor
