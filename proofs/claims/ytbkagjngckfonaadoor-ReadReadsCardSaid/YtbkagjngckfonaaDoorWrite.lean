/- Contract of read.write: a datum's text is written into a builder. -/
import Derived.Test.YtbkagjngckfonaaDoorTextOf
import Derived.Test.YtbkagjngckfonaaDoorBld
import Derived.Lib.LaidTab
namespace Go.Proofs.YtbkagjngckfonaaDoor
open Go.RowKit Go.ChangeShapes Go.WideShapes Go.Deep
set_option linter.unusedVariables false

theorem grown_of_below' {w w' : World} (hb : Below w.heap.size w w') (row : Option Nat) : w.grownBy w' row := ⟨hb.os, hb.tape, hb.output, hb.size, fun i hi _ => hb.block i hi⟩
/-- A builder stays where memory that was there stays. -/
theorem bldAt_new {B b : Nat} {p : Value} {bs : List Value} {w w' : World} (h : Lib.BuilderAt 37 5 B b p bs w) (hb : Below w.heap.size w w') : Lib.BuilderAt 37 5 B b p bs w' := by
  have hlt := h.lt
  obtain ⟨hB, v, hbk, hown, hne⟩ := h
  exact ⟨hB, v, (hb.block b hlt).trans hbk, hown.kept (grown_of_below' hb none) (by cases v.ownBlock <;> simp), hne⟩
theorem bld_new {B b : Nat} {bs : List Value} {w w' : World} (h : Bld B b bs w) (hb : Below w.heap.size w w') : Bld B b bs w' := by
  rcases h with h | h
  · exact Or.inl (bldAt_new h hb)
  · exact Or.inr (bldAt_new h hb)
theorem bld_lt {B b : Nat} {bs : List Value} {w : World} (h : Bld B b bs w) : B ≤ b ∧ b < w.heap.size := by
  rcases h with h | h
  · exact ⟨h.1, h.lt⟩
  · exact ⟨h.1, h.lt⟩

theorem kept_of_below {b : Nat} {w w' : World} (hb : Below w.heap.size w w') : Kept b w w' := fun k o hk _ _ => (hb.block k (Array.getElem?_eq_some_iff.1 hk).1).trans hk
/-- The table that Itoa reads. -/
def Tab (w : World) : Prop := Lib.TabIs Tryd.prog w "internal/strconv.uint64pow10" .u64 Lib.pow10Tab
theorem tab_at {w w' : World} {B : Nat} (h : Tab w) (hb : Below B w w') (hB : w.heap.size ≤ B) : Tab w' := by
  unfold Tab Lib.TabIs World.var? at h ⊢
  cases hg : Tryd.prog.globalNamed "internal/strconv.uint64pow10" with
  | none => rw [hg] at h; cases h
  | some g =>
  rw [hg] at h
  simp only [Option.bind_some] at h ⊢
  have hlt : g < w.heap.size := by
    rcases Nat.lt_or_ge g w.heap.size with h' | h'
    · exact h'
    · rw [Array.getElem?_eq_none h'] at h; cases h
  rw [hb.block g (by omega)]
  exact h
theorem Tab.below {w w' : World} (h : Tab w) (hb : Below w.heap.size w w') : Tab w' := tab_at h hb (Nat.le_refl _)
theorem below_grow' (w : World) (k : Nat) (os : Array Obj) : Below w.heap.size w (Sort.grow (w.drewN k) os) := by
  refine ⟨rfl, rfl, rfl, ?_, fun i hi => ?_⟩
  · show w.heap.size ≤ (w.heap ++ os).size
    rw [Array.size_append]; omega
  · show (w.heap ++ os)[i]? = w.heap[i]?
    exact Array.getElem?_append_left hi
theorem itoa_any (n : Int) (h0 : -9223372036854775808 ≤ n) (h1 : n ≤ 9223372036854775807) (w : World) (ht : Tab w) : Calls Tryd.prog 23 #[.int .i64 n] w (ItoaIs n w) := by
  refine (Tryd.strconv_Itoa n h0 h1 w ht).mono ?_
  rintro e w' ⟨rfl, k, os, rfl⟩
  exact ⟨rfl, below_grow' w k os⟩

section
variable {H : Type} {enc : TypeId × Value → H}

set_option maxHeartbeats 4000000 in
set_option maxRecDepth 20000 in
theorem write_any (W0 : World) (hT : Tab W0) (r : Nat) : ∀ (b : Nat) (bs : List UInt8) (w : World) (cs : List Value) (d : DataW H), Rd enc W0 24 cs d → fault r d = 0 → Bld W0.heap.size b (Lib.byteCells bs) w → Below W0.heap.size W0 w →
    bs.length + (textN r d).length ≤ 140737488355328 →
    Calls Tryd.prog 11 #[.pointer (some ⟨b, 0, none⟩), .agg cs.toArray] w (WroteIs (.tuple #[]) W0.heap.size b (Lib.byteCells (bs ++ textN r d)) w) := by
  have HT := Lib.hid hT
  clear hT
  induction r with
  | zero => intro b bs w cs d _ h; exact absurd h (fault_zero d)
  | succ r ih =>
    intro b bs w cs d hd hf hB hbw0 hlen
    obtain ⟨k, n, s, A, len, cap, it, rfl, rfl, hk, hn, hs, hA⟩ := hd.datum
    obtain ⟨hk14, hk1, hk2, hall⟩ := fault_good hf
    have IH := Lib.hid ih
    have HA := Lib.hid hA
    have HALL := Lib.hid hall
    have hw0 : Below w.heap.size w (w.alloc (.cells #[.int .i64 k, .int .i64 n, .string s, .slice A len cap] 24)) := (Below.refl _ _).alloc (Nat.le_refl _) _
    have hln : len ≤ 9223372036854775807 := by have := hA.le; have := hA.wide; unfold maxLen at this; omega
    have HBW0 := Lib.hid hbw0
    have HKX := Lib.hid (show Kept b w (w.alloc (.cells #[.int .i64 k, .int .i64 n, .string s, .slice A len cap] 24)) from (Lib.OthersKept.refl _ _ w).alloc _)
    have HBX := Lib.hid (bld_new hB hw0)
    have HWX := Lib.hid (show Below W0.heap.size W0 (w.alloc (.cells #[.int .i64 k, .int .i64 n, .string s, .slice A len cap] 24)) from hbw0.alloc hbw0.size _)
    have HWW := Lib.hid (show Below W0.heap.size w (w.alloc (.cells #[.int .i64 k, .int .i64 n, .string s, .slice A len cap] 24)) from hw0.mono hbw0.size)
    have HB := Lib.hid hB
    clear hd hf ih hA hall hk hs hbw0 hB hw0
    obtain rfl | rfl | rfl | rfl : k = 1 ∨ k = 2 ∨ k = 3 ∨ k = 4 := by omega
    · rw [text1] at hlen ⊢
      obtain ⟨q1, q2⟩ := hk1 rfl
      have HLN := Lib.hid hlen
      clear hk14 hk1 hk2 hlen
      go_enter Tryd.func11, Tryd.ntmps11
      go_wp2_with fail
      refine (itoa_any n (by omega) (by omega) _ (tab_at HT.out HWX.out (Nat.le_refl _))).mono ?_
      rintro e w1 ⟨rfl, hb1⟩
      have HB1 := Lib.hid hb1
      clear hb1
      go_wp2_with fail
      refine (writeString_any W0.heap.size b (Lib.byteCells bs) _ _ (bld_new HBX.out HB1.out) (by rw [Lib.byteCells_length]; show bs.length + (Lib.itoa n).toArray.size ≤ _; rw [List.size_toArray]; exact HLN.out) (Nat.le_trans HWX.out.size HB1.out.size)).mono ?_
      rintro e w2 ⟨rfl, h2, hb2, hk2⟩
      have H2 := Lib.hid h2
      have HB2 := Lib.hid (HWW.out.trans ((HB1.out.mono HWX.out.size).trans hb2))
      have HK2 := Lib.hid ((HKX.out.trans (kept_of_below HB1.out)).trans hk2)
      clear h2 hb2 hk2
      go_wp2_with fail
      go_end0
      exact ⟨rfl, by rw [Lib.byteCells_append]; exact H2.out, HB2.out, HK2.out⟩
    · rw [text2] at hlen ⊢
      obtain rfl | rfl : n = 0 ∨ n = 1 := hk2 rfl
      · have i0 : ∀ w, (Instr.index 56 (.agg #[.string ⟨#[35, 102]⟩, .string ⟨#[35, 116]⟩]) (.int .i64 0)).run Tryd.prog w = .ok (.string ⟨#[35, 102]⟩) w := fun _ => by kernel_rfl
        have HLN := Lib.hid hlen
        clear hk14 hk1 hk2 hlen
        go_enter Tryd.func11, Tryd.ntmps11
        go_wp2_with fail
        refine (writeString_any W0.heap.size b (Lib.byteCells bs) ⟨#[35, 102]⟩ _ HBX.out (by rw [Lib.byteCells_length]; exact HLN.out) HWX.out.size).mono ?_
        rintro e w2 ⟨rfl, h2, hb2, hk2⟩
        have H2 := Lib.hid h2
        have HB2 := Lib.hid (HWW.out.trans hb2)
        have HK2 := Lib.hid (HKX.out.trans hk2)
        clear h2 hb2 hk2
        go_wp2_with fail
        go_end0
        exact ⟨rfl, by rw [Lib.byteCells_append]; exact H2.out, HB2.out, HK2.out⟩
      · have i1 : ∀ w, (Instr.index 56 (.agg #[.string ⟨#[35, 102]⟩, .string ⟨#[35, 116]⟩]) (.int .i64 1)).run Tryd.prog w = .ok (.string ⟨#[35, 116]⟩) w := fun _ => by kernel_rfl
        have HLN := Lib.hid hlen
        clear hk14 hk1 hk2 hlen
        go_enter Tryd.func11, Tryd.ntmps11
        go_wp2_with fail
        refine (writeString_any W0.heap.size b (Lib.byteCells bs) ⟨#[35, 116]⟩ _ HBX.out (by rw [Lib.byteCells_length]; exact HLN.out) HWX.out.size).mono ?_
        rintro e w2 ⟨rfl, h2, hb2, hk2⟩
        have H2 := Lib.hid h2
        have HB2 := Lib.hid (HWW.out.trans hb2)
        have HK2 := Lib.hid (HKX.out.trans hk2)
        clear h2 hb2 hk2
        go_wp2_with fail
        go_end0
        exact ⟨rfl, by rw [Lib.byteCells_append]; exact H2.out, HB2.out, HK2.out⟩
    · rw [text3] at hlen ⊢
      have HLN := Lib.hid hlen
      clear hk14 hk1 hk2 hlen
      go_enter Tryd.func11, Tryd.ntmps11
      go_wp2_with fail
      refine (writeString_any W0.heap.size b (Lib.byteCells bs) s _ HBX.out (by rw [Lib.byteCells_length]; exact HLN.out) HWX.out.size).mono ?_
      rintro e w2 ⟨rfl, h2, hb2, hk2⟩
      have H2 := Lib.hid h2
      have HB2 := Lib.hid (HWW.out.trans hb2)
      have HK2 := Lib.hid (HKX.out.trans hk2)
      clear h2 hb2 hk2
      go_wp2_with fail
      go_end0
      exact ⟨rfl, by rw [Lib.byteCells_append]; exact H2.out, HB2.out, HK2.out⟩
    · rw [text4] at hlen ⊢
      clear hk14 hk1 hk2
      obtain ⟨L, hL⟩ : ∃ L, (elems it).map (textN r) = L := ⟨_, rfl⟩
      rw [hL] at hlen ⊢
      have hLl : L.length = len := by rw [← hL, List.length_map]; exact HA.out.size
      have hjl : bs.length + (joinSp L).length + 2 ≤ 140737488355328 := by
        simp only [List.length_cons, List.length_append, List.length_nil] at hlen
        omega
      have HLL := Lib.hid hLl
      have HL := Lib.hid hL
      have HJ := Lib.hid hjl
      clear hL hLl hlen hjl
      go_enter Tryd.func11, Tryd.ntmps11
      go_wp2_with fail
      refine (writeByte_any W0.heap.size b (Lib.byteCells bs) 40 _ HBX.out (by rw [Lib.byteCells_length]; have := HJ.out; omega) HWX.out.size).mono ?_
      rintro e w1 ⟨rfl, h1, hb1, hk1⟩
      have hbk : b ≠ w.heap.size := by have := (bld_lt HB.out).2; omega
      have c3 : w1.cell? ⟨w.heap.size, 3, none⟩ = some (.slice A len cap) := Kept.cell hk1 (heap_alloc_new w _) (Ne.symm hbk) (by decide) 3
      have H1 := Lib.hid (show Bld W0.heap.size b (Lib.byteCells (bs ++ (40 :: joinSp (L.take 0)))) w1 from by rw [Lib.byteCells_append]; exact h1)
      have HB1 := Lib.hid (HWW.out.trans hb1)
      have HK1 := Lib.hid (HKX.out.trans hk1)
      clear h1 hb1 hk1
      go_wp2_with fail
      go_loopg [13] len (fun g i wr => ∃ k : Nat, g = len - k ∧ k ≤ len ∧ i = .int .i64 k ∧ Bld W0.heap.size b (Lib.byteCells (bs ++ (40 :: joinSp (L.take k)))) wr ∧ Below W0.heap.size w wr ∧ Kept b w wr)
      case atStart => exact ⟨0, by omega, by omega, rfl, H1.out, HB1.out, HK1.out⟩
      case round =>
        obtain ⟨k, hg, hk, rfl, hbl, hb, hkp⟩ := hrel
        have HG := Lib.hid hg
        have HBL := Lib.hid hbl
        have HB := Lib.hid hb
        have HKP := Lib.hid hkp
        have HB0 := Lib.hid (HBW0.out.trans hb)
        clear hg hbl hkp
        obtain ⟨P, hP⟩ : ∃ P, (40 :: joinSp (L.take k)) = P := ⟨_, rfl⟩
        have hPl : bs.length + P.length + 1 ≤ 140737488355328 := by
          rw [← hP]
          have := joinSp_le L k
          have := HJ.out
          simp only [List.length_cons]
          omega
        rw [hP] at HBL
        have HPE := Lib.hid hP
        clear hP
        by_cases hlt : k < len
        · obtain ⟨b1, o, rfl, hbw, hrow⟩ := HA.out.at_ (by omega)
          have hkl : k < (elems it).length := by rw [HA.out.size]; exact hlt
          obtain ⟨cs', hcl, hrw, hrd⟩ := hrow k hkl
          clear hrow
          have hft : fault r (elems it)[k] = 0 := HALL.out _ (List.getElem_mem hkl)
          have hkL : k < L.length := by rw [HLL.out]; exact hlt
          have hLk : L[k] = textN r (elems it)[k] := by
            have e := HL.out
            subst e
            simp
          have hsn := joinSp_take L k hkL
          have hle1 := joinSp_le L (k + 1)
          obtain ⟨D, hD⟩ : ∃ D, (elems it)[k] = D := ⟨_, rfl⟩
          rw [hD] at hrd hft hLk
          have hrw' := hrw.below HB0.out hbw
          obtain ⟨k', n', s', A', len', cap', it', rfl, hd', hk', hn', hs', hsl'⟩ := hrd.datum
          have c0 : wr.cell? ⟨b1, o + k * 4, none⟩ = some (.int .i64 k') := hrw' 0 (by simp)
          have c1 : wr.cell? ⟨b1, o + k * 4 + 1, none⟩ = some (.int .i64 n') := hrw' 1 (by simp)
          have c2 : wr.cell? ⟨b1, o + k * 4 + 2, none⟩ = some (.string s') := hrw' 2 (by simp)
          have c3 : wr.cell? ⟨b1, o + k * 4 + 3, none⟩ = some (.slice A' len' cap') := hrw' 3 (by simp)
          obtain ⟨X, hX⟩ : ∃ X, textN r D = X := ⟨_, rfl⟩
          have HX := Lib.hid hX
          have hXl : bs.length + P.length + (if k = 0 then 0 else 1) + X.length ≤ 140737488355328 := by
            have h1 := HJ.out
            have h2 := congrArg List.length HPE.out
            simp only [List.length_cons] at h2
            rw [hsn, hLk, hX, List.length_append] at hle1
            by_cases hk0 : k = 0
            · rw [if_pos hk0] at hle1 ⊢; omega
            · rw [if_neg hk0] at hle1 ⊢; simp only [List.length_cons] at hle1; omega
          have HRD := Lib.hid hrd
          have HFT := Lib.hid hft
          have HSN := Lib.hid hsn
          have HLK := Lib.hid (hLk.trans hX)
          have HXL := Lib.hid hXl
          have HPL := Lib.hid hPl
          have y3 : (0 : Int) ≤ (k : Int) := Int.natCast_nonneg _
          have y4 : (k : Int) < (len : Int) := by omega
          have y5 : (k : Int) < (cap : Int) := by have := HA.out.le; omega
          have hwz : Below wr.heap.size wr (wr.alloc (.cells #[.int .i64 k', .int .i64 n', .string s', .slice A' len' cap'] 24)) := (Below.refl _ _).alloc (Nat.le_refl _) _
          have HBZ := Lib.hid (bld_new HBL.out hwz)
          have HWZ := Lib.hid (HB.out.trans (hwz.mono HB0.out.size))
          have HW0Z := Lib.hid (HB0.out.trans (hwz.mono HB0.out.size))
          have HKZ := Lib.hid (HKP.out.trans (kept_of_below hwz))
          have hbr : b ≠ wr.heap.size := by have := (bld_lt HBL.out).2; omega
          clear hrw hrw' hrd hd' hsl' hcl hft hLk hsn hle1 hD hX hb hXl hPl hwz
          by_cases hk0 : k = 0
          · subst hk0
            simp only [Nat.zero_mul, Nat.add_zero] at c0 c1 c2 c3
            go_wp2_with fail
            refine (IH.out b (bs ++ P) _ [.int .i64 k', .int .i64 n', .string s', .slice A' len' cap'] D HRD.out HFT.out HBZ.out HW0Z.out (by rw [HX.out, List.length_append]; have := HXL.out; omega)).mono ?_
            rw [HX.out]
            rintro e w2 ⟨rfl, h2, hb2, hk2⟩
            have H2 := Lib.hid (show Bld W0.heap.size b (Lib.byteCells (bs ++ (40 :: joinSp (L.take (0 + 1))))) w2 by
              have e : bs ++ (40 :: joinSp (L.take (0 + 1))) = bs ++ P ++ X := by rw [HSN.out, if_pos trivial, HLK.out, ← HPE.out, List.append_assoc]; rfl
              rw [e]; exact h2)
            have HB2 := Lib.hid (HWZ.out.trans hb2)
            have HK2 := Lib.hid (HKZ.out.trans hk2)
            clear h2 hb2 hk2
            go_wp2_with fail
            go_roundg (len - (0 + 1))
            case measure => have := HG.out; omega
            case rel => exact ⟨0 + 1, rfl, by omega, by go_num, H2.out, HB2.out, HK2.out⟩
          · have hk0' : (0 : Int) < (k : Int) := by omega
            go_wp2_with fail
            refine (writeByte_any W0.heap.size b (Lib.byteCells (bs ++ P)) 32 _ HBZ.out (by rw [Lib.byteCells_length, List.length_append]; have := HPL.out; omega) HW0Z.out.size).mono ?_
            rintro e w2 ⟨rfl, h2, hb2, hk2⟩
            have z0 : w2.cell? ⟨wr.heap.size, 0, none⟩ = some (.int .i64 k') := Kept.cell hk2 (heap_alloc_new wr _) (Ne.symm hbr) (by decide) 0
            have z1 : w2.cell? ⟨wr.heap.size, 1, none⟩ = some (.int .i64 n') := Kept.cell hk2 (heap_alloc_new wr _) (Ne.symm hbr) (by decide) 1
            have z2 : w2.cell? ⟨wr.heap.size, 2, none⟩ = some (.string s') := Kept.cell hk2 (heap_alloc_new wr _) (Ne.symm hbr) (by decide) 2
            have z3 : w2.cell? ⟨wr.heap.size, 3, none⟩ = some (.slice A' len' cap') := Kept.cell hk2 (heap_alloc_new wr _) (Ne.symm hbr) (by decide) 3
            have H2 := Lib.hid (show Bld W0.heap.size b (Lib.byteCells (bs ++ P ++ [32])) w2 by rw [Lib.byteCells_append]; exact h2)
            have HB2 := Lib.hid (HWZ.out.trans hb2)
            have HB20 := Lib.hid (HW0Z.out.trans hb2)
            have HK2 := Lib.hid (HKZ.out.trans hk2)
            clear h2 hb2 hk2
            go_wp2_with fail
            refine (IH.out b (bs ++ P ++ [32]) _ [.int .i64 k', .int .i64 n', .string s', .slice A' len' cap'] D HRD.out HFT.out H2.out HB20.out (by rw [HX.out, List.length_append, List.length_append]; have := HXL.out; rw [if_neg hk0] at this; simp only [List.length_cons, List.length_nil]; omega)).mono ?_
            rw [HX.out]
            rintro e w3 ⟨rfl, h3, hb3, hk3⟩
            have H3 := Lib.hid (show Bld W0.heap.size b (Lib.byteCells (bs ++ (40 :: joinSp (L.take (k + 1))))) w3 by
              have e : bs ++ (40 :: joinSp (L.take (k + 1))) = bs ++ P ++ [32] ++ X := by rw [HSN.out, if_neg hk0, HLK.out, ← HPE.out, List.append_assoc, List.append_assoc]; rfl
              rw [e]; exact h3)
            have HB3 := Lib.hid (HB2.out.trans hb3)
            have HK3 := Lib.hid (HK2.out.trans hk3)
            clear h3 hb3 hk3
            go_wp2_with fail
            go_roundg (len - (k + 1))
            case measure => have := HG.out; omega
            case rel => exact ⟨k + 1, rfl, by omega, by go_num, H3.out, HB3.out, HK3.out⟩
        · obtain rfl : len = k := by omega
          have HPL := Lib.hid hPl
          clear hb hPl
          go_wp2_with fail
          refine (writeByte_any W0.heap.size b (Lib.byteCells (bs ++ P)) 41 _ HBL.out (by rw [Lib.byteCells_length, List.length_append]; exact HPL.out) HB0.out.size).mono ?_
          rintro e w2 ⟨rfl, h2, hb2, hk2⟩
          have H2 := Lib.hid (show Bld W0.heap.size b (Lib.byteCells (bs ++ (40 :: (joinSp L ++ [41])))) w2 by
            have h := HPE.out
            rw [List.take_of_length_le (by rw [HLL.out]; exact Nat.le_refl _)] at h
            have e : bs ++ (40 :: (joinSp L ++ [41])) = bs ++ P ++ [41] := by rw [← h, List.append_assoc]; rfl
            rw [e, Lib.byteCells_append]; exact h2)
          have HB2 := Lib.hid (HB.out.trans hb2)
          have HK2 := Lib.hid (HKP.out.trans hk2)
          clear h2 hb2 hk2
          go_wp2_with fail
          go_end0
          exact ⟨rfl, H2.out, HB2.out, HK2.out⟩
end
end Go.Proofs.YtbkagjngckfonaaDoor
