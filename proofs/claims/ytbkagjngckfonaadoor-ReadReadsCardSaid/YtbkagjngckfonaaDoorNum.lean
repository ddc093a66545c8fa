/- Contracts of grafteryref.wholeIn and fits64. -/
import Derived.Test.YtbkagjngckfonaaDoorNumQ
import Derived.Test.YtbkagjngckfonaaDoorAtomP
import Derived.Deep.Cut
namespace Go.Proofs.YtbkagjngckfonaaDoor
open Go.RowKit Go.ChangeShapes Go.WideShapes Go.Deep
set_option linter.unusedVariables false

/-- What wholeIn answers. -/
def wholeV (l : List UInt8) : Value :=
  if wholeB l then
    if val 0 (digsOf l) ≤ 1099511627776 then .tuple #[.int .i64 (signed l), .bool true, .bool false]
    else .tuple #[.int .i64 0, .bool true, .bool true]
  else .tuple #[.int .i64 0, .bool false, .bool false]
theorem wholeV_no {l : List UInt8} (h : wholeB l = false) : wholeV l = .tuple #[.int .i64 0, .bool false, .bool false] := by unfold wholeV; rw [h]; rfl
theorem wholeV_great {l : List UInt8} (h : wholeB l = true) (hv : ¬ val 0 (digsOf l) ≤ 1099511627776) : wholeV l = .tuple #[.int .i64 0, .bool true, .bool true] := by unfold wholeV; rw [if_pos h, if_neg hv]
theorem wholeV_yes {l : List UInt8} (h : wholeB l = true) (hv : val 0 (digsOf l) ≤ 1099511627776) : wholeV l = .tuple #[.int .i64 (signed l), .bool true, .bool false] := by unfold wholeV; rw [if_pos h, if_pos hv]
theorem whole_nil : wholeB [] = false := by decide
theorem digs_minus {W D : ByteArray} (h : 0 < W.size) (h45 : W[0] = 45) (hD : W.extract 1 W.size = D) : digsOf W.data.toList = D.data.toList := by
  rw [str_cons h, h45]
  subst hD
  simp only [digsOf, if_true]
  rw [ByteArray.data_extract]
  simp
  rw [List.take_of_length_le (by simp)]
theorem digs_plus {W : ByteArray} (h : 0 < W.size) (h45 : W[0] ≠ 45) : digsOf W.data.toList = W.data.toList := by
  rw [str_cons h]
  simp only [digsOf, if_neg h45]
/-- Where the loop stands. -/
def capK (D : ByteArray) (k : Nat) : Nat := capL (D.data.toList.take k) 0
theorem capK_zero (D : ByteArray) : capK D 0 = 0 := rfl
theorem capK_succ (D : ByteArray) (k : Nat) (h : k < D.size) : capK D (k + 1) = if capK D k < 1125899906842624 then 10 * capK D k + (D[k].toNat - 48) else capK D k := by
  unfold capK
  rw [List.take_succ_eq_append_getElem (by simpa using h), cap_snoc]
  rfl
theorem capK_all (D : ByteArray) : capK D D.size = capL D.data.toList 0 := by
  unfold capK
  rw [List.take_of_length_le (by simp)]
theorem whole_bad {W D : ByteArray} (hd : digsOf W.data.toList = D.data.toList) {k : Nat} (h : k < D.size) (hb : digB D[k] = false) : wholeB W.data.toList = false := by
  cases hw : wholeB W.data.toList with
  | false => rfl
  | true =>
    have := ((wholeB_iff _).1 hw).2.1 D[k] (by rw [hd]; exact str_mem h)
    rw [isD_dig, hb] at this
    cases this
theorem whole_good {W D : ByteArray} (hd : digsOf W.data.toList = D.data.toList) (h0 : 0 < D.size) (h1 : D[0] = 48 → W.data.toList = [48]) (h : ∀ j, (h : j < D.size) → digB D[j] = true) : wholeB W.data.toList = true := by
  rw [wholeB_iff, hd]
  refine ⟨fun e => ?_, fun c hc => ?_, fun e => ?_⟩
  · rw [str_cons h0] at e; cases e
  · obtain ⟨j, hj, rfl⟩ := List.mem_iff_getElem.1 hc
    rw [isD_dig]
    exact h j (by simpa using hj)
  · rw [str_cons h0] at e
    exact h1 (by simpa using e)
theorem whole_zero {W D : ByteArray} (hd : digsOf W.data.toList = D.data.toList) (h0 : 0 < D.size) (h1 : D[0] = 48) (hn : W.data.toList ≠ [48]) : wholeB W.data.toList = false := by
  cases hw : wholeB W.data.toList with
  | false => rfl
  | true =>
    have := ((wholeB_iff _).1 hw).2.2 (by rw [hd, str_cons h0, h1]; rfl)
    exact absurd this hn
theorem whole_short {W D : ByteArray} (hd : digsOf W.data.toList = D.data.toList) (h0 : D.size = 0) : wholeB W.data.toList = false := by
  cases hw : wholeB W.data.toList with
  | false => rfl
  | true =>
    have := ((wholeB_iff _).1 hw).1
    rw [hd, ← ByteArray.toList_eq, str_nil h0] at this
    exact absurd rfl this

set_option maxHeartbeats 4000000 in
set_option maxRecDepth 20000 in
theorem whole_any (W : ByteArray) (hs : W.size ≤ 3000) (w : World) : Calls Tryd.prog 32 #[.string W] w fun e w' => e = .returned (wholeV W.data.toList) ∧ ∃ n, w' = w.drewN n := by
  by_cases h0 : W.size = 0
  · have e1 := str_nil h0
    have e2 : W.toList.isEmpty = true := by simp [e1]
    have HF := Lib.hid (wholeV_no (show wholeB W.data.toList = false from by rw [← ByteArray.toList_eq, e1]; rfl))
    go_enter Tryd.func32, Tryd.ntmps32
    go_wp2_with fail
    go_ret3
    exact ⟨by rw [HF.out]; rfl, 0, rfl⟩
  have hpos : 0 < W.size := by omega
  have hpi : (0 : Int) < (W.size : Int) := by omega
  have hne := str_empty hpos
  clear h0
  obtain ⟨D, ng, hd, hD, hng⟩ : ∃ D ng, digsOf W.data.toList = D.data.toList ∧ ((ng = true ∧ W[0] = 45 ∧ W.extract 1 W.size = D) ∨ (ng = false ∧ W[0] ≠ 45 ∧ W = D)) ∧ negB W.data.toList = ng := by
    by_cases h45 : W[0] = 45
    · exact ⟨W.extract 1 W.size, true, digs_minus hpos h45 rfl, Or.inl ⟨rfl, h45, rfl⟩, by rw [str_cons hpos, h45]; rfl⟩
    · exact ⟨W, false, digs_plus hpos h45, Or.inr ⟨rfl, h45, rfl⟩, by rw [str_cons hpos]; simp [negB, h45]⟩
  rcases hD with ⟨rfl, h45, hD⟩ | ⟨rfl, h45, hD⟩
  · have hsz : D.size = W.size - 1 := by rw [← hD, ByteArray.size_extract]; omega
    have c45 : ((W[0].toNat : Int) == 45) = true := by rw [h45]; rfl
    have y1 : (1 : Int) ≤ (W.size : Int) := by omega
    have HSZ := Lib.hid hsz
    have HD := Lib.hid hd
    have HDX := Lib.hid hD
    have HNG := Lib.hid hng
    have hn48 : W.data.toList ≠ [48] := fun e => by rw [str_cons hpos, h45] at e; simp at e
    have H48 := Lib.hid hn48
    have y2 : (W.toList == [48]) = false := by rw [ByteArray.toList_eq]; simpa using hn48
    have y2' : (W.toList != [48]) = true := by rw [bne, y2]; rfl
    have y3 : (D.size : Int) < (W.size : Int) := by omega
    clear hsz hd hD hng h45 hn48
    go_enter Tryd.func32, Tryd.ntmps32
    go_upto_region 4 with fail
    rw [HDX.out]
    by_cases hD0 : D.size = 0
    · have e1 := str_nil hD0
      have e2 : D.toList.isEmpty = true := by simp [e1]
      have HF := Lib.hid (wholeV_no (whole_short HD.out hD0))
      go_wp2_with fail
      go_ret3
      exact ⟨by rw [HF.out]; rfl, 0, rfl⟩
    have hD0 : 0 < D.size := by omega
    have hDi : (0 : Int) < (D.size : Int) := by omega
    have hDe := str_empty hD0
    have hDz : ((D.size : Int) == 0) = false := by simpa using Nat.ne_of_gt hD0
    by_cases h48 : D[0] = 48
    · have c48 : ((D[0].toNat : Int) == 48) = true := by rw [h48]; rfl
      have HF := Lib.hid (wholeV_no (whole_zero HD.out hD0 h48 H48.out))
      clear h48
      go_wp2_with fail
      go_ret3
      exact ⟨by rw [HF.out]; rfl, 0, rfl⟩
    · have c48 : ((D[0].toNat : Int) == 48) = false := by
        cases hx : ((D[0].toNat : Int) == 48)
        · rfl
        · exact absurd (UInt8.toNat_inj.1 (show D[0].toNat = (48 : UInt8).toNat by have : (D[0].toNat : Int) = 48 := by simpa using hx
                                                                                   show D[0].toNat = 48; omega)) h48
      have HK := Lib.hid (show D[0] = 48 → W.data.toList = [48] from fun h => absurd h h48)
      clear h48
      go_wp2_with fail
      go_loopg [6, 7] D.size (fun g n i wr => ∃ k q : Nat, g = D.size - k ∧ k ≤ D.size ∧ n = .int .i64 (capK D k) ∧ i = .int .i64 k ∧ wr = w.drewN q ∧ (∀ j, (h : j < k) → (h' : j < D.size) → digB D[j] = true) ∧ capK D k ≤ 11258999068426250)
      case atStart => exact ⟨0, 0, by omega, by omega, rfl, rfl, rfl, fun j h => absurd h (by omega), by rw [capK_zero]; omega⟩
      case round =>
        obtain ⟨k, q, hg, hk, rfl, rfl, rfl, hall, hcap⟩ := hrel
        have HG := Lib.hid hg
        have HA := Lib.hid hall
        clear hg hall
        obtain ⟨m, hm⟩ : ∃ m, capK D k = m := ⟨_, rfl⟩
        have HM := Lib.hid hm
        rw [hm] at hcap ⊢
        clear hm
        have z0 : (0 : Int) ≤ (m : Int) := Int.natCast_nonneg _
        have z1 : (m : Int) ≤ 11258999068426250 := by omega
        clear hcap
        obtain ⟨M, hM⟩ : ∃ M : Int, (m : Int) = M := ⟨_, rfl⟩
        have HMM := Lib.hid hM
        rw [hM] at z0 z1 ⊢
        clear hM
        by_cases hlt : k < D.size
        · obtain ⟨c, hc⟩ : ∃ c : UInt8, D[k] = c := ⟨_, rfl⟩
          have HC := Lib.hid hc
          cases hb : digB c
          · have HB := Lib.hid hb
            go_wp2_with (first | (go_at_call 40; refine (digit_any _ _).mono ?_; rintro e w' ⟨rfl, rfl⟩))
            go_ret3
            exact ⟨by rw [wholeV_no (whole_bad HD.out hlt (by rw [HC.out]; exact HB.out))]; rfl, _, rfl⟩
          · have HB := Lib.hid hb
            obtain ⟨b0, b1⟩ := digB_bd hb
            have b2 : (48 : Int) ≤ (c.toNat : Int) := by omega
            have b3 : (c.toNat : Int) ≤ 57 := by omega
            clear b0 b1
            have hall' : ∀ j, (h : j < k + 1) → (h' : j < D.size) → digB D[j] = true := fun j hj hj' => by
              by_cases hjk : j = k
              · subst hjk; rw [HC.out]; exact HB.out
              · exact HA.out j (by omega) hj'
            have HA' := Lib.hid hall'
            clear hall'
            by_cases hmb : m < 1125899906842624
            · have z2 : M < 1125899906842624 := by have := HMM.out; omega
              have w1 : IntKind.u8.wrap ((c.toNat : Int) - 48) = (c.toNat : Int) - 48 := IntWalk.u8_in _ (by omega)
              have w2 : IntKind.i64.wrap ((c.toNat : Int) - 48) = (c.toNat : Int) - 48 := IntWalk.i64_in _ (by omega)
              have w3 : IntKind.i64.wrap (10 * M) = 10 * M := IntWalk.i64_in _ (by omega)
              have w4 : IntKind.i64.wrap (10 * M + ((c.toNat : Int) - 48)) = 10 * M + ((c.toNat : Int) - 48) := IntWalk.i64_in _ (by omega)
              have HS := Lib.hid (show capK D (k + 1) = 10 * m + (c.toNat - 48) by rw [capK_succ D k hlt, HM.out, if_pos hmb, HC.out])
              clear hmb
              go_wp2_with (first | (go_at_call 40; refine (digit_any _ _).mono ?_; rintro e w' ⟨rfl, rfl⟩))
              have hg := HG.out
              go_roundg (D.size - (k + 1))
              case measure => omega
              case rel => exact ⟨k + 1, _, rfl, by omega, by rw [HS.out, ← HMM.out]; congr 1; omega, by go_num, rfl, HA'.out, by have := HMM.out; rw [HS.out]; omega⟩
            · have z2 : ¬ M < 1125899906842624 := by have := HMM.out; omega
              have HS := Lib.hid (show capK D (k + 1) = m by rw [capK_succ D k hlt, HM.out, if_neg hmb])
              clear hmb
              go_wp2_with (first | (go_at_call 40; refine (digit_any _ _).mono ?_; rintro e w' ⟨rfl, rfl⟩))
              have hg := HG.out
              go_roundg (D.size - (k + 1))
              case measure => omega
              case rel => exact ⟨k + 1, _, rfl, by omega, by rw [HS.out, HMM.out], by go_num, rfl, HA'.out, by have := HMM.out; rw [HS.out]; omega⟩
        · obtain rfl : k = D.size := by omega
          have hw := whole_good HD.out hD0 HK.out (fun j hj => HA.out j hj hj)
          have HW := Lib.hid hw
          have hcv := cap_val D.data.toList 0 0 (Or.inl rfl)
          rw [← capK_all D, HM.out] at hcv
          by_cases hmb : m ≤ 1099511627776
          · have z2 : ¬ 1099511627776 < M := by have := HMM.out; omega
            have HV := Lib.hid (show val 0 (digsOf W.data.toList) = m by rw [HD.out]; omega)
            have HMB := Lib.hid hmb
            clear hw hcv hmb
            go_wp2_with fail
            go_ret3
            exact ⟨by rw [wholeV_yes HW.out (by rw [HV.out]; exact HMB.out), signed, HNG.out, HV.out, HMM.out]; rfl, _, rfl⟩
          · have z2 : 1099511627776 < M := by have := HMM.out; omega
            have HV := Lib.hid (show ¬ val 0 (digsOf W.data.toList) ≤ 1099511627776 by rw [HD.out]; omega)
            have HMB := Lib.hid hmb
            clear hw hcv hmb
            go_wp2_with fail
            go_ret3
            exact ⟨by rw [wholeV_great HW.out HV.out]; rfl, _, rfl⟩
  · subst hD
    have c45 : ((W[0].toNat : Int) == 45) = false := by
      cases hx : ((W[0].toNat : Int) == 45)
      · rfl
      · exact absurd (UInt8.toNat_inj.1 (show W[0].toNat = (45 : UInt8).toNat by have : (W[0].toNat : Int) = 45 := by simpa using hx
                                                                                 show W[0].toNat = 45; omega)) h45
    have HD := Lib.hid hd
    have HNG := Lib.hid hng
    clear hd hng h45
    obtain ⟨D, hDW⟩ : ∃ D, W = D := ⟨W, rfl⟩
    have hD0 := hpos
    have hDz : ((W.size : Int) == 0) = false := by simpa using Nat.ne_of_gt hpos
    by_cases hz : W[0] = 48 ∧ W.data.toList ≠ [48]
    · obtain ⟨h48, hn48⟩ := hz
      have c48 : ((W[0].toNat : Int) == 48) = true := by rw [h48]; rfl
      have y2 : (W.toList == [48]) = false := by rw [ByteArray.toList_eq]; simpa using hn48
      have y2' : (W.toList != [48]) = true := by rw [bne, y2]; rfl
      have HF := Lib.hid (wholeV_no (whole_zero HD.out hpos h48 hn48))
      clear h48 hn48 hDW
      go_enter Tryd.func32, Tryd.ntmps32
      go_upto_region 4 with fail
      go_wp2_with fail
      go_ret3
      exact ⟨by rw [HF.out]; rfl, 0, rfl⟩
    · have HK := Lib.hid (show W[0] = 48 → W.data.toList = [48] from fun h => by
        cases hx : decide (W.data.toList = [48])
        · exact absurd ⟨h, of_decide_eq_false hx⟩ hz
        · exact of_decide_eq_true hx)
      clear hz hDW
      have hc : ((W[0].toNat : Int) == 48) = false ∨ (((W[0].toNat : Int) == 48) = true ∧ (W.toList != [48]) = false ∧ (W.toList == [48]) = true) := by
        cases hx : ((W[0].toNat : Int) == 48)
        · exact Or.inl rfl
        · refine Or.inr ⟨rfl, ?_, ?_⟩
          all_goals
            have hi : (W[0].toNat : Int) = 48 := by simpa using hx
            have hz : W[0].toNat = (48 : UInt8).toNat := by
              show W[0].toNat = 48
              omega
            first | rw [bne, ByteArray.toList_eq, HK.out (UInt8.toNat_inj.1 hz)] | rw [ByteArray.toList_eq, HK.out (UInt8.toNat_inj.1 hz)]
            rfl
      rcases hc with c48 | ⟨c48, y2, y3⟩
      all_goals
        go_enter Tryd.func32, Tryd.ntmps32
        go_wp2_with fail
        go_loopg [6, 7] W.size (fun g n i wr => ∃ k q : Nat, g = W.size - k ∧ k ≤ W.size ∧ n = .int .i64 (capK W k) ∧ i = .int .i64 k ∧ wr = w.drewN q ∧ (∀ j, (h : j < k) → (h' : j < W.size) → digB W[j] = true) ∧ capK W k ≤ 11258999068426250)
        case atStart => exact ⟨0, 0, by omega, by omega, rfl, rfl, rfl, fun j h => absurd h (by omega), by rw [capK_zero]; omega⟩
        case round =>
          obtain ⟨k, q, hg, hk, rfl, rfl, rfl, hall, hcap⟩ := hrel
          have HG := Lib.hid hg
          have HA := Lib.hid hall
          clear hg hall
          obtain ⟨m, hm⟩ : ∃ m, capK W k = m := ⟨_, rfl⟩
          have HM := Lib.hid hm
          rw [hm] at hcap ⊢
          clear hm
          have z0 : (0 : Int) ≤ (m : Int) := Int.natCast_nonneg _
          have z1 : (m : Int) ≤ 11258999068426250 := by omega
          clear hcap
          obtain ⟨M, hM⟩ : ∃ M : Int, (m : Int) = M := ⟨_, rfl⟩
          have HMM := Lib.hid hM
          rw [hM] at z0 z1 ⊢
          clear hM
          by_cases hlt : k < W.size
          · obtain ⟨c, hc⟩ : ∃ c : UInt8, W[k] = c := ⟨_, rfl⟩
            have HC := Lib.hid hc
            cases hb : digB c
            · have HB := Lib.hid hb
              go_wp2_with (first | (go_at_call 40; refine (digit_any _ _).mono ?_; rintro e w' ⟨rfl, rfl⟩))
              go_ret3
              exact ⟨by rw [wholeV_no (whole_bad HD.out hlt (by rw [HC.out]; exact HB.out))]; rfl, _, rfl⟩
            · have HB := Lib.hid hb
              obtain ⟨b0, b1⟩ := digB_bd hb
              have b2 : (48 : Int) ≤ (c.toNat : Int) := by omega
              have b3 : (c.toNat : Int) ≤ 57 := by omega
              clear b0 b1
              have hall' : ∀ j, (h : j < k + 1) → (h' : j < W.size) → digB W[j] = true := fun j hj hj' => by
                by_cases hjk : j = k
                · subst hjk; rw [HC.out]; exact HB.out
                · exact HA.out j (by omega) hj'
              have HA' := Lib.hid hall'
              clear hall'
              by_cases hmb : m < 1125899906842624
              · have z2 : M < 1125899906842624 := by have := HMM.out; omega
                have w1 : IntKind.u8.wrap ((c.toNat : Int) - 48) = (c.toNat : Int) - 48 := IntWalk.u8_in _ (by omega)
                have w2 : IntKind.i64.wrap ((c.toNat : Int) - 48) = (c.toNat : Int) - 48 := IntWalk.i64_in _ (by omega)
                have w3 : IntKind.i64.wrap (10 * M) = 10 * M := IntWalk.i64_in _ (by omega)
                have w4 : IntKind.i64.wrap (10 * M + ((c.toNat : Int) - 48)) = 10 * M + ((c.toNat : Int) - 48) := IntWalk.i64_in _ (by omega)
                have HS := Lib.hid (show capK W (k + 1) = 10 * m + (c.toNat - 48) by rw [capK_succ W k hlt, HM.out, if_pos hmb, HC.out])
                clear hmb
                go_wp2_with (first | (go_at_call 40; refine (digit_any _ _).mono ?_; rintro e w' ⟨rfl, rfl⟩))
                have hg := HG.out
                go_roundg (W.size - (k + 1))
                case measure => omega
                case rel => exact ⟨k + 1, _, rfl, by omega, by rw [HS.out, ← HMM.out]; congr 1; omega, by go_num, rfl, HA'.out, by have := HMM.out; rw [HS.out]; omega⟩
              · have z2 : ¬ M < 1125899906842624 := by have := HMM.out; omega
                have HS := Lib.hid (show capK W (k + 1) = m by rw [capK_succ W k hlt, HM.out, if_neg hmb])
                clear hmb
                go_wp2_with (first | (go_at_call 40; refine (digit_any _ _).mono ?_; rintro e w' ⟨rfl, rfl⟩))
                have hg := HG.out
                go_roundg (W.size - (k + 1))
                case measure => omega
                case rel => exact ⟨k + 1, _, rfl, by omega, by rw [HS.out, HMM.out], by go_num, rfl, HA'.out, by have := HMM.out; rw [HS.out]; omega⟩
          · obtain rfl : k = W.size := by omega
            have hw := whole_good HD.out hD0 HK.out (fun j hj => HA.out j hj hj)
            have HW := Lib.hid hw
            have hcv := cap_val W.data.toList 0 0 (Or.inl rfl)
            rw [← capK_all W, HM.out] at hcv
            by_cases hmb : m ≤ 1099511627776
            · have z2 : ¬ 1099511627776 < M := by have := HMM.out; omega
              have HV := Lib.hid (show val 0 (digsOf W.data.toList) = m by rw [HD.out]; omega)
              have HMB := Lib.hid hmb
              clear hw hcv hmb
              go_wp2_with fail
              go_ret3
              exact ⟨by rw [wholeV_yes HW.out (by rw [HV.out]; exact HMB.out), signed, HNG.out, HV.out, HMM.out]; rfl, _, rfl⟩
            · have z2 : 1099511627776 < M := by have := HMM.out; omega
              have HV := Lib.hid (show ¬ val 0 (digsOf W.data.toList) ≤ 1099511627776 by rw [HD.out]; omega)
              have HMB := Lib.hid hmb
              clear hw hcv hmb
              go_wp2_with fail
              go_ret3
              exact ⟨by rw [wholeV_great HW.out HV.out]; rfl, _, rfl⟩
end Go.Proofs.YtbkagjngckfonaaDoor
