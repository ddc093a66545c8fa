/- Contracts over texts and shapes (printed by gen_shuse.py). -/
import Derived.Test.YtbkagjngckfonaaOut
namespace Go.Proofs.Ytbkagjngckfonaa
open Go.RowKit Go.ChangeShapes Go.WideShapes Go.Deep Go.ChangeAt
set_option linter.unusedVariables false

set_option maxHeartbeats 1000000 in
theorem texts_any (A : Option Addr) (len cap : Nat) (R : List (List ByteArray)) (w : World) (hcap : cap ≤ maxLen) (hl : len ≤ cap) (hR : RowsAt w A len R) (hsz : R.flatten.length ≤ 1099511627776) :
    Calls Try.prog 27 #[.slice A len cap] w fun e w' => ∃ v, e = .returned v ∧ w'.ownsRow w.heap.size 9 1 v R.flatten.length (R.flatten.map Value.string) ∧ Below w.heap.size w w' := by
  have hlen : len ≤ 9223372036854775807 := by unfold maxLen at hcap; omega
  obtain ⟨i0, hi, hz0, hz1, hz2⟩ := info_parts infoString
  have HR := Lib.hid hR
  clear hR
  go_enter Try.func27, Try.ntmps27
  go_wp2_with fail
  go_loopg [3, 4] len (fun g v i wr => ∃ k : Nat, g = len - k ∧ k ≤ len ∧ i = .int .i64 k ∧ wr.ownsRow w.heap.size 9 1 v (R.take k).flatten.length ((R.take k).flatten.map Value.string) ∧ Below w.heap.size w wr)
  case atStart => exact ⟨0, by omega, by omega, rfl, by simpa using World.ownsRow_nil _ _ _ _, Below.refl _ _⟩
  case round =>
    obtain ⟨k, hg, hk, rfl, hown, hb⟩ := hrel
    have HG := Lib.hid hg
    have HO := Lib.hid hown
    have HB := Lib.hid hb
    clear hg hown hb
    by_cases hlt : k < len
    · obtain ⟨b, o, rfl, hbw, hrow⟩ := HR.out.at_ (by omega)
      have hks : k < R.length := by rw [HR.out.size]; exact hlt
      obtain ⟨A', c', hc, hlc, hcc, hst⟩ := hrow k hks
      have HST := Lib.hid hst
      have hmx : c' ≤ 9223372036854775807 := by unfold maxLen at hcc; omega
      have HRK := Lib.hid (show (R.take (k + 1)).flatten = (R.take k).flatten ++ R[k] from by
        rw [List.take_succ_eq_append_getElem hks, List.flatten_append]; simp)
      have HSZ := Lib.hid (show (R.take k).flatten.length + R[k].length ≤ 1099511627776 from by
        have h1 : R.flatten = (R.take (k + 1)).flatten ++ (R.drop (k + 1)).flatten := by rw [← List.flatten_append, List.take_append_drop]
        have h2 := congrArg List.length h1
        rw [HRK.out, List.length_append, List.length_append] at h2
        omega)
      clear hst hrow
      obtain ⟨m, hm⟩ : ∃ m, m = R[k].length := ⟨_, rfl⟩
      have hmc : m ≤ c' := by rw [hm]; exact hlc
      rw [← hm] at hc hlc
      have HM := Lib.hid hm
      clear hm
      go_wp2_with fail
      obtain ⟨wo, rfl⟩ : ∃ wo : World, wo = wr := ⟨_, rfl⟩
      go_loopw [3, 5] (fun v i wi => ∃ j : Nat, j ≤ m ∧ i = .int .i64 j ∧ wi.ownsRow w.heap.size 9 1 v ((R.take k).flatten.length + j) (((R.take k).flatten ++ R[k].take j).map Value.string) ∧ Below w.heap.size w wi) (fun _ i _ => m - (intOf i).toNat)
      case atStart => exact ⟨0, by omega, rfl, by simpa using HO.out, HB.out⟩
      case round =>
        obtain ⟨j, hj, rfl, hown, hb⟩ := hrel
        have HO2 := Lib.hid hown
        have HB2 := Lib.hid hb
        have hc1 : wr.cell? ⟨b, o + k, none⟩ = some (.slice A' m c') := (hb.cell (p := ⟨b, o + k, none⟩) hbw).trans hc
        have hsz2 := hb.size
        clear hown hb
        by_cases hjm : j < m
        · obtain ⟨b2, o2, hA', hb2w, hrow2⟩ := HST.out.at_ (by rw [← HM.out]; omega)
          subst hA'
          have hjr : j < R[k].length := by rw [← HM.out]; exact hjm
          have hc2 : wr.cell? ⟨b2, o2 + j, none⟩ = some (.string R[k][j]) := (HB2.out.cell (p := ⟨b2, o2 + j, none⟩) hb2w).trans (hrow2 j hjr)
          clear hrow2
          have HJ := Lib.hid (show (R.take k).flatten.length + j < 1099511627776 from by have := HSZ.out; have := HM.out; omega)
          go_wp2_with (at_builtin; refine wpList_append_own _ rfl (.tmp 21) (.tmp 29) 42 rfl w.heap.size 9 i0 _ 1 16 Try.underlying42 hi hz0 hz1 hz2 rfl (by decide) _ _ _ rfl (HO2.out.alloc _) ⟨wr.heap.size,0,none⟩ 1 1 [.string _] rfl rfl (cell_one_new _ _ _) (fun x hx => by simp at hx; subst hx; rfl) (by have := HJ.out; unfold maxLen; omega) (by have := HJ.out; omega) (by simp; omega) ?_; intro v' w1 hown' hg' _)
          have hb1 : Below w.heap.size w w1 := (HB2.out.alloc HB2.out.size _).grown hg' (Nat.le_trans HB2.out.size (by simp)) (own_from HO2.out)
          go_roundw
          case measure => simp only [intOf, Int.toNat_natCast]; omega
          refine ⟨j + 1, by omega, rfl, ?_, hb1⟩
          · have e1 : (R.take k).flatten ++ R[k].take (j + 1) = ((R.take k).flatten ++ R[k].take j) ++ [R[k][j]] := by
              rw [List.append_assoc, List.take_succ_eq_append_getElem hjr]
            have e2 : (R.take k).flatten.length + (j + 1) = (R.take k).flatten.length + j + 1 := by omega
            rw [e1, e2, List.map_append]
            exact hown'
        · obtain rfl : j = m := by omega
          go_wp2_with fail
          go_roundg (len - (k + 1))
          case measure => have := HG.out; omega
          refine ⟨k + 1, rfl, hlt, rfl, ?_, HB2.out⟩
          have h2 := HO2.out
          rw [HM.out, List.take_length] at h2
          rw [HRK.out, List.length_append]
          exact h2
    · obtain rfl : k = len := by omega
      go_wp2_with fail
      go_ret
      refine ⟨_, rfl, ?_, HB.out⟩
      have h2 := HO.out
      rwa [List.take_of_length_le (by rw [HR.out.size]; exact Nat.le_refl _)] at h2
theorem clone_any (A : Option Addr) (len cap : Nat) (ss : List ByteArray) (w : World) (hs : StrsAt w A len ss) (hl : len ≤ 1099511627776) :
    Calls Try.prog 17 #[.slice A len cap] w fun e w' => ∃ v, e = .returned v ∧ w'.ownsRow w.heap.size 9 1 v len (ss.map Value.string) ∧ Below w.heap.size w w' := by
  rcases Nat.eq_zero_or_pos len with h0 | h0
  · subst h0
    have hss : ss = [] := List.length_eq_zero_iff.1 hs.size
    subst hss
    cases A with
    | none =>
      refine (Try.slices_Clone_string_nil 0 cap w).mono ?_
      rintro e w' ⟨rfl, rfl⟩
      exact ⟨_, rfl, World.ownsRow_nil _ _ _ _, Below.refl _ _⟩
    | some a =>
      refine (Try.slices_Clone_string_zero a cap w).mono ?_
      rintro e w' ⟨v, rfl, h1, _, h2⟩
      exact ⟨v, rfl, h1, h2⟩
  · obtain ⟨b, o, rfl, hb, hrow⟩ := hs.at_ h0
    have hsz := hs.size
    refine (Try.slices_Clone_string b o len cap ss w (by omega) (by omega) (fun j hj => by rw [hrow j hj]; simp [hj])).mono ?_
    rintro e w' ⟨v, rfl, h1, _, h2⟩
    rw [List.take_of_length_le (by omega)] at h1
    exact ⟨v, rfl, h1, h2⟩

/-- Nothing is appended to a row of the call's own: it stays. -/
theorem run_append_zero {w : World} {P : Program} (base : Nat) (t ty e : TypeId) (i : TypeInfo) (size : Nat) (ht : P.underlying t = some (.slice e)) (hi : P.info? e = some i)
    (v : Value) (n : Nat) (xs : List Value) (hown : w.ownsRow base e size v n xs) (A : Option Addr) (c : Nat) : (Builtin.append_ #[t, t] ty #[v, .slice A 0 c]).run P w = .ok v w := by
  rcases hown.2 with ⟨rfl, rfl⟩ | ⟨g, cap, cur, rfl, hg, hh, hr⟩
  · cases A <;> simp [Builtin.append_, run_underlying ht, sizeOf, typeInfo, hi, Builtin.lenOf, Builtin.firstCells, loadCells, loadCellsFrom]
  · cases A <;> simp [Builtin.append_, run_underlying ht, sizeOf, typeInfo, hi, Builtin.lenOf, Builtin.firstCells, loadCells, loadCellsFrom, hr.1, storeCells]


set_option maxHeartbeats 400000 in
theorem sameName_any (x : Shp) (n : ByteArray) (b : Nat) (w : World) (hc : w.cell? ⟨b, 0, none⟩ = some (.string n)) (hb : b < w.heap.size) :
    Calls Try.prog 26 #[.agg #[.string x.name, .slice x.A x.len x.cap], .pointer (some ⟨b, 0, none⟩)] w fun e w' => e = .returned (.bool (x.name.toList == n.toList)) ∧ Below w.heap.size w w' := by
  have hc' : ∀ o1, (w.alloc o1).cell? ⟨b, 0, none⟩ = some (.string n) := fun o1 => (World.cell?_alloc_lt w o1 ⟨b, 0, none⟩ hb).trans hc
  go_enter Try.func26, Try.ntmps26
  go_wp2_with fail
  go_ret
  exact ⟨rfl, (Below.refl _ _).alloc (Nat.le_refl _) _⟩

set_option maxHeartbeats 1000000 in
theorem indexFunc_any (n : ByteArray) (b0 : Nat) (A : Option Addr) (len cap : Nat) (L : List Shp) (w : World) (hcap : cap ≤ maxLen) (hl : len ≤ cap) (hA : ShapesAt w A len L) (hc : w.cell? ⟨b0, 0, none⟩ = some (.string n)) (hb0 : b0 < w.heap.size) :
    Calls Try.prog 25 #[.slice A len cap, .func (.func 26) #[] #[.pointer (some ⟨b0, 0, none⟩)]] w fun e w' => e = .returned (.int .i64 (idxL (names L) n)) ∧ Below w.heap.size w w' := by
  have hlen : len ≤ 9223372036854775807 := by unfold maxLen at hcap; omega
  have HA := Lib.hid hA
  have HC := Lib.hid hc
  clear hA hc
  go_enter Try.func25, Try.ntmps25
  go_wp2_with fail
  go_loopw [8] (fun i wr => ∃ k : Nat, k ≤ len ∧ i = .int .i64 k ∧ Below w.heap.size w wr ∧ ∀ j, j < k → (hj : j < (names L).length) → ((names L)[j].toList == n.toList) = false) (fun i _ => len - (intOf i).toNat)
  case atStart => exact ⟨0, by omega, rfl, Below.refl _ _, fun j h => absurd h (by omega)⟩
  case round =>
    obtain ⟨k, hk, rfl, hb, hall⟩ := hrel
    have HALL := Lib.hid hall
    have HB := Lib.hid hb
    clear hall hb
    by_cases hlt : k < len
    · obtain ⟨b, o, rfl, hbw, hrow⟩ := HA.out.at_ (by omega)
      have hks : k < L.length := by rw [HA.out.size]; exact hlt
      have hkn : k < (names L).length := by simpa [names] using hks
      have hnk : (names L)[k] = L[k].name := by simp [names]
      have c0 : wr.cell? ⟨b, o + k * 2, none⟩ = some (.string L[k].name) := (HB.out.cell (p := ⟨b, o + k * 2, none⟩) hbw).trans (hrow k hks).1
      have c1 : wr.cell? ⟨b, o + k * 2 + 1, none⟩ = some (.slice L[k].A L[k].len L[k].cap) := (HB.out.cell (p := ⟨b, o + k * 2 + 1, none⟩) hbw).trans (hrow k hks).2
      have HNK := Lib.hid hnk
      clear hrow hnk
      have hsz := HB.out.size
      cases he : (L[k].name.toList == n.toList)
      all_goals
        have HE := Lib.hid he
        clear he
        go_wp2_with fail
        refine (sameName_any L[k] n b0 wr ((HB.out.cell (p := ⟨b0, 0, none⟩) hb0).trans HC.out) (Nat.lt_of_lt_of_le hb0 hsz)).mono ?_
        rintro e w1 ⟨rfl, hb1⟩
        rw [HE.out]
        have HB1 := Lib.hid (HB.out.trans (hb1.mono hsz))
        clear hb1
      · go_wp2_with fail
        go_roundw
        case rel =>
          refine ⟨k + 1, by omega, by go_num, HB1.out, fun j hj hj' => ?_⟩
          by_cases hjk : j = k
          · subst hjk; rw [HNK.out]; exact HE.out
          · exact HALL.out j (by omega) hj'
        case measure => simp [intOf]; omega
      · go_wp2_with fail
        go_ret
        exact ⟨ret_i (idxL_at hkn (by rw [HNK.out]; exact HE.out) HALL.out).symm, HB1.out⟩
    · obtain rfl : k = len := by omega
      go_wp2_with fail
      go_ret
      exact ⟨ret_i (idxL_no (fun j hj => HALL.out j (by rw [← HA.out.size]; simpa [names] using hj) hj)).symm, HB.out⟩

set_option maxHeartbeats 1000000 in
theorem shapeAt_any (n : ByteArray) (A : Option Addr) (len cap : Nat) (L : List Shp) (w : World) (hcap : cap ≤ maxLen) (hl : len ≤ cap) (hA : ShapesAt w A len L) :
    Calls Try.prog 28 #[.slice A len cap, .string n] w fun e w' => e = .returned (.int .i64 (idxL (names L) n)) ∧ w = w' := by
  have hlen : len ≤ 9223372036854775807 := by unfold maxLen at hcap; omega
  have HA := Lib.hid hA
  clear hA
  go_enter Try.func28, Try.ntmps28
  go_wp2_with fail
  go_loop [5] (fun i => ∃ k : Nat, k ≤ len ∧ i = .int .i64 k ∧ ∀ j, j < k → (hj : j < (names L).length) → ((names L)[j].toList == n.toList) = false) (fun i => len - (intOf i).toNat)
  case atStart => exact ⟨0, by omega, rfl, fun j h => absurd h (by omega)⟩
  case round =>
    obtain ⟨k, hk, rfl, hall⟩ := hrel
    have HALL := Lib.hid hall
    clear hall
    by_cases hlt : k < len
    · obtain ⟨b, o, rfl, hbw, hrow⟩ := HA.out.at_ (by omega)
      have hks : k < L.length := by rw [HA.out.size]; exact hlt
      have hkn : k < (names L).length := by simpa [names] using hks
      have hnk : (names L)[k] = L[k].name := by simp [names]
      have c0 := (hrow k hks).1
      have HNK := Lib.hid hnk
      clear hrow hnk
      cases he : (L[k].name.toList == n.toList)
      · go_wp2_with fail
        go_round
        case rel =>
          refine ⟨k + 1, by omega, by go_num, fun j hj hj' => ?_⟩
          by_cases hjk : j = k
          · subst hjk; rw [HNK.out]; exact he
          · exact HALL.out j (by omega) hj'
        case measure => simp [intOf]; omega
      · go_wp2_with fail
        go_ret
        exact ⟨ret_i (idxL_at hkn (by rw [HNK.out]; exact he) HALL.out).symm, rfl⟩
    · obtain rfl : k = len := by omega
      go_wp2_with fail
      go_ret
      exact ⟨ret_i (idxL_no (fun j hj => HALL.out j (by rw [← HA.out.size]; simpa [names] using hj) hj)).symm, rfl⟩


set_option maxHeartbeats 1000000 in
theorem sameTexts_any (A B : Option Addr) (len c1 c2 : Nat) (ss : List ByteArray) (w : World) (h1 : len ≤ c1) (h2 : len ≤ c2) (hc1 : c1 ≤ maxLen) (hc2 : c2 ≤ maxLen) (hA : StrsAt w A len ss) (hB : StrsAt w B len ss) :
    Calls Try.prog 29 #[.slice A len c1, .slice B len c2] w fun e w' => e = .returned (.bool true) ∧ ∃ n, w' = w.drewN n := by
  have hlen : len ≤ 9223372036854775807 := by unfold maxLen at hc1; omega
  have HA := Lib.hid hA
  have HB := Lib.hid hB
  clear hA hB
  go_enter Try.func29, Try.ntmps29
  go_wp2_with fail
  go_loopg [5] len (fun g i wx => ∃ k : Nat, g = len - k ∧ k ≤ len ∧ i = .int .i64 k ∧ ∃ n, w.drewN n = wx)
  case atStart => exact ⟨0, by omega, by omega, rfl, 0, rfl⟩
  case round =>
    obtain ⟨k, hg, hk, rfl, n, rfl⟩ := hrel
    have HG := Lib.hid hg
    clear hg
    by_cases hlt : k < len
    · obtain ⟨b, o, rfl, hbw, hrow⟩ := HA.out.at_ (by omega)
      obtain ⟨b', o', rfl, hbw', hrow'⟩ := HB.out.at_ (by omega)
      have hks : k < ss.length := by rw [HA.out.size]; exact hlt
      have x1 := hrow k hks
      have x2 := hrow' k hks
      have y1 : (k : Int) < (c1 : Int) := by omega
      have y2 : (k : Int) < (c2 : Int) := by omega
      have y3 : (0 : Int) ≤ (k : Int) := Int.natCast_nonneg _
      have y4 : (k : Int) < (len : Int) := by omega
      clear hrow hrow'
      generalize ss[k] = s at x1 x2
      go_wp2_with fail
      go_quiet (fail)
      go_wp2_with fail
      go_roundg (len - (k + 1))
      case rel => exact ⟨k + 1, rfl, by omega, by go_num, _, rfl⟩
      case measure => have := HG.out; omega
    · obtain rfl : k = len := by omega
      go_wp2_with fail
      go_ret
      exact ⟨rfl, _, rfl⟩
end Go.Proofs.Ytbkagjngckfonaa
