/- Contracts of grafteryref.In, grafteryref.digit, read.symbol, grafteryref.NameMay. -/
import Derived.Test.YtbkagjngckfonaaDoorRows
import Derived.Test.YtbkagjngckfonaaDoorShelf
import Derived.Test.YtbkagjngckfonaaDoorPlain
import Derived.WalkKit
import Derived.WalkSpells
import Derived.WalkLawsBesides
import Derived.Lib.Hide
import Derived.BigQuiet
namespace Go.Proofs.YtbkagjngckfonaaDoor
open Go.RowKit
set_option linter.unusedVariables false

theorem ret_bool {a b : Bool} (h : a = b) : Ending.returned (.bool a) = .returned (.bool b) := by rw [h]

set_option maxHeartbeats 400000 in
theorem in_any (a b c : Int) (w : World) :
    Calls Tryd.prog 37 #[.int .i64 a, .int .i64 b, .int .i64 c] w fun e w' => e = .returned (.bool (inB a b c)) ∧ w = w' := by
  go_enter Tryd.func37, Tryd.ntmps37
  go_wp2
  all_goals go_ret
  all_goals exact ⟨ret_bool (by unfold inB; simp; try omega), rfl⟩

set_option maxHeartbeats 400000 in
theorem digit_any (a : UInt8) (w : World) :
    Calls Tryd.prog 40 #[.int .u8 (a.toNat : Int)] w fun e w' => e = .returned (.bool (digB a)) ∧ w = w' := by
  go_enter Tryd.func40, Tryd.ntmps40
  go_wp2
  all_goals go_ret
  all_goals exact ⟨ret_bool (by unfold digB; rw [Bool.eq_iff_iff]; simp; try omega), rfl⟩

set_option maxHeartbeats 1000000 in
theorem symbol_any (s : ByteArray) (hs : s.size ≤ maxLen) (w : World) :
    Calls Tryd.prog 34 #[.string s] w fun e w' => e = .returned (.bool (nameB s.data.toList)) ∧ w = w' := by
  unfold maxLen at hs
  by_cases h0 : s.size = 0
  · have e1 := str_nil h0
    have e2 : s.toList.isEmpty = true := by simp [e1]
    have HF := Lib.hid (show nameB s.data.toList = false from by rw [← ByteArray.toList_eq, e1]; rfl)
    clear h0
    go_enter Tryd.func34, Tryd.ntmps34
    go_wp2
    go_ret
    exact ⟨ret_bool HF.out.symm, rfl⟩
  have hpos : 0 < s.size := by omega
  have e1 := str_some hpos
  have e2 := str_empty hpos
  by_cases h16 : 16 < s.size
  · have HF := Lib.hid (nameB_long (l := s.data.toList) (by simpa using h16))
    go_enter Tryd.func34, Tryd.ntmps34
    go_wp2
    go_ret
    exact ⟨ret_bool HF.out.symm, rfl⟩
  clear h0
  by_cases hd : 48 ≤ (s[0].toNat : Int) ∧ (s[0].toNat : Int) ≤ 57
  · obtain ⟨hd1, hd2⟩ := hd
    have HF := Lib.hid (nameB_first hpos (by simp [digB]; omega))
    go_enter Tryd.func34, Tryd.ntmps34
    go_wp2
    go_ret
    exact ⟨ret_bool HF.out.symm, rfl⟩
  have HD := Lib.hid (show digB s[0] = false from by simp [digB]; omega)
  have hd' : (s[0].toNat : Int) < 48 ∨ 57 < (s[0].toNat : Int) := by omega
  clear hd
  rcases hd' with hd | hd
  all_goals
    go_enter Tryd.func34, Tryd.ntmps34
    go_wp2
    go_loop [24] (fun i => ∃ k : Nat, k ≤ s.size ∧ i = .int .i64 k ∧ ∀ j, (h : j < k) → (h' : j < s.size) → okB s[j] = true) (fun i => s.size - (intOf i).toNat)
    case atStart => exact ⟨0, by omega, rfl, fun j h => absurd h (by omega)⟩
    case round =>
      obtain ⟨k, hk, rfl, hall⟩ := hrel
      have HA := Lib.hid hall
      clear hall
      by_cases hlt : k < s.size
      · go_wp2_with (go_at_call 38; refine (Tryd.strings_IndexByte _ _ _).mono ?_; rintro e w' ⟨rfl, rfl⟩)
        all_goals first
          | (go_ret; exact ⟨ret_bool (nameB_not hlt (by rw [okB_iff]; omega)).symm, rfl⟩)
          | (go_round
             case rel =>
               refine ⟨k + 1, by omega, by go_num, fun j hj hj' => ?_⟩
               by_cases hjk : j = k
               · subst hjk; rw [okB_iff]; omega
               · exact HA.out j (by omega) hj'
             case measure => simp [intOf]; omega)
      · obtain rfl : k = s.size := by omega
        go_wp2
        all_goals
          go_ret
          first
            | exact ⟨ret_bool (nameB_end1 (by omega) HD.out (fun j hj => HA.out j hj hj)).symm, rfl⟩
            | exact ⟨ret_bool (by rw [nameB_end2 (by omega) (by omega) HD.out (fun j hj => HA.out j hj hj), Bool.eq_iff_iff]; simp [digB]; omega), rfl⟩
end Go.Proofs.YtbkagjngckfonaaDoor
