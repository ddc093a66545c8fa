/- Contract of grafteryref.NameMay. -/
import Derived.Test.YtbkagjngckfonaaDoorRead
import Derived.Deep.QuietTactic
import Derived.Deep.LoopGhost
namespace Go.Proofs.YtbkagjngckfonaaDoor
open Go.RowKit
set_option linter.unusedVariables false

set_option maxHeartbeats 2000000 in
theorem nameMay_any (s : ByteArray) (hs : s.size ≤ maxLen) (w : World) :
    Calls Tryd.prog 31 #[.string s] w fun e w' => e = .returned (.bool (nameB s.data.toList)) ∧ ∃ n, w' = w.drewN n := by
  unfold maxLen at hs
  by_cases h0 : s.size = 0
  · have e1 := str_nil h0
    have e2 : s.toList.isEmpty = true := by simp [e1]
    have e3 : inB (s.size : Int) 1 16 = false := inB_no (by omega)
    have HF := Lib.hid (show nameB s.data.toList = false from by rw [← ByteArray.toList_eq, e1]; rfl)
    go_enter Tryd.func31, Tryd.ntmps31
    go_wp2_with (first | (go_at_call 37; refine (in_any _ _ _ _).mono ?_; rintro e w' ⟨rfl, rfl⟩) | (go_at_call 40; refine (digit_any _ _).mono ?_; rintro e w' ⟨rfl, rfl⟩))
    go_ret
    exact ⟨ret_bool HF.out.symm, 0, rfl⟩
  have hpos : 0 < s.size := by omega
  clear h0
  by_cases h16 : 16 < s.size
  · have HF := Lib.hid (nameB_long (l := s.data.toList) (by simpa using h16))
    have e3 : inB (s.size : Int) 1 16 = false := inB_no (by omega)
    go_enter Tryd.func31, Tryd.ntmps31
    go_wp2_with (first | (go_at_call 37; refine (in_any _ _ _ _).mono ?_; rintro e w' ⟨rfl, rfl⟩) | (go_at_call 40; refine (digit_any _ _).mono ?_; rintro e w' ⟨rfl, rfl⟩))
    go_ret
    exact ⟨ret_bool HF.out.symm, 0, rfl⟩
  have e3 : inB (s.size : Int) 1 16 = true := inB_yes (by omega)
  by_cases hd : digB s[0] = true
  · have HF := Lib.hid (nameB_first hpos hd)
    go_enter Tryd.func31, Tryd.ntmps31
    go_wp2_with (first | (go_at_call 37; refine (in_any _ _ _ _).mono ?_; rintro e w' ⟨rfl, rfl⟩) | (go_at_call 40; refine (digit_any _ _).mono ?_; rintro e w' ⟨rfl, rfl⟩))
    go_ret
    exact ⟨ret_bool HF.out.symm, 0, rfl⟩
  have hd0 : digB s[0] = false := by simpa using hd
  clear hd
  by_cases hbad : ∃ h : 1 < s.size, (s[0].toNat : Int) = 45 ∧ digB s[1] = true
  · obtain ⟨h1, h45, hd1⟩ := hbad
    have HF := Lib.hid (show nameB s.data.toList = false from by
      rw [nameB_end2' h1 h45]
      exact nameB_minus hd1)
    have h45' : ((s[0].toNat : Int) == 45) = true := by simpa using h45
    clear h45
    go_enter Tryd.func31, Tryd.ntmps31
    go_wp2_with (first | (go_at_call 37; refine (in_any _ _ _ _).mono ?_; rintro e w' ⟨rfl, rfl⟩) | (go_at_call 40; refine (digit_any _ _).mono ?_; rintro e w' ⟨rfl, rfl⟩))
    go_ret
    exact ⟨ret_bool HF.out.symm, 0, rfl⟩
  have hgood : ((s[0].toNat : Int) == 45) = false ∨ (((s[0].toNat : Int) == 45) = true ∧ s.size ≤ 1) ∨ (∃ h : 1 < s.size, ((s[0].toNat : Int) == 45) = true ∧ digB s[1] = false) := by
    by_cases h45 : (s[0].toNat : Int) = 45
    · by_cases h1 : 1 < s.size
      · exact Or.inr (Or.inr ⟨h1, by simpa using h45, by simpa using fun h => hbad ⟨h1, h45, h⟩⟩)
      · exact Or.inr (Or.inl ⟨by simpa using h45, by omega⟩)
    · exact Or.inl (by simpa using h45)
  have HN := Lib.hid (show ∀ (h : 1 < s.size), (s[0].toNat : Int) = 45 → digB s[1] = false from fun h h45 => by simpa using fun h' => hbad ⟨h, h45, h'⟩)
  clear hbad
  rcases hgood with h45 | ⟨h45, h1⟩ | ⟨h1, h45, hd1⟩
  all_goals
    go_enter Tryd.func31, Tryd.ntmps31
    go_wp2_with (first | (go_at_call 37; refine (in_any _ _ _ _).mono ?_; rintro e w' ⟨rfl, rfl⟩) | (go_at_call 40; refine (digit_any _ _).mono ?_; rintro e w' ⟨rfl, rfl⟩))
    go_loopg [3] s.size (fun g i wr => ∃ k n : Nat, g = s.size - k ∧ k ≤ s.size ∧ i = .int .i64 k ∧ wr = w.drewN n ∧ ∀ j, (h : j < k) → (h' : j < s.size) → okB s[j] = true)
    case atStart => exact ⟨0, 0, by omega, by omega, rfl, rfl, fun j h => absurd h (by omega)⟩
    case round =>
      obtain ⟨k, n, hg, hk, rfl, rfl, hall⟩ := hrel
      have HG := Lib.hid hg
      clear hg
      have HA := Lib.hid hall
      clear hall
      by_cases hlt : k < s.size
      · go_wp2_with (first | (go_at_call 40; refine (digit_any _ _).mono ?_; rintro e w' ⟨rfl, rfl⟩))
        all_goals
          go_loopw [4, 5] (fun b i wr => ∃ m n' : Nat, m ≤ 10 ∧ i = .int .i64 m ∧ b = .bool (okAt s[k] m) ∧ wr = w.drewN n') (fun _ i _ => 10 - (intOf i).toNat)
          case atStart => exact ⟨0, n, by omega, rfl, congrArg Value.bool (by first | rw [okAt_dig ‹_›] | rw [okAt_lo ‹_› ‹_›] | rw [okAt_no ‹_› ‹_›]), rfl⟩
          case round =>
            obtain ⟨m, n', hm, rfl, rfl, rfl⟩ := hrel
            by_cases hm' : m < 10
            · cases hb : okAt s[k] m
              · go_wp2
                go_quiet (fail)
                go_wp2
                go_roundw
                case rel => exact ⟨m + 1, _, by omega, by go_num, by rw [okAt_succ hm', hb, signs_get hm']; rfl, rfl⟩
                case measure => simp [intOf]; omega
              · go_wp2
                go_quiet (fail)
                go_wp2
                go_roundw
                case rel => exact ⟨m + 1, _, by omega, by go_num, by rw [okAt_succ hm', hb]; rfl, rfl⟩
                case measure => simp [intOf]; omega
            · obtain rfl : m = 10 := by omega
              cases hb : okAt s[k] 10
              · go_wp2
                go_ret
                exact ⟨ret_bool (nameB_bad s[k] (str_mem hlt) hb).symm, _, rfl⟩
              · go_wp2
                have hg := HG.out
                go_roundg (s.size - (k + 1))
                case measure => omega
                case rel =>
                  refine ⟨k + 1, _, rfl, by omega, by go_num, rfl, fun j hj hj' => ?_⟩
                  by_cases hjk : j = k
                  · subst hjk; exact hb
                  · exact HA.out j (by omega) hj'
      · obtain rfl : k = s.size := by omega
        go_wp2
        go_ret
        refine ⟨ret_bool ?_, n, rfl⟩
        by_cases h1 : s.size = 1
        · exact (nameB_end1 h1 hd0 (fun j hj => HA.out j hj hj)).symm
        · rw [nameB_end2 (by omega) (by omega) hd0 (fun j hj => HA.out j hj hj)]
          cases h45 : decide ((s[0].toNat : Int) = 45)
          · rfl
          · rw [HN.out (by omega) (of_decide_eq_true h45)]; rfl
end Go.Proofs.YtbkagjngckfonaaDoor
