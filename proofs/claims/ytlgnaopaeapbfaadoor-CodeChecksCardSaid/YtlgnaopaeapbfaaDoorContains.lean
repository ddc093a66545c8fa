/- Contracts of slices.Index and slices.Contains at []string. -/
import Derived.Test.YtlgnaopaeapbfaaDoorPrims
namespace Go.Proofs.YtlgnaopaeapbfaaDoor
open Go.RowKit Go.ChangeShapes Go.WideShapes Go.Deep
set_option linter.unusedVariables false

def idxL (ss : List ByteArray) (s : ByteArray) : Int := if inL ss s then ((ss.findIdx fun x => x.toList == s.toList : Nat) : Int) else -1
theorem idxL_at {ss : List ByteArray} {s : ByteArray} {k : Nat} (hk : k < ss.length) (h : (ss[k].toList == s.toList) = true) (hb : ∀ j, j < k → (hj : j < ss.length) → (ss[j].toList == s.toList) = false) : idxL ss s = k := by
  have h1 : ss.findIdx (fun x => x.toList == s.toList) = k := (List.findIdx_eq hk).2 ⟨h, fun j hj => hb j hj (by omega)⟩
  unfold idxL
  rw [inL_yes hk h, h1]
  rfl
theorem idxL_no {ss : List ByteArray} {s : ByteArray} (h : ∀ j, (hj : j < ss.length) → (ss[j].toList == s.toList) = false) : idxL ss s = -1 := by
  unfold idxL
  rw [inL_no h]
  rfl
theorem idxL_in (ss : List ByteArray) (s : ByteArray) : decide (0 ≤ idxL ss s) = inL ss s := by
  unfold idxL
  cases inL ss s
  · rfl
  · simp

set_option maxHeartbeats 1000000 in
theorem index_any (s : ByteArray) (A : Option Addr) (len cap : Nat) (ss : List ByteArray) (w : World) (hc : cap ≤ maxLen) (hl : len ≤ cap) (hA : StrsAt w A len ss) :
    Calls Tryd.prog 29 #[.slice A len cap, .string s] w fun e w' => e = .returned (.int .i64 (idxL ss s)) ∧ w = w' := by
  have hlen : len ≤ 9223372036854775807 := by unfold maxLen at hc; omega
  have HA := Lib.hid hA
  clear hA
  go_enter Tryd.func29, Tryd.ntmps29
  go_wp2_with fail
  go_loop [8] (fun i => ∃ k : Nat, k ≤ len ∧ i = .int .i64 k ∧ ∀ j, j < k → (hj : j < ss.length) → (ss[j].toList == s.toList) = false) (fun i => len - (intOf i).toNat)
  case atStart => exact ⟨0, by omega, rfl, fun j h => absurd h (by omega)⟩
  case round =>
    obtain ⟨k, hk, rfl, hall⟩ := hrel
    have HALL := Lib.hid hall
    clear hall
    by_cases hlt : k < len
    · obtain ⟨b, o, rfl, hbw, hrow⟩ := HA.out.at_ (by omega)
      have hks : k < ss.length := by rw [HA.out.size]; exact hlt
      have hc := hrow k hks
      clear hrow
      cases he : (ss[k].toList == s.toList)
      · have he' : (s.toList == ss[k].toList) = false := by rw [Bool.beq_comm]; exact he
        go_wp2_with fail
        go_round
        case rel =>
          refine ⟨k + 1, by omega, by go_num, fun j hj hj' => ?_⟩
          by_cases hjk : j = k
          · subst hjk; exact he
          · exact HALL.out j (by omega) hj'
        case measure => simp [intOf]; omega
      · have he' : (s.toList == ss[k].toList) = true := by rw [Bool.beq_comm]; exact he
        go_wp2_with fail
        go_ret
        exact ⟨ret_i (idxL_at hks he HALL.out).symm, rfl⟩
    · obtain rfl : k = len := by omega
      go_wp2_with fail
      go_ret
      exact ⟨ret_i (idxL_no (fun j hj => HALL.out j (by rw [← HA.out.size]; exact hj) hj)).symm, rfl⟩

set_option maxHeartbeats 1000000 in
theorem contains_any (s : ByteArray) (A : Option Addr) (len cap : Nat) (ss : List ByteArray) (w : World) (hc : cap ≤ maxLen) (hl : len ≤ cap) (hA : StrsAt w A len ss) :
    Calls Tryd.prog 17 #[.slice A len cap, .string s] w fun e w' => e = .returned (.bool (inL ss s)) ∧ w = w' := by
  go_enter Tryd.func17, Tryd.ntmps17
  go_wp2_with fail
  refine (index_any s A len cap ss _ hc hl hA).mono ?_
  rintro e w1 ⟨rfl, rfl⟩
  go_wp2_with fail
  go_ret
  exact ⟨ret_bool (idxL_in ss s), rfl⟩
end Go.Proofs.YtlgnaopaeapbfaaDoor
