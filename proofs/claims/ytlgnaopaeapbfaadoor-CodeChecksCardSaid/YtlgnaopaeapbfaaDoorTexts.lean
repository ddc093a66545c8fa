/- Contract of grafteryref.texts: lists of texts, one behind the other, in new memory. -/
import Derived.Test.YtlgnaopaeapbfaaDoorPrims
import Derived.Deep.LoopGhost
namespace Go.Proofs.YtlgnaopaeapbfaaDoor
open Go.RowKit Go.ChangeShapes Go.WideShapes Go.Deep
set_option linter.unusedVariables false

theorem infoString : (Tryd.prog.info? 9).map (fun i => (i.zero, i.size, i.bytes)) = some (some (.string ByteArray.empty), 1, 16) := by kernel_rfl

/-- A slice value that a call made: it owns just these texts. -/
theorem strsAt_owned {w : World} {base e : Nat} {v : Value} {n : Nat} {ss : List ByteArray} (h : w.ownsRow base e 1 v n (ss.map Value.string)) :
    ∃ A cap, v = .slice A n cap ∧ StrsAt w A n ss ∧ n ≤ cap ∧ cap ≤ maxLen := by
  have hl : ss.length = n := by have := h.1; simpa using this
  rcases h.2 with ⟨rfl, hx⟩ | ⟨g, cap, cur, rfl, hg, hh, hr⟩
  · subst hx
    have hn : ss = [] := List.length_eq_zero_iff.1 hl
    subst hn
    exact ⟨none, 0, rfl, ⟨rfl, fun h => absurd h (by omega)⟩, by omega, by unfold maxLen; omega⟩
  · refine ⟨some ⟨g, 0, none⟩, cap, rfl, ⟨hl, fun _ => ⟨g, 0, rfl, ?_, fun i hi => ?_⟩⟩, ?_, ?_⟩
    · exact (Array.getElem?_eq_some_iff.1 hh).1
    · have := h.cellAt i (by omega)
      rw [Nat.zero_add, this]
      simp [hi]
    · exact hr.1
    · exact hr.2.1

theorem own_from {w : World} {base : Nat} {e : TypeId} {size : Nat} {v : Value} {n : Nat} {xs : List Value} (h : w.ownsRow base e size v n xs) : ∀ k, v.ownBlock = some k → base ≤ k := by
  intro k hk
  rcases h.2 with ⟨rfl, _⟩ | ⟨g, cap, cur, rfl, hg, _⟩
  · cases hk
  · cases hk; exact hg

/-- Rows of texts in memory: a slice of slices. -/
structure RowsAt (w : World) (A : Option Addr) (len : Nat) (R : List (List ByteArray)) : Prop where
  size : R.length = len
  at_ : 0 < len → ∃ b o, A = some ⟨b, o, none⟩ ∧ b < w.heap.size ∧ ∀ i, (h : i < R.length) → ∃ A' c', w.cell? ⟨b, o + i, none⟩ = some (.slice A' R[i].length c') ∧ R[i].length ≤ c' ∧ c' ≤ maxLen ∧ StrsAt w A' R[i].length R[i]

set_option maxHeartbeats 1000000 in
theorem texts_any (A : Option Addr) (len cap : Nat) (R : List (List ByteArray)) (w : World) (hcap : cap ≤ maxLen) (hl : len ≤ cap) (hR : RowsAt w A len R) (hsz : R.flatten.length ≤ 1099511627776) :
    Calls Tryd.prog 39 #[.slice A len cap] w fun e w' => ∃ v, e = .returned v ∧ w'.ownsRow w.heap.size 9 1 v R.flatten.length (R.flatten.map Value.string) ∧ Below w.heap.size w w' := by
  have hlen : len ≤ 9223372036854775807 := by unfold maxLen at hcap; omega
  obtain ⟨i0, hi, hz0, hz1, hz2⟩ := info_parts infoString
  have HR := Lib.hid hR
  clear hR
  go_enter Tryd.func39, Tryd.ntmps39
  go_wp2_with fail
  go_loopg [3, 4] len (fun g v i wr => ∃ k : Nat, g = len - k ∧ k ≤ len ∧ i = .int .i64 k ∧ wr.ownsRow w.heap.size 9 1 v (R.take k).flatten.length ((R.take k).flatten.map Value.string) ∧ Below w.heap.size w wr)
  case atStart => exact ⟨0, by omega, by omega, rfl, by simpa using World.ownsRow_nil _ _ _ _, Below.refl _ _⟩
  case round =>
    obtain ⟨k, hg, hk, rfl, hown, hb⟩ := hrel
    have HG := Lib.hid hg
    have HO := Lib.hid hown
    have HB := Lib.hid hb
    clear hg hown hb
    by_cases hlt : k < len
    · obtain ⟨b, o, rfl, hbw, hrow⟩ := HR.out.at_ (by omega)
      have hks : k < R.length := by rw [HR.out.size]; exact hlt
      obtain ⟨A', c', hc, hlc, hcc, hst⟩ := hrow k hks
      have HST := Lib.hid hst
      have hmx : c' ≤ 9223372036854775807 := by unfold maxLen at hcc; omega
      have HRK := Lib.hid (show (R.take (k + 1)).flatten = (R.take k).flatten ++ R[k] from by
        rw [List.take_succ_eq_append_getElem hks, List.flatten_append]; simp)
      have HSZ := Lib.hid (show (R.take k).flatten.length + R[k].length ≤ 1099511627776 from by
        have h1 : R.flatten = (R.take (k + 1)).flatten ++ (R.drop (k + 1)).flatten := by rw [← List.flatten_append, List.take_append_drop]
        have h2 := congrArg List.length h1
        rw [HRK.out, List.length_append, List.length_append] at h2
        omega)
      clear hst hrow
      obtain ⟨m, hm⟩ : ∃ m, m = R[k].length := ⟨_, rfl⟩
      have hmc : m ≤ c' := by rw [hm]; exact hlc
      rw [← hm] at hc hlc
      have HM := Lib.hid hm
      clear hm
      go_wp2_with fail
      obtain ⟨wo, rfl⟩ : ∃ wo : World, wo = wr := ⟨_, rfl⟩
      go_loopw [3, 5] (fun v i wi => ∃ j : Nat, j ≤ m ∧ i = .int .i64 j ∧ wi.ownsRow w.heap.size 9 1 v ((R.take k).flatten.length + j) (((R.take k).flatten ++ R[k].take j).map Value.string) ∧ Below w.heap.size w wi) (fun _ i _ => m - (intOf i).toNat)
      case atStart => exact ⟨0, by omega, rfl, by simpa using HO.out, HB.out⟩
      case round =>
        obtain ⟨j, hj, rfl, hown, hb⟩ := hrel
        have HO2 := Lib.hid hown
        have HB2 := Lib.hid hb
        have hc1 : wr.cell? ⟨b, o + k, none⟩ = some (.slice A' m c') := (hb.cell (p := ⟨b, o + k, none⟩) hbw).trans hc
        have hsz2 := hb.size
        clear hown hb
        by_cases hjm : j < m
        · obtain ⟨b2, o2, hA', hb2w, hrow2⟩ := HST.out.at_ (by rw [← HM.out]; omega)
          subst hA'
          have hjr : j < R[k].length := by rw [← HM.out]; exact hjm
          have hc2 : wr.cell? ⟨b2, o2 + j, none⟩ = some (.string R[k][j]) := (HB2.out.cell (p := ⟨b2, o2 + j, none⟩) hb2w).trans (hrow2 j hjr)
          clear hrow2
          have HJ := Lib.hid (show (R.take k).flatten.length + j < 1099511627776 from by have := HSZ.out; have := HM.out; omega)
          go_wp2_with (at_builtin; refine wpList_append_own _ rfl (.tmp 21) (.tmp 29) 22 rfl w.heap.size 9 i0 _ 1 16 Tryd.underlying22 hi hz0 hz1 hz2 rfl (by decide) _ _ _ rfl (HO2.out.alloc _) ⟨wr.heap.size,0,none⟩ 1 1 [.string _] rfl rfl (cell_one_new _ _ _) (fun x hx => by simp at hx; subst hx; rfl) (by have := HJ.out; unfold maxLen; omega) (by have := HJ.out; omega) (by simp; omega) ?_; intro v' w1 hown' hg' _)
          have hb1 : Below w.heap.size w w1 := (HB2.out.alloc HB2.out.size _).grown hg' (Nat.le_trans HB2.out.size (by simp)) (own_from HO2.out)
          go_roundw
          case measure => simp only [intOf, Int.toNat_natCast]; omega
          refine ⟨j + 1, by omega, rfl, ?_, hb1⟩
          · have e1 : (R.take k).flatten ++ R[k].take (j + 1) = ((R.take k).flatten ++ R[k].take j) ++ [R[k][j]] := by
              rw [List.append_assoc, List.take_succ_eq_append_getElem hjr]
            have e2 : (R.take k).flatten.length + (j + 1) = (R.take k).flatten.length + j + 1 := by omega
            rw [e1, e2, List.map_append]
            exact hown'
        · obtain rfl : j = m := by omega
          go_wp2_with fail
          go_roundg (len - (k + 1))
          case measure => have := HG.out; omega
          refine ⟨k + 1, rfl, hlt, rfl, ?_, HB2.out⟩
          have h2 := HO2.out
          rw [HM.out, List.take_length] at h2
          rw [HRK.out, List.length_append]
          exact h2
    · obtain rfl : k = len := by omega
      go_wp2_with fail
      go_ret
      refine ⟨_, rfl, ?_, HB.out⟩
      have h2 := HO.out
      rwa [List.take_of_length_le (by rw [HR.out.size]; exact Nat.le_refl _)] at h2
end Go.Proofs.YtlgnaopaeapbfaaDoor
