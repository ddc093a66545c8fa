/- Contract of read.check. -/
import Derived.Test.YtbkagjngckfonaaDoorDatum
import Derived.Test.YtbkagjngckfonaaDoorRead
namespace Go.Proofs.YtbkagjngckfonaaDoor
open Go.RowKit Go.ChangeShapes Go.WideShapes Go.Deep
set_option linter.unusedVariables false

section
variable {H : Type} {enc : TypeId × Value → H}

set_option maxHeartbeats 1000000 in
theorem check_kind (k n lev : Int) (s : ByteArray) (A : Option Addr) (len cap : Nat) (w : World) (hk : k < 1 ∨ 4 < k) :
    Calls Tryd.prog 21 #[.agg #[.int .i64 k, .int .i64 n, .string s, .slice A len cap], .int .i64 lev] w fun e w' => e = .returned (.int .i64 3) ∧ Below w.heap.size w w' := by
  rcases hk with hk | hk
  all_goals
    go_enter Tryd.func21, Tryd.ntmps21
    go_wp2_with fail
    all_goals go_ret
    all_goals exact ⟨rfl, (Below.refl _ _).alloc (Nat.le_refl _) _⟩

set_option maxHeartbeats 1000000 in
theorem check_deep (k n lev : Int) (s : ByteArray) (A : Option Addr) (len cap : Nat) (w : World) (hk1 : 1 ≤ k) (hk4 : k ≤ 4) (hl : 40 < lev) :
    Calls Tryd.prog 21 #[.agg #[.int .i64 k, .int .i64 n, .string s, .slice A len cap], .int .i64 lev] w fun e w' => e = .returned (.int .i64 8) ∧ Below w.heap.size w w' := by
  go_enter Tryd.func21, Tryd.ntmps21
  go_wp2_with fail
  go_ret
  exact ⟨rfl, (Below.refl _ _).alloc (Nat.le_refl _) _⟩

set_option maxHeartbeats 4000000 in
theorem check_step (r : Nat) (ih : ∀ (lev : Int) (w : World) (cs : List Value) (d : DataW H), lev + r = 41 → 1 ≤ lev → Rd enc w 24 cs d → Calls Tryd.prog 21 #[.agg cs.toArray, .int .i64 lev] w fun e w' => e = .returned (.int .i64 (fault r d)) ∧ Below w.heap.size w w')
    (k n lev : Int) (s : ByteArray) (A : Option Addr) (len cap : Nat) (it : DataW H) (w : World) (hl : lev + (r + 1 : Nat) = 41) (hl1 : 1 ≤ lev) (hk1 : 1 ≤ k) (hk4 : k ≤ 4) (hn : -9223372036854775808 ≤ n ∧ n ≤ 9223372036854775807) (hs : s.size ≤ maxLen) (hA : SlAt enc w 24 4 A len cap it) :
    Calls Tryd.prog 21 #[.agg #[.int .i64 k, .int .i64 n, .string s, .slice A len cap], .int .i64 lev] w fun e w' => e = .returned (.int .i64 (fault (r + 1) (.agg [.lit (.int .i64 k), .lit (.int .i64 n), .lit (.string s.data.toList), it]))) ∧ Below w.heap.size w w' := by
  have IH := Lib.hid ih
  have HL := Lib.hid hl
  have HA := Lib.hid hA
  have hl40 : lev ≤ 40 := by omega
  have hlen : len ≤ 9223372036854775807 := by have := hA.le; have := hA.wide; unfold maxLen at this; omega
  obtain ⟨hn1, hn2⟩ := hn
  clear ih hl hA
  have hz : (s.size = 0 ∧ s.toList = [] ∧ s.toList.isEmpty = true) ∨ (0 < s.size ∧ ¬ s.toList = [] ∧ s.toList.isEmpty = false) := by
    by_cases h : s.size = 0
    · exact Or.inl ⟨h, str_nil h, by simp [str_nil h]⟩
    · exact Or.inr ⟨by omega, str_some (by omega), str_empty (by omega)⟩
  have hz0 : s.size = 0 ∨ 0 < s.size := by omega
  have HF0 := Lib.hid (fault_mk_ok (r := r) (k := k) (n := n) (s := s.data.toList) (it := it) ⟨hk1, hk4⟩)
  have hn0 : n = 0 ∨ (n == 0) = false := by
    by_cases h : n = 0
    · exact Or.inl h
    · exact Or.inr (by simpa using h)
  obtain rfl | rfl | rfl | rfl : k = 1 ∨ k = 2 ∨ k = 3 ∨ k = 4 := by omega
  all_goals
    clear hk1 hk4
    rcases hz with ⟨hz1, hz2, hz3⟩ | ⟨hz1, hz2, hz3⟩
  all_goals
    rcases hn0 with rfl | hn0
  all_goals
    have HZ := Lib.hid hz1
    clear hz1 hz0
    go_enter Tryd.func21, Tryd.ntmps21
    go_wp2_with (go_at_call 34; refine (symbol_any _ hs _).mono ?_; rintro e w' ⟨rfl, rfl⟩)
    all_goals first
      | (go_ret
         have hz1 := HZ.out
         have hz5 : s.data.toList.length = s.size := (Lib.size_eq s).symm
         have hi := HA.out.size
         first
           | exact ⟨ret_i (fault_mk_bad (e := 2) (by omega) (hf2 (by omega)) (by decide)).symm, (Below.refl _ _).alloc (Nat.le_refl _) _⟩
           | exact ⟨ret_i (fault_mk_bad (e := 4) (by omega) (hf4n rfl (by simpa using ‹(!nameB _) = true›)) (by decide)).symm, (Below.refl _ _).alloc (Nat.le_refl _) _⟩
           | exact ⟨ret_i (fault_mk_bad (e := 4) (by omega) (hf4 (by omega) (by first | omega | exact fun _ => by simpa using ‹(!nameB _) = false›) (by omega)) (by decide)).symm, (Below.refl _ _).alloc (Nat.le_refl _) _⟩)
      | (have hz1 := HZ.out
         have hz5 : s.data.toList.length = s.size := (Lib.size_eq s).symm
         have hi := HA.out.size
         have HF := Lib.hid (HF0.out (hf0 (by omega) (by first | omega | exact fun _ => by simpa using ‹(!nameB _) = false›) (by omega)))
         clear hz1 hz5 hi
         go_loopw [92] (fun i wr => ∃ k : Nat, k ≤ len ∧ i = .int .i64 k ∧ Below w.heap.size w wr ∧ ∀ j, j < k → (hj : j < (elems it).length) → fault r (elems it)[j] = 0) (fun i _ => len - (intOf i).toNat)
         case atStart => exact ⟨0, by omega, rfl, (Below.refl _ _).alloc (Nat.le_refl _) _, fun j h => absurd h (by omega)⟩
         case round =>
           obtain ⟨k, hk, rfl, hb, hall⟩ := hrel
           have HALL := Lib.hid hall
           clear hall
           by_cases hlt : k < len
           · first
             | (exfalso; omega)
             | (obtain ⟨b, o, rfl, hbw, hrow⟩ := HA.out.at_ (by omega)
                obtain ⟨cs', hcl, hrw, hrd⟩ := hrow k (by rw [HA.out.size]; exact hlt)
                clear hrow
                obtain ⟨k', n', s', A', len', cap', it', rfl, hd', hk', hn', hs', hsl'⟩ := hrd.datum
                have hrw' := hrw.below hb hbw
                have c0 : wr.cell? ⟨b, o + k * 4, none⟩ = some (.int .i64 k') := hrw' 0 (by simp)
                have c1 : wr.cell? ⟨b, o + k * 4 + 1, none⟩ = some (.int .i64 n') := hrw' 1 (by simp)
                have c2 : wr.cell? ⟨b, o + k * 4 + 2, none⟩ = some (.string s') := hrw' 2 (by simp)
                have c3 : wr.cell? ⟨b, o + k * 4 + 3, none⟩ = some (.slice A' len' cap') := hrw' 3 (by simp)
                have HRD := Lib.hid hrd
                clear hrw hrw' hrd hd' hsl' hcl
                have hkl : k < (elems it).length := by rw [HA.out.size]; exact hlt
                obtain ⟨f, hf⟩ : ∃ f, f = fault r ((elems it)[k]'hkl) := ⟨_, rfl⟩
                have HFK := Lib.hid hf
                clear hf
                have HB := Lib.hid hb
                have hsz := hb.size
                clear hb
                go_wp2_with fail
                refine (IH.out (lev + 1) _ [.int .i64 k', .int .i64 n', .string s', .slice A' len' cap'] _ (by have := HL.out; omega) (by omega) (HRD.out.below readableDatum rowDatum (HB.out.alloc HB.out.size _))).mono ?_
                rintro e w1 ⟨rfl, hb1⟩
                rw [← HFK.out]
                have HB1 := Lib.hid ((HB.out.alloc HB.out.size (.cells #[.int .i64 k', .int .i64 n', .string s', .slice A' len' cap'] 24)).trans (hb1.mono (by simp; omega)))
                clear hb1
                by_cases hf0 : f = 0
                · have hf1 : (f != 0) = false := by simp [hf0]
                  have HF0' := Lib.hid hf0
                  clear hf0
                  go_wp2_with fail
                  go_roundw
                  case rel =>
                    refine ⟨k + 1, by omega, by go_num, HB1.out, fun j hj hj' => ?_⟩
                    by_cases hjk : j = k
                    · subst hjk; exact HFK.out.symm.trans HF0'.out
                    · exact HALL.out j (by omega) hj'
                  case measure => simp [intOf]; omega
                · have hf1 : (f != 0) = true := by simpa using hf0
                  have HF0' := Lib.hid hf0
                  clear hf0
                  go_wp2_with fail
                  go_ret
                  refine ⟨ret_i ?_, HB1.out⟩
                  rw [HF.out, firstErr_at (i := k) (by simpa using hkl) (fun j hj => by simpa using HALL.out j hj (by omega)) (by simpa using HFK.out ▸ HF0'.out)]
                  simpa using HFK.out)
           · obtain rfl : k = len := by omega
             go_wp2_with fail
             go_ret
             refine ⟨ret_i ?_, hb⟩
             rw [HF.out, firstErr_zero]
             intro x hx
             obtain ⟨y, hy, rfl⟩ := List.mem_map.1 hx
             obtain ⟨i, hi, rfl⟩ := List.getElem_of_mem hy
             exact HALL.out i (by rw [← HA.out.size]; exact hi) hi)

/-- read.check answers 'fault', whatever the datum; memory that was there stays. -/
theorem check_any (r : Nat) : ∀ (lev : Int) (w : World) (cs : List Value) (d : DataW H), lev + r = 41 → 1 ≤ lev → Rd enc w 24 cs d →
    Calls Tryd.prog 21 #[.agg cs.toArray, .int .i64 lev] w fun e w' => e = .returned (.int .i64 (fault r d)) ∧ Below w.heap.size w w' := by
  induction r with
  | zero =>
    intro lev w cs d hl hl1 hd
    obtain ⟨k, n, s, A, len, cap, it, rfl, rfl, hk, hn, hs, hA⟩ := hd.datum
    by_cases hk' : k < 1 ∨ 4 < k
    · rw [fault_mk_kind hk']
      exact check_kind k n lev s A len cap w hk'
    · rw [fault_mk_deep (by omega)]
      exact check_deep k n lev s A len cap w (by omega) (by omega) (by omega)
  | succ r ih =>
    intro lev w cs d hl hl1 hd
    obtain ⟨k, n, s, A, len, cap, it, rfl, rfl, hk, hn, hs, hA⟩ := hd.datum
    by_cases hk' : k < 1 ∨ 4 < k
    · rw [fault_mk_kind hk']
      exact check_kind k n lev s A len cap w hk'
    · exact check_step r ih k n lev s A len cap it w hl hl1 (by omega) (by omega) hn hs hA
end
end Go.Proofs.YtbkagjngckfonaaDoor
