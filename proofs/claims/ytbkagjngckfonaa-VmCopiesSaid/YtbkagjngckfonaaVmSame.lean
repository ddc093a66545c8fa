/- Contracts of grafterylaw.sameHeap and sameFunc at two that are alike. -/
import Derived.Test.YtbkagjngckfonaaFlat
import Derived.Test.YtbkagjngckfonaaShSame
namespace Go.Proofs.Ytbkagjngckfonaa
open Go.RowKit Go.ChangeShapes Go.WideShapes Go.Deep Go.ChangeAt
set_option linter.unusedVariables false

theorem cell_first (w : World) (cs ds : Array Value) (t u : TypeId) (j : Nat) : ((w.alloc (.cells cs t)).alloc (.cells ds u)).cell? ⟨w.heap.size, j, none⟩ = cs[j]? :=
  (World.cell?_alloc_lt _ _ ⟨w.heap.size, j, none⟩ (by simp)).trans (cell_new _ _ _ j)
theorem cell_second (w : World) (cs ds : Array Value) (t u : TypeId) (j : Nat) : ((w.alloc (.cells cs t)).alloc (.cells ds u)).cell? ⟨w.heap.size + 1, j, none⟩ = ds[j]? := by
  rw [show w.heap.size + 1 = (w.alloc (.cells cs t)).heap.size from by simp]; exact cell_new _ _ _ j

set_option maxHeartbeats 1000000 in
theorem sameHeap_any (A B : Option Addr) (len c1 c2 : Nat) (lim : Int) (C : List (List Value)) (w : World) (h1 : len ≤ c1) (h2 : len ≤ c2) (hc1 : c1 ≤ maxLen) (hc2 : c2 ≤ maxLen) (hA : RowsF w A len 3 C) (hB : RowsF w B len 3 C) (hC : ∀ c ∈ C, IsWord c) :
    Calls Try.prog 19 #[.agg #[.slice A len c1, .int .i64 lim], .agg #[.slice B len c2, .int .i64 lim]] w fun e w' => e = .returned (.bool true) ∧ Below w.heap.size w w' := by
  have HA := Lib.hid hA
  have HB := Lib.hid hB
  have HC := Lib.hid hC
  clear hA hB hC
  go_enter Try.func19, Try.ntmps19
  go_wp2_with fail
  have HW := Lib.hid (((Below.refl w.heap.size w).alloc (Nat.le_refl _) (.cells #[.slice A len c1, .int .i64 lim] 31)).alloc (by simp) (.cells #[.slice B len c2, .int .i64 lim] 31))
  refine (sameWords_any A B len c1 c2 C _ h1 h2 hc1 hc2 (HA.out.below HW.out) (HB.out.below HW.out) HC.out).mono ?_
  rintro e w1 ⟨rfl, n, rfl⟩
  go_wp2_with fail
  go_ret
  exact ⟨rfl, below_drewN HW.out _⟩

set_option maxHeartbeats 2000000 in
theorem sameFunc_any (p l c : Int) (A B : Option Addr) (len c1 c2 : Nat) (C : List (List Value)) (w : World) (h1 : len ≤ c1) (h2 : len ≤ c2) (hc1 : c1 ≤ maxLen) (hc2 : c2 ≤ maxLen) (hA : RowsF w A len 8 C) (hB : RowsF w B len 8 C) (hC : ∀ c ∈ C, IsInstr c) :
    Calls Try.prog 20 #[.agg #[.int .i64 p, .int .i64 l, .int .i64 c, .slice A len c1], .agg #[.int .i64 p, .int .i64 l, .int .i64 c, .slice B len c2]] w fun e w' => e = .returned (.bool true) ∧ Below w.heap.size w w' := by
  have hlen : len ≤ 9223372036854775807 := by unfold maxLen at hc1; omega
  have hw0 : Below w.heap.size w ((w.alloc (.cells #[.int .i64 p, .int .i64 l, .int .i64 c, .slice A len c1] 61)).alloc (.cells #[.int .i64 p, .int .i64 l, .int .i64 c, .slice B len c2] 61)) := ((Below.refl w.heap.size w).alloc (Nat.le_refl _) _).alloc (by simp) _
  have HA := Lib.hid (hA.below hw0)
  have HB := Lib.hid (hB.below hw0)
  have HW := Lib.hid hw0
  have HC := Lib.hid hC
  clear hA hB hC hw0
  go_enter Try.func20, Try.ntmps20
  go_wp2_with fail
  obtain ⟨w1, hw1⟩ : ∃ w1 : World, w1 = (w.alloc (.cells #[.int .i64 p, .int .i64 l, .int .i64 c, .slice A len c1] 61)).alloc (.cells #[.int .i64 p, .int .i64 l, .int .i64 c, .slice B len c2] 61) := ⟨_, rfl⟩
  have b0 : w1.cell? ⟨w.heap.size, 3, none⟩ = some (.slice A len c1) := by rw [hw1]; exact cell_first _ _ _ _ _ 3
  have b1 : w1.cell? ⟨w.heap.size + 1, 3, none⟩ = some (.slice B len c2) := by rw [hw1]; exact cell_second _ _ _ _ _ 3
  rw [← hw1] at HA HB HW ⊢
  clear hw1
  go_loopg [5] len (fun g i wx => ∃ k : Nat, g = len - k ∧ k ≤ len ∧ i = .int .i64 k ∧ ∃ n, w1.drewN n = wx)
  case atStart => exact ⟨0, by omega, by omega, rfl, 0, rfl⟩
  case round =>
    obtain ⟨k, hg, hk, rfl, n, rfl⟩ := hrel
    have HG := Lib.hid hg
    clear hg
    by_cases hlt : k < len
    · obtain ⟨b, o, rfl, hbw, hrow⟩ := HA.out.at_ (by omega)
      obtain ⟨b', o', rfl, hbw', hrow'⟩ := HB.out.at_ (by omega)
      have hks : k < C.length := by rw [HA.out.size]; exact hlt
      have x1 := (hrow k hks).2
      have x2 := (hrow' k hks).2
      obtain ⟨i0, i1, i2, s3, s4, i5, i6, s7, hp⟩ := HC.out C[k] (List.getElem_mem hks)
      rw [hp] at x1 x2
      have x10 : w1.cell? ⟨b, o + k * 8, none⟩ = some (.int .i64 i0) := x1 0 (by simp)
      have x11 : w1.cell? ⟨b, o + k * 8 + 1, none⟩ = some (.int .i64 i1) := x1 1 (by simp)
      have x12 : w1.cell? ⟨b, o + k * 8 + 2, none⟩ = some (.int .i64 i2) := x1 2 (by simp)
      have x13 : w1.cell? ⟨b, o + k * 8 + 3, none⟩ = some (.string s3) := x1 3 (by simp)
      have x14 : w1.cell? ⟨b, o + k * 8 + 4, none⟩ = some (.string s4) := x1 4 (by simp)
      have x15 : w1.cell? ⟨b, o + k * 8 + 5, none⟩ = some (.int .i64 i5) := x1 5 (by simp)
      have x16 : w1.cell? ⟨b, o + k * 8 + 6, none⟩ = some (.int .i64 i6) := x1 6 (by simp)
      have x17 : w1.cell? ⟨b, o + k * 8 + 7, none⟩ = some (.string s7) := x1 7 (by simp)
      have x20 : w1.cell? ⟨b', o' + k * 8, none⟩ = some (.int .i64 i0) := x2 0 (by simp)
      have x21 : w1.cell? ⟨b', o' + k * 8 + 1, none⟩ = some (.int .i64 i1) := x2 1 (by simp)
      have x22 : w1.cell? ⟨b', o' + k * 8 + 2, none⟩ = some (.int .i64 i2) := x2 2 (by simp)
      have x23 : w1.cell? ⟨b', o' + k * 8 + 3, none⟩ = some (.string s3) := x2 3 (by simp)
      have x24 : w1.cell? ⟨b', o' + k * 8 + 4, none⟩ = some (.string s4) := x2 4 (by simp)
      have x25 : w1.cell? ⟨b', o' + k * 8 + 5, none⟩ = some (.int .i64 i5) := x2 5 (by simp)
      have x26 : w1.cell? ⟨b', o' + k * 8 + 6, none⟩ = some (.int .i64 i6) := x2 6 (by simp)
      have x27 : w1.cell? ⟨b', o' + k * 8 + 7, none⟩ = some (.string s7) := x2 7 (by simp)
      have hne := neqInstr i0 i1 i2 s3 s4 i5 i6 s7
      have y1 : (k : Int) < (c1 : Int) := by omega
      have y2 : (k : Int) < (c2 : Int) := by omega
      have y3 : (0 : Int) ≤ (k : Int) := Int.natCast_nonneg _
      have y4 : (k : Int) < (len : Int) := by omega
      clear hrow hrow' x1 x2 hp
      go_wp2_with fail
      go_quiet (fail)
      clear hne
      go_wp2_with fail
      go_roundg (len - (k + 1))
      case rel => exact ⟨k + 1, rfl, by omega, by go_num, _, rfl⟩
      case measure => have := HG.out; omega
    · obtain rfl : k = len := by omega
      go_wp2_with fail
      go_ret
      exact ⟨rfl, below_drewN HW.out _⟩
end Go.Proofs.Ytbkagjngckfonaa
