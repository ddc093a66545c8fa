/- Contract of grafterykeep.Later: a text, in new memory alone. -/
import Derived.Test.YtadcklijdbbkjaaGreatDoorFirst
import Derived.Deep.CutRange
namespace Go.Proofs.YtadcklijdbbkjaaGreatDoor
open Go.RowKit Go.ChangeShapes Go.WideShapes Go.Deep
set_option linter.unusedVariables false

set_option maxHeartbeats 4000000 in
set_option maxRecDepth 20000 in
theorem later_any {base : Nat} (hX : TextOk base) {w : World} {A : Option Addr} {len cap : Nat} (hr : Raws base w A len cap) (ht : TabB base w) (hb : base ≤ w.heap.size) {k a c e : Int} (ik : isI k) (ia : isI a) (ic : isI c) :
    Calls Tryz.prog 10 #[.slice A len cap, .agg #[.int .i64 k, .int .i64 a, .int .i64 c, .int .i64 e]] w (TextIs 2000 w) := by
  have KX := Lib.hid (show ∀ w', Below w.heap.size w w' → Calls Tryz.prog 14 #[.slice A len cap] w' (TextIs 250 w') from fun w' hbl => hX w' A len cap (hr.below (hbl.mono hb)) (ht.below (hbl.mono hb)) (Nat.le_trans hb hbl.size))
  have HTB := Lib.hid (show ∀ w', Below w.heap.size w w' → Tab w' from fun w' hbl => (ht.below (hbl.mono hb)).tab)
  obtain ⟨i, sA, hi5, PA0, hlit0, hsA⟩ := pick_lit a ia #[.string ⟨#[102]⟩, .string ⟨#[103]⟩, .string ⟨#[104]⟩] (by decide) (by decide) (by intro j hj; simp at hj; rcases (show j = 0 ∨ j = 1 ∨ j = 2 by omega) with rfl | rfl | rfl <;> exact ⟨_, rfl, by decide⟩)
  have PA := Lib.hid PA0
  have HLIT := Lib.hid (lit_cell #[.string ⟨#[102]⟩, .string ⟨#[103]⟩, .string ⟨#[104]⟩] 9 i _ hlit0)
  have hlit := HLIT.out
  have bA : sA.size ≤ 20 := hsA
  have j0 : (0 : Int) ≤ (i : Int) := Int.natCast_nonneg _
  have j1 : (i : Int) < 3 := by simp at hi5; omega
  obtain ⟨p0, p1⟩ := pk_in k (show (0 : Int) < 7 by omega)
  obtain ⟨p, hp⟩ : ∃ p, pk k 7 = p := ⟨_, rfl⟩
  rw [hp] at p0 p1
  have PK := Lib.hid (fun w => hp ▸ picked_any k 7 ik (by omega) (by omega) w)
  obtain ⟨j, hj5, PC0⟩ := pick_n c ic 9 (by decide) (by decide)
  have PC := Lib.hid PC0
  have hj1 : (j : Int) ≤ 8 := by omega
  have hj0 : (0 : Int) ≤ (j : Int) := Int.natCast_nonneg _
  have hIS := itoa_short (j : Int) (by omega) (by omega)
  obtain ⟨sI, hsI⟩ : ∃ sI : ByteArray, (⟨(Lib.itoa (j : Int)).toArray⟩ : ByteArray) = sI := ⟨_, rfl⟩
  rw [hsI] at hIS
  have IT := Lib.hid (show ∀ w', Below w.heap.size w w' → Calls Tryz.prog 15 #[.int .i64 (j : Int)] w' fun e w'' => e = .returned (.string sI) ∧ Below w'.heap.size w' w'' from fun w' hbl => by
    have h := itoa_any (j : Int) (by omega) (by omega) w' (HTB.out w' hbl)
    unfold ItoaIs at h
    rwa [hsI] at h)
  have HP := Lib.hid (And.intro p0 p1)
  clear hX hr ht hb PA0 hlit0 hsA hi5 PC0 hj5 hsI hp p0 p1
  have g1 : ¬ 9223372036854775807 < 9 + sA.size := by omega
  have g2 : ¬ 9223372036854775807 < 9 + sA.size + 4 := by omega
  go_enter Tryz.func10, Tryz.ntmps10
  go_upto_region 1 with fail
  obtain ⟨W, hW⟩ : ∃ W, W = w.alloc (.cells #[.int .i64 k, .int .i64 a, .int .i64 c, .int .i64 e] 46) := ⟨_, rfl⟩
  rw [← hW]
  have hBW : Below w.heap.size w W := by rw [hW]; exact below_a (Below.refl _ _) _
  have hlW : w.heap.size < W.heap.size := by rw [hW]; simp
  have hcW : ∀ j, W.cell? ⟨w.heap.size, j, none⟩ = (#[.int .i64 k, .int .i64 a, .int .i64 c, .int .i64 e] : Array Value)[j]? := fun j => by rw [hW]; exact cell_new _ _ _ j
  have c0 : W.cell? ⟨w.heap.size, 0, none⟩ = some (.int .i64 k) := hcW 0
  have c1 : W.cell? ⟨w.heap.size, 1, none⟩ = some (.int .i64 a) := hcW 1
  have c2 : W.cell? ⟨w.heap.size, 2, none⟩ = some (.int .i64 c) := hcW 2
  have HBW := Lib.hid hBW
  clear hW hcW hBW
  go_cut [5] from 6 to 17 (fun u wx => ∃ s : ByteArray, u = .string s ∧ s.size ≤ 300 ∧ Below W.heap.size W wx)
  case first =>
    go_region_law (first
      | (go_simp; go_at_call 9; refine (PA.out _).mono ?_; rintro q w5 ⟨rfl, rfl⟩)
      | (go_simp; go_at_call 14; (with_reducible refine (KX.out _ (below_d HBW.out)).mono ?_); rintro q w1 ⟨s1, rfl, hs1, hb1⟩; have HB1 := Lib.hid (below_t (below_d (Below.refl _ _)) hb1); have b1 : s1.size ≤ 250 := hs1; have g3 : ¬ 9223372036854775807 < 9 + sA.size + 4 + s1.size := (by omega); have g4 : ¬ 9223372036854775807 < 9 + sA.size + 4 + s1.size + 1 := (by omega); clear hs1 hb1)
      | (go_simp; go_at_call 14; (with_reducible refine (KX.out _ (below_d (below_a HBW.out _))).mono ?_); rintro q w1 ⟨s1, rfl, hs1, hb1⟩; have ci : w1.cell? ⟨W.heap.size, i, none⟩ = some (.string sA) := (hb1.cell (p := ⟨W.heap.size, i, none⟩) (by simp)).trans (HLIT.out W); have HB1 := Lib.hid (below_t (below_d (below_a (Below.refl _ _) _)) hb1); have b1 : s1.size ≤ 250 := hs1; have g3 : ¬ 9223372036854775807 < 9 + sA.size + 4 + s1.size := (by omega); have g4 : ¬ 9223372036854775807 < 9 + sA.size + 4 + s1.size + 1 := (by omega); clear hs1 hb1))
    all_goals go_wp2_with fail
    all_goals go_meet
    all_goals refine ⟨_, rfl, ?_, ?_⟩
    all_goals first
      | exact HB1.out
      | exact below_a HB1.out _
      | (simp only [size_add, size_lit, List.size_toArray, List.length_cons, List.length_nil]; omega)
  case rest =>
    obtain ⟨s, rfl, hs, hbl⟩ := hcut
    have HBC := Lib.hid (HBW.out.trans (hbl.mono HBW.out.size))
    have d0 : wc.cell? ⟨w.heap.size, 0, none⟩ = some (.int .i64 k) := (hbl.cell (p := ⟨w.heap.size, 0, none⟩) hlW).trans c0
    have d2 : wc.cell? ⟨w.heap.size, 2, none⟩ = some (.int .i64 c) := (hbl.cell (p := ⟨w.heap.size, 2, none⟩) hlW).trans c2
    clear hbl c0 c1 c2 hlit
    go_wp2_with fail
    refine (PK.out _).mono ?_
    rintro q w5 ⟨rfl, rfl⟩
    obtain ⟨p0, p1⟩ := HP.out
    rcases (show p = 0 ∨ p = 1 ∨ p = 2 ∨ p = 3 ∨ p = 4 ∨ p = 5 ∨ p = 6 by omega) with rfl | rfl | rfl | rfl | rfl | rfl | rfl
    all_goals clear p0 p1
    · go_wp2_with fail
      go_ret
      refine ⟨_, rfl, ?_, HBC.out⟩
      simp only [size_add, size_lit, List.size_toArray, List.length_cons, List.length_nil]
      omega
    · go_wp2_with fail
      go_ret
      refine ⟨_, rfl, ?_, HBC.out⟩
      simp only [size_add, size_lit, List.size_toArray, List.length_cons, List.length_nil]
      omega
    · go_wp2_with fail
      go_ret
      refine ⟨_, rfl, ?_, HBC.out⟩
      simp only [size_add, size_lit, List.size_toArray, List.length_cons, List.length_nil]
      omega
    · go_wp2_with fail
      go_ret
      refine ⟨_, rfl, ?_, HBC.out⟩
      simp only [size_add, size_lit, List.size_toArray, List.length_cons, List.length_nil]
      omega
    · go_wp2_with fail
      refine (PC.out _).mono ?_
      rintro q w5 ⟨rfl, rfl⟩
      go_wp2_with fail
      refine (IT.out _ HBC.out).mono ?_
      rintro q w6 ⟨rfl, hb6⟩
      have HB6 := Lib.hid (below_t HBC.out hb6)
      clear hb6
      go_wp2_with fail
      go_ret
      refine ⟨_, rfl, ?_, HB6.out⟩
      simp only [size_add, size_lit, List.size_toArray, List.length_cons, List.length_nil]
      omega
    · go_wp2_with fail
      go_ret
      exact ⟨s, rfl, by omega, HBC.out⟩
    · go_wp2_with fail
      go_ret
      exact ⟨s, rfl, by omega, HBC.out⟩
end Go.Proofs.YtadcklijdbbkjaaGreatDoor
