/- Contract of slices.Concat at two slices of shapes. -/
import Derived.Test.YtbkagjngckfonaaShSame
namespace Go.Proofs.Ytbkagjngckfonaa
open Go.RowKit Go.ChangeShapes Go.WideShapes Go.Deep Go.ChangeAt
set_option linter.unusedVariables false

theorem row_shapes {w : World} {base : Nat} {v : Value} {X : List Shp} {n : Nat} (hn : X.length = n) (h : w.ownsRow base 69 2 v n (cellsL X)) (he : ∀ x ∈ X, x.At w) :
    ∃ A cap, v = .slice A n cap ∧ n ≤ cap ∧ cap ≤ maxLen ∧ ShapesAt w A n X := by
  subst hn
  rcases h.2 with ⟨rfl, hn⟩ | ⟨g, cap, cur, hv, hg, hh, h1, h2, _⟩
  · have hX : X = [] := List.length_eq_zero_iff.1 hn
    subst hX
    exact ⟨none, 0, rfl, by simp, by unfold maxLen; omega, ⟨rfl, fun h => absurd h (by simp), by simp⟩⟩
  · rw [hv] at h
    refine ⟨some ⟨g, 0, none⟩, cap, hv, h1, h2, ⟨rfl, fun h0 => ⟨g, 0, rfl, (Array.getElem?_eq_some_iff.1 hh).1, fun i hi => ?_⟩, he⟩⟩
    have hc := cellsL_at X i hi
    have c0 := h.cellAt (i * 2) (by omega)
    have c1 := h.cellAt (i * 2 + 1) (by omega)
    rw [Nat.zero_add]
    exact ⟨c0.trans hc.1, c1.trans hc.2⟩

set_option maxHeartbeats 2000000 in
theorem concat_any (A1 A2 : Option Addr) (n1 c1 n2 c2 B : Nat) (X1 X2 : List Shp) (w : World) (hB1 : w.cell? ⟨B, 0, none⟩ = some (.slice A1 n1 c1)) (hB2 : w.cell? ⟨B, 1, none⟩ = some (.slice A2 n2 c2))
    (h1 : ShapesAt w A1 n1 X1) (h2 : ShapesAt w A2 n2 X2) (hn : n1 + n2 ≤ 1099511627776) :
    Calls Try.prog 24 #[.slice (some ⟨B, 0, none⟩) 2 2] w fun e w' => ∃ A cap, e = .returned (.slice A (n1 + n2) cap) ∧ n1 + n2 ≤ cap ∧ cap ≤ maxLen ∧ ShapesAt w' A (n1 + n2) (X1 ++ X2) ∧ Below w.heap.size w w' := by
  have hBl : B < w.heap.size := World.block_lt_of_cell? w _ hB1
  have H1 := Lib.hid h1
  have H2 := Lib.hid h2
  clear h1 h2
  go_enter Try.func24, Try.ntmps24
  go_wp2_with fail
  go_loop [3, 11] (fun sz i => (sz = .int .i64 0 ∧ i = .int .i64 0) ∨ (sz = .int .i64 n1 ∧ i = .int .i64 1) ∨ (sz = .int .i64 ((n1 : Int) + n2) ∧ i = .int .i64 2)) (fun _ i => 2 - (intOf i).toNat)
  case atStart => exact Or.inl ⟨rfl, rfl⟩
  case round =>
    rcases hrel with ⟨rfl, rfl⟩ | ⟨rfl, rfl⟩ | ⟨rfl, rfl⟩
    · go_wp2_with fail
      go_round
      case rel => exact Or.inr (Or.inl ⟨by go_num, by go_num⟩)
      case measure => simp [intOf]
    · go_wp2_with fail
      go_round
      case rel => exact Or.inr (Or.inr ⟨by go_num, by go_num⟩)
      case measure => simp [intOf]
    · go_wp2_with fail
      refine (show Calls _ _ _ _ _ from by have h := grow_any (n1 + n2) w hn; rw [Int.natCast_add] at h; exact h).mono ?_
      rintro e w1 ⟨v0, rfl, hown, hb1⟩
      have HO := Lib.hid hown
      have HB := Lib.hid hb1
      have x1 : w1.cell? ⟨B, 0, none⟩ = some (.slice A1 n1 c1) := (hb1.cell (p := ⟨B, 0, none⟩) hBl).trans hB1
      have x2 : w1.cell? ⟨B, 1, none⟩ = some (.slice A2 n2 c2) := (hb1.cell (p := ⟨B, 1, none⟩) hBl).trans hB2
      clear hown hb1
      go_wp2_with fail
      go_loopg [6, 27] 2 (fun g v i wr => Below w.heap.size w wr ∧ ((g = 2 ∧ i = .int .i64 0 ∧ wr.ownsRow w.heap.size 69 2 v 0 []) ∨ (g = 1 ∧ i = .int .i64 1 ∧ wr.ownsRow w.heap.size 69 2 v n1 (cellsL X1)) ∨ (g = 0 ∧ i = .int .i64 2 ∧ wr.ownsRow w.heap.size 69 2 v (n1 + n2) (cellsL X1 ++ cellsL X2))))
      case atStart => exact ⟨HB.out, Or.inl ⟨rfl, rfl, HO.out⟩⟩
      case round =>
        obtain ⟨hb, hrel⟩ := hrel
        have HBR := Lib.hid hb
        have y1 : wr.cell? ⟨B, 0, none⟩ = some (.slice A1 n1 c1) := (hb.cell (p := ⟨B, 0, none⟩) hBl).trans hB1
        have y2 : wr.cell? ⟨B, 1, none⟩ = some (.slice A2 n2 c2) := (hb.cell (p := ⟨B, 1, none⟩) hBl).trans hB2
        clear hb
        rcases hrel with ⟨hg, rfl, ho⟩ | ⟨hg, rfl, ho⟩ | ⟨hg, rfl, ho⟩
        · have HG := Lib.hid hg
          have HO2 := Lib.hid ho
          clear hg ho
          go_wp2_with (at_builtin; refine wpList_shapes rfl (.tmp 31) (.tmp 32) rfl w.heap.size _ 0 [] rfl HO2.out A1 n1 c1 X1 rfl (H1.out.below HBR.out) (by omega) HBR.out.size ?_; intro v' w' h3 h4; have HO3 := Lib.hid h3; have HB3 := Lib.hid (HBR.out.trans h4); clear h3 h4)
          go_roundg 1
          case measure => have := HG.out; omega
          case rel => exact ⟨HB3.out, Or.inr (Or.inl ⟨rfl, by go_num, by have h := HO3.out; simpa using h⟩)⟩
        · have HG := Lib.hid hg
          have HO2 := Lib.hid ho
          clear hg ho
          go_wp2_with (at_builtin; refine wpList_shapes rfl (.tmp 31) (.tmp 32) rfl w.heap.size _ n1 (cellsL X1) rfl HO2.out A2 n2 c2 X2 rfl (H2.out.below HBR.out) hn HBR.out.size ?_; intro v' w' h3 h4; have HO3 := Lib.hid h3; have HB3 := Lib.hid (HBR.out.trans h4); clear h3 h4)
          go_roundg 0
          case measure => have := HG.out; omega
          case rel => exact ⟨HB3.out, Or.inr (Or.inr ⟨rfl, by go_num, HO3.out⟩)⟩
        · rw [← cellsL_append] at ho
          obtain ⟨A, cap, rfl, hc1, hc2, hS⟩ := row_shapes (by rw [List.length_append, H1.out.size, H2.out.size]) ho (fun x hx => by
            rcases List.mem_append.1 hx with hx | hx
            · exact ShapeAt.below (H1.out.each x hx) HBR.out
            · exact ShapeAt.below (H2.out.each x hx) HBR.out)
          have HS := Lib.hid hS
          clear ho hS hg
          go_wp2_with fail
          go_ret
          exact ⟨A, cap, rfl, hc1, hc2, HS.out, HBR.out⟩
end Go.Proofs.Ytbkagjngckfonaa
