/- Contract of grafterylaw.sameRec at two that are alike. -/
import Derived.Test.YtbkagjngckfonaaVmSame
namespace Go.Proofs.Ytbkagjngckfonaa
open Go.RowKit Go.ChangeShapes Go.WideShapes Go.Deep Go.ChangeAt
set_option linter.unusedVariables false

def IsInt (cs : List Value) : Prop := ∃ n : Int, cs = [.int .i64 n]
/-- A slice, and its elements' cells. -/
structure Sl where
  A : Option Addr
  len : Nat
  cap : Nat
  C : List (List Value)
structure Sl.Ok (w : World) (k : Nat) (P : List Value → Prop) (x : Sl) : Prop where
  le : x.len ≤ x.cap
  wide : x.cap ≤ maxLen
  rows : RowsF w x.A x.len k x.C
  each : ∀ c ∈ x.C, P c
theorem Sl.Ok.below {w w' : World} {k : Nat} {P : List Value → Prop} {x : Sl} (h : x.Ok w k P) (hb : Below w.heap.size w w') : x.Ok w' k P := ⟨h.le, h.wide, h.rows.below hb, h.each⟩
/-- A slice of slices. -/
structure SlsAt (w : World) (k : Nat) (P : List Value → Prop) (A : Option Addr) (len : Nat) (M : List Sl) : Prop where
  size : M.length = len
  at_ : 0 < len → ∃ b o, A = some ⟨b, o, none⟩ ∧ b < w.heap.size ∧ ∀ i, (h : i < M.length) → w.cell? ⟨b, o + i, none⟩ = some (.slice M[i].A M[i].len M[i].cap)
  each : ∀ x ∈ M, x.Ok w k P
theorem SlsAt.below {w w' : World} {k : Nat} {P : List Value → Prop} {A : Option Addr} {len : Nat} {M : List Sl} (h : SlsAt w k P A len M) (hb : Below w.heap.size w w') : SlsAt w' k P A len M :=
  ⟨h.size, fun h0 => by
    obtain ⟨b, o, rfl, hl, hc⟩ := h.at_ h0
    exact ⟨b, o, rfl, Nat.lt_of_lt_of_le hl hb.size, fun i hi => (hb.cell (p := ⟨b, o + i, none⟩) hl).trans (hc i hi)⟩, fun x hx => (h.each x hx).below hb⟩

set_option maxHeartbeats 4000000 in
theorem sameRec_any (nm : ByteArray) (A1 A2 A3 A4 : Option Addr) (n1 c1 c2 n3 c3 c4 : Nat) (X Y : List Shp) (M N : List Sl) (w : World) (h1 : n1 ≤ c1) (h2 : n1 ≤ c2) (hc1 : c1 ≤ maxLen) (hc2 : c2 ≤ maxLen) (h3 : n3 ≤ c3) (h4 : n3 ≤ c4) (hc3 : c3 ≤ maxLen) (hc4 : c4 ≤ maxLen)
    (hX : ShapesAt w A1 n1 X) (hY : ShapesAt w A2 n1 Y) (hXY : X.map Shp.sh = Y.map Shp.sh) (hM : SlsAt w 1 IsInt A3 n3 M) (hN : SlsAt w 1 IsInt A4 n3 N) (hMN : M.map Sl.C = N.map Sl.C) :
    Calls Try.prog 21 #[.agg #[.string nm, .slice A1 n1 c1, .slice A3 n3 c3], .agg #[.string nm, .slice A2 n1 c2, .slice A4 n3 c4]] w fun e w' => e = .returned (.bool true) ∧ Below w.heap.size w w' := by
  have hlen : n3 ≤ 9223372036854775807 := by unfold maxLen at hc3; omega
  have hw0 : Below w.heap.size w ((w.alloc (.cells #[.string nm, .slice A1 n1 c1, .slice A3 n3 c3] 67)).alloc (.cells #[.string nm, .slice A2 n1 c2, .slice A4 n3 c4] 67)) := ((Below.refl w.heap.size w).alloc (Nat.le_refl _) _).alloc (by simp) _
  have HX := Lib.hid (hX.below hw0)
  have HY := Lib.hid (hY.below hw0)
  have HM := Lib.hid (hM.below hw0)
  have HN := Lib.hid (hN.below hw0)
  have HXY := Lib.hid hXY
  have HMN := Lib.hid hMN
  have HW := Lib.hid hw0
  clear hX hY hM hN hXY hMN hw0
  go_enter Try.func21, Try.ntmps21
  go_wp2_with fail
  refine (sameShapes_any A1 A2 n1 c1 c2 X Y _ h1 h2 hc1 hc2 HX.out HY.out HXY.out).mono ?_
  rintro e w0 ⟨rfl, nd, rfl⟩
  go_wp2_with fail
  obtain ⟨w1, hw1⟩ : ∃ w1 : World, w1 = ((w.alloc (.cells #[.string nm, .slice A1 n1 c1, .slice A3 n3 c3] 67)).alloc (.cells #[.string nm, .slice A2 n1 c2, .slice A4 n3 c4] 67)).drewN nd := ⟨_, rfl⟩
  have b0 : w1.cell? ⟨w.heap.size, 2, none⟩ = some (.slice A3 n3 c3) := by rw [hw1]; exact cell_first _ _ _ _ _ 2
  have b1 : w1.cell? ⟨w.heap.size + 1, 2, none⟩ = some (.slice A4 n3 c4) := by rw [hw1]; exact cell_second _ _ _ _ _ 2
  have HM1 := Lib.hid (show SlsAt w1 1 IsInt A3 n3 M from by rw [hw1]; exact HM.out.below (below_drewN (Below.refl _ _) _))
  have HN1 := Lib.hid (show SlsAt w1 1 IsInt A4 n3 N from by rw [hw1]; exact HN.out.below (below_drewN (Below.refl _ _) _))
  have HW1 := Lib.hid (show Below w.heap.size w w1 from by rw [hw1]; exact below_drewN HW.out _)
  rw [← hw1]
  clear hw1 HM HN HW HX HY
  go_loopg [5] n3 (fun g i wx => ∃ k : Nat, g = n3 - k ∧ k ≤ n3 ∧ i = .int .i64 k ∧ ∃ n, w1.drewN n = wx)
  case atStart => exact ⟨0, by omega, by omega, rfl, 0, rfl⟩
  case round =>
    obtain ⟨k, hg, hk, rfl, n, rfl⟩ := hrel
    have HG := Lib.hid hg
    clear hg
    by_cases hlt : k < n3
    · obtain ⟨b, o, rfl, hbw, hrow⟩ := HM1.out.at_ (by omega)
      obtain ⟨b', o', rfl, hbw', hrow'⟩ := HN1.out.at_ (by omega)
      have hkm : k < M.length := by rw [HM1.out.size]; exact hlt
      have hkn : k < N.length := by rw [HN1.out.size]; exact hlt
      have x1 := hrow k hkm
      have x2 := hrow' k hkn
      have HP := Lib.hid (HM1.out.each M[k] (List.getElem_mem hkm))
      have HQ := Lib.hid (HN1.out.each N[k] (List.getElem_mem hkn))
      have hCC : M[k].C = N[k].C := by
        have e1 : (M.map Sl.C)[k]'(by simpa using hkm) = (N.map Sl.C)[k]'(by simpa using hkn) := by simp only [HMN.out]
        simpa using e1
      generalize M[k] = x at x1 HP hCC
      generalize N[k] = y at x2 HQ hCC
      obtain ⟨Ax, lx, cx, Cx⟩ := x
      obtain ⟨Ay, ly, cy, Cy⟩ := y
      simp only at hCC x1 x2
      obtain rfl : Cx = Cy := hCC
      obtain rfl : lx = ly := HP.out.rows.size.symm.trans HQ.out.rows.size
      have y1 : (k : Int) < (c3 : Int) := by omega
      have y2 : (k : Int) < (c4 : Int) := by omega
      have y3 : (0 : Int) ≤ (k : Int) := Int.natCast_nonneg _
      have y4 : (k : Int) < (n3 : Int) := by omega
      have hlx : lx ≤ 9223372036854775807 := by have h1 := HP.out.le; have h2 := HP.out.wide; simp only at h1 h2; unfold maxLen at h2; omega
      clear hrow hrow'
      go_wp2_with fail
      go_quiet (fail)
      go_wp2_with fail
      go_loopg [6] lx (fun g i wx => ∃ j : Nat, g = lx - j ∧ j ≤ lx ∧ i = .int .i64 j ∧ ∃ n, w1.drewN n = wx)
      case atStart => exact ⟨0, by omega, by omega, rfl, _, (World.drewN_drewN _ _ _).symm⟩
      case round =>
        obtain ⟨j, hg2, hj, rfl, m, rfl⟩ := hrel
        have HG2 := Lib.hid hg2
        clear hg2
        by_cases hjl : j < lx
        · obtain ⟨bx, ox, rfl, hbx, hrx⟩ := HP.out.rows.at_ (by simp only; omega)
          obtain ⟨by_, oy, rfl, hby, hry⟩ := HQ.out.rows.at_ (by simp only; omega)
          have hjc : j < Cx.length := by have := HP.out.rows.size; simp only at this; omega
          obtain ⟨z, hz⟩ := HP.out.each Cx[j] (List.getElem_mem hjc)
          have z1 := (hrx j hjc).2
          have z2 := (hry j hjc).2
          simp only at z1 z2
          rw [hz] at z1 z2
          have q1 : w1.cell? ⟨bx, ox + j, none⟩ = some (.int .i64 z) := by have h := z1 0 (by simp); simpa using h
          have q2 : w1.cell? ⟨by_, oy + j, none⟩ = some (.int .i64 z) := by have h := z2 0 (by simp); simpa using h
          have u1 : (j : Int) < (lx : Int) := by omega
          have u3 : (0 : Int) ≤ (j : Int) := Int.natCast_nonneg _
          clear hrx hry z1 z2 hz
          go_wp2_with fail
          go_quiet (fail)
          go_wp2_with fail
          go_roundg (lx - (j + 1))
          case rel => exact ⟨j + 1, rfl, by omega, by go_num, _, rfl⟩
          case measure => have := HG2.out; omega
        · obtain rfl : j = lx := by omega
          go_wp2_with fail
          go_roundg (n3 - (k + 1))
          case rel => exact ⟨k + 1, rfl, by omega, by go_num, _, rfl⟩
          case measure => have := HG.out; omega
    · obtain rfl : k = n3 := by omega
      go_wp2_with fail
      go_ret
      exact ⟨rfl, below_drewN HW1.out _⟩
end Go.Proofs.Ytbkagjngckfonaa
