/- Contract of grafterylaw.sameWorld at two worlds that are alike (printed by gen_vmworld.py). -/
import Derived.Test.YtbkagjngckfonaaVmRec
import Derived.Deep.RegionHeld3
namespace Go.Proofs.Ytbkagjngckfonaa
open Go.RowKit Go.ChangeShapes Go.WideShapes Go.Deep Go.ChangeAt
set_option linter.unusedVariables false

structure FnV where
  p : Int
  l : Int
  c : Int
  code : Sl
def FnV.same (x y : FnV) : Prop := x.p = y.p ∧ x.l = y.l ∧ x.c = y.c ∧ x.code.C = y.code.C
structure FnsAt (w : World) (A : Option Addr) (len : Nat) (F : List FnV) : Prop where
  size : F.length = len
  at_ : 0 < len → ∃ b o, A = some ⟨b, o, none⟩ ∧ b < w.heap.size ∧ ∀ i, (h : i < F.length) → w.cell? ⟨b, o + i * 4, none⟩ = some (.int .i64 F[i].p) ∧ w.cell? ⟨b, o + i * 4 + 1, none⟩ = some (.int .i64 F[i].l) ∧ w.cell? ⟨b, o + i * 4 + 2, none⟩ = some (.int .i64 F[i].c) ∧ w.cell? ⟨b, o + i * 4 + 3, none⟩ = some (.slice F[i].code.A F[i].code.len F[i].code.cap)
  each : ∀ x ∈ F, x.code.Ok w 8 IsInstr
theorem FnsAt.below {w w' : World} {A : Option Addr} {len : Nat} {F : List FnV} (h : FnsAt w A len F) (hb : Below w.heap.size w w') : FnsAt w' A len F :=
  ⟨h.size, fun h0 => by
    obtain ⟨b, o, rfl, hl, hc⟩ := h.at_ h0
    exact ⟨b, o, rfl, Nat.lt_of_lt_of_le hl hb.size, fun i hi => ⟨(hb.cell (p := ⟨b, o + i * 4, none⟩) hl).trans (hc i hi).1, (hb.cell (p := ⟨b, o + i * 4 + 1, none⟩) hl).trans (hc i hi).2.1, (hb.cell (p := ⟨b, o + i * 4 + 2, none⟩) hl).trans (hc i hi).2.2.1, (hb.cell (p := ⟨b, o + i * 4 + 3, none⟩) hl).trans (hc i hi).2.2.2⟩⟩, fun x hx => (h.each x hx).below hb⟩

structure RcV where
  nm : ByteArray
  A1 : Option Addr
  n1 : Nat
  c1 : Nat
  X : List Shp
  A3 : Option Addr
  n3 : Nat
  c3 : Nat
  M : List Sl
structure RcV.Ok (w : World) (x : RcV) : Prop where
  le1 : x.n1 ≤ x.c1
  wide1 : x.c1 ≤ maxLen
  vers : ShapesAt w x.A1 x.n1 x.X
  le3 : x.n3 ≤ x.c3
  wide3 : x.c3 ≤ maxLen
  moves : SlsAt w 1 IsInt x.A3 x.n3 x.M
theorem RcV.Ok.below {w w' : World} {x : RcV} (h : x.Ok w) (hb : Below w.heap.size w w') : x.Ok w' := ⟨h.le1, h.wide1, h.vers.below hb, h.le3, h.wide3, h.moves.below hb⟩
def RcV.same (x y : RcV) : Prop := x.nm = y.nm ∧ x.X.map Shp.sh = y.X.map Shp.sh ∧ x.M.map Sl.C = y.M.map Sl.C
structure RcsAt (w : World) (A : Option Addr) (len : Nat) (R : List RcV) : Prop where
  size : R.length = len
  at_ : 0 < len → ∃ b o, A = some ⟨b, o, none⟩ ∧ b < w.heap.size ∧ ∀ i, (h : i < R.length) → w.cell? ⟨b, o + i * 3, none⟩ = some (.string R[i].nm) ∧ w.cell? ⟨b, o + i * 3 + 1, none⟩ = some (.slice R[i].A1 R[i].n1 R[i].c1) ∧ w.cell? ⟨b, o + i * 3 + 2, none⟩ = some (.slice R[i].A3 R[i].n3 R[i].c3)
  each : ∀ x ∈ R, x.Ok w
theorem RcsAt.below {w w' : World} {A : Option Addr} {len : Nat} {R : List RcV} (h : RcsAt w A len R) (hb : Below w.heap.size w w') : RcsAt w' A len R :=
  ⟨h.size, fun h0 => by
    obtain ⟨b, o, rfl, hl, hc⟩ := h.at_ h0
    exact ⟨b, o, rfl, Nat.lt_of_lt_of_le hl hb.size, fun i hi => ⟨(hb.cell (p := ⟨b, o + i * 3, none⟩) hl).trans (hc i hi).1, (hb.cell (p := ⟨b, o + i * 3 + 1, none⟩) hl).trans (hc i hi).2.1, (hb.cell (p := ⟨b, o + i * 3 + 2, none⟩) hl).trans (hc i hi).2.2⟩⟩, fun x hx => (h.each x hx).below hb⟩

/-- A world's five cells, and what they hold. -/
structure WdV where
  AF : Option Addr
  fl : Nat
  fc : Nat
  F : List FnV
  AG : Option Addr
  gl : Nat
  gc : Nat
  G : List (List Value)
  AR : Option Addr
  rl : Nat
  rc : Nat
  R : List RcV
  AW : Option Addr
  wl : Nat
  wc : Nat
  W : List (List Value)
  lim : Int
def WdV.cells (x : WdV) : Array Value := #[.slice x.AF x.fl x.fc, .slice x.AG x.gl x.gc, .slice x.AR x.rl x.rc, .slice x.AW x.wl x.wc, .int .i64 x.lim]
structure WdV.Ok (w : World) (x : WdV) : Prop where
  leF : x.fl ≤ x.fc
  wideF : x.fc ≤ maxLen
  fns : FnsAt w x.AF x.fl x.F
  leG : x.gl ≤ x.gc
  wideG : x.gc ≤ maxLen
  globs : RowsF w x.AG x.gl 4 x.G
  isG : ∀ c ∈ x.G, IsGlob c
  leR : x.rl ≤ x.rc
  wideR : x.rc ≤ maxLen
  recs : RcsAt w x.AR x.rl x.R
  leW : x.wl ≤ x.wc
  wideW : x.wc ≤ maxLen
  words : RowsF w x.AW x.wl 3 x.W
  isW : ∀ c ∈ x.W, IsWord c
theorem WdV.Ok.below {w w' : World} {x : WdV} (h : x.Ok w) (hb : Below w.heap.size w w') : x.Ok w' :=
  ⟨h.leF, h.wideF, h.fns.below hb, h.leG, h.wideG, h.globs.below hb, h.isG, h.leR, h.wideR, h.recs.below hb, h.leW, h.wideW, h.words.below hb, h.isW⟩
structure WdV.Same (x y : WdV) : Prop where
  fns : x.F.length = y.F.length ∧ ∀ i, (h : i < x.F.length) → (h' : i < y.F.length) → x.F[i].same y.F[i]
  globs : x.G = y.G
  recs : x.R.length = y.R.length ∧ ∀ i, (h : i < x.R.length) → (h' : i < y.R.length) → x.R[i].same y.R[i]
  words : x.W = y.W
  lim : x.lim = y.lim

set_option maxHeartbeats 8000000 in
set_option maxRecDepth 100000 in
theorem sameWorld_any (x y : WdV) (w : World) (hx : x.Ok w) (hy : y.Ok w) (hs : x.Same y) :
    Calls Try.prog 8 #[.agg x.cells, .agg y.cells] w fun e w' => e = .returned (.bool true) ∧ Below w.heap.size w w' := by
  obtain ⟨AF, fl, fc, F, AG, gl, gc, G, AR, rl, rc, R, AW, wl, wc, W, lim⟩ := x
  obtain ⟨AF', fl', fc', F', AG', gl', gc', G', AR', rl', rc', R', AW', wl', wc', W', lim'⟩ := y
  obtain ⟨⟨hf1, hf2⟩, hg, ⟨hr1, hr2⟩, hw, hl⟩ := hs
  simp only at hf1 hf2 hg hr1 hr2 hw hl
  subst hg hw hl
  obtain ⟨a1, a2, a3, a4, a5, a6, a7, a8, a9, a10, a11, a12, a13, a14⟩ := hx
  obtain ⟨b1, b2, b3, b4, b5, b6, b7, b8, b9, b10, b11, b12, b13, b14⟩ := hy
  simp only at a1 a2 a3 a4 a5 a6 a7 a8 a9 a10 a11 a12 a13 a14 b1 b2 b3 b4 b5 b6 b7 b8 b9 b10 b11 b12 b13 b14
  obtain rfl : fl = fl' := by rw [← a3.size, ← b3.size]; exact hf1
  obtain rfl : gl = gl' := a6.size.symm.trans b6.size
  obtain rfl : rl = rl' := by rw [← a10.size, ← b10.size]; exact hr1
  obtain rfl : wl = wl' := a13.size.symm.trans b13.size
  have hfl : fl ≤ 9223372036854775807 := by unfold maxLen at a2; omega
  have hgl : gl ≤ 9223372036854775807 := by unfold maxLen at a5; omega
  have hrl : rl ≤ 9223372036854775807 := by unfold maxLen at a9; omega
  simp only [WdV.cells]
  have hw0 : Below w.heap.size w ((w.alloc (.cells #[.slice AF fl fc, .slice AG gl gc, .slice AR rl rc, .slice AW wl wc, .int .i64 lim] 33)).alloc (.cells #[.slice AF' fl fc', .slice AG' gl gc', .slice AR' rl rc', .slice AW' wl wc', .int .i64 lim] 33)) := ((Below.refl w.heap.size w).alloc (Nat.le_refl _) _).alloc (by simp) _
  have A3 := Lib.hid (a3.below hw0)
  have A6 := Lib.hid (a6.below hw0)
  have A7 := Lib.hid a7
  have A10 := Lib.hid (a10.below hw0)
  have A13 := Lib.hid (a13.below hw0)
  have A14 := Lib.hid a14
  have B3 := Lib.hid (b3.below hw0)
  have B6 := Lib.hid (b6.below hw0)
  have B10 := Lib.hid (b10.below hw0)
  have B13 := Lib.hid (b13.below hw0)
  have HF2 := Lib.hid hf2
  have HR2 := Lib.hid hr2
  have HW := Lib.hid hw0
  clear a3 a6 a7 a10 a13 a14 b3 b6 b7 b10 b13 b14 hf1 hf2 hr1 hr2 hw0
  go_enter Try.func8, Try.ntmps8
  go_wp2_with fail
  refine (sameHeap_any AW AW' wl wc wc' lim W _ a11 b11 a12 b12 A13.out B13.out A14.out).mono ?_
  rintro e w0 ⟨rfl, hb0⟩
  have k0 : w0.cell? ⟨w.heap.size, 0, none⟩ = some (.slice AF fl fc) := (hb0.cell (p := ⟨w.heap.size, 0, none⟩) (by simp; omega)).trans (cell_first _ _ _ _ _ 0)
  have k1 : w0.cell? ⟨w.heap.size, 1, none⟩ = some (.slice AG gl gc) := (hb0.cell (p := ⟨w.heap.size, 1, none⟩) (by simp; omega)).trans (cell_first _ _ _ _ _ 1)
  have k2 : w0.cell? ⟨w.heap.size, 2, none⟩ = some (.slice AR rl rc) := (hb0.cell (p := ⟨w.heap.size, 2, none⟩) (by simp; omega)).trans (cell_first _ _ _ _ _ 2)
  have kp0 : w0.cell? ⟨w.heap.size + 1, 0, none⟩ = some (.slice AF' fl fc') := (hb0.cell (p := ⟨w.heap.size + 1, 0, none⟩) (by simp)).trans (cell_second _ _ _ _ _ 0)
  have kp1 : w0.cell? ⟨w.heap.size + 1, 1, none⟩ = some (.slice AG' gl gc') := (hb0.cell (p := ⟨w.heap.size + 1, 1, none⟩) (by simp)).trans (cell_second _ _ _ _ _ 1)
  have kp2 : w0.cell? ⟨w.heap.size + 1, 2, none⟩ = some (.slice AR' rl rc') := (hb0.cell (p := ⟨w.heap.size + 1, 2, none⟩) (by simp)).trans (cell_second _ _ _ _ _ 2)
  have HB0 := Lib.hid (HW.out.trans (hb0.mono HW.out.size))
  have hz0 : w.heap.size + 1 < w0.heap.size := by have := hb0.size; simp at this; omega
  have C3 := Lib.hid (A3.out.below hb0)
  have C6 := Lib.hid (A6.out.below hb0)
  have C10 := Lib.hid (A10.out.below hb0)
  have D3 := Lib.hid (B3.out.below hb0)
  have D6 := Lib.hid (B6.out.below hb0)
  have D10 := Lib.hid (B10.out.below hb0)
  clear hb0 A3 A6 A10 B3 B6 B10 A13 B13 HW
  go_wp2_with fail
  go_loopg [5] gl (fun g i wx => ∃ k : Nat, g = gl - k ∧ k ≤ gl ∧ i = .int .i64 k ∧ ∃ n, w0.drewN n = wx)
  case atStart => exact ⟨0, by omega, by omega, rfl, 0, rfl⟩
  case round =>
    obtain ⟨k, hg, hk, rfl, n, rfl⟩ := hrel
    have HG := Lib.hid hg
    clear hg
    by_cases hlt : k < gl
    · obtain ⟨b, o, rfl, hbw, hrow⟩ := C6.out.at_ (by omega)
      obtain ⟨b', o', rfl, hbw', hrow'⟩ := D6.out.at_ (by omega)
      have hks : k < G.length := by rw [C6.out.size]; exact hlt
      have x1 := (hrow k hks).2
      have x2 := (hrow' k hks).2
      obtain ⟨s0, i1, i2, s3, hp⟩ := A7.out G[k] (List.getElem_mem hks)
      rw [hp] at x1 x2
      have x10 : w0.cell? ⟨b, o + k * 4, none⟩ = some (.string s0) := x1 0 (by simp)
      have x11 : w0.cell? ⟨b, o + k * 4 + 1, none⟩ = some (.int .i64 i1) := x1 1 (by simp)
      have x12 : w0.cell? ⟨b, o + k * 4 + 2, none⟩ = some (.int .i64 i2) := x1 2 (by simp)
      have x13 : w0.cell? ⟨b, o + k * 4 + 3, none⟩ = some (.string s3) := x1 3 (by simp)
      have x20 : w0.cell? ⟨b', o' + k * 4, none⟩ = some (.string s0) := x2 0 (by simp)
      have x21 : w0.cell? ⟨b', o' + k * 4 + 1, none⟩ = some (.int .i64 i1) := x2 1 (by simp)
      have x22 : w0.cell? ⟨b', o' + k * 4 + 2, none⟩ = some (.int .i64 i2) := x2 2 (by simp)
      have x23 : w0.cell? ⟨b', o' + k * 4 + 3, none⟩ = some (.string s3) := x2 3 (by simp)
      have hne := neqGlob s0 i1 i2 s3
      have y1 : (k : Int) < (gc : Int) := by omega
      have y2 : (k : Int) < (gc' : Int) := by omega
      have y3 : (0 : Int) ≤ (k : Int) := Int.natCast_nonneg _
      have y4 : (k : Int) < (gl : Int) := by omega
      clear hrow hrow' x1 x2 hp
      go_wp2_with fail
      go_quiet (fail)
      clear hne
      go_wp2_with fail
      go_roundg (gl - (k + 1))
      case rel => exact ⟨k + 1, rfl, by omega, by go_num, _, rfl⟩
      case measure => have := HG.out; omega
    · obtain rfl : k = gl := by omega
      go_wp2_with fail
      obtain ⟨w2, hw2⟩ : ∃ w2 : World, w2 = w0.drewN n := ⟨_, rfl⟩
      have HB2 := Lib.hid (show Below w0.heap.size w0 w2 from by rw [hw2]; exact below_drewN (Below.refl _ _) _)
      rw [← hw2]
      clear hw2 HG
      have HBS := HB2
      go_loopg [6] fl (fun g i wx => ∃ k : Nat, g = fl - k ∧ k ≤ fl ∧ i = .int .i64 k ∧ Below w0.heap.size w0 wx)
      case atStart => exact ⟨0, by omega, by omega, rfl, HBS.out⟩
      case round =>
        obtain ⟨k, hg, hk, rfl, hb⟩ := hrel
        have HG := Lib.hid hg
        have HB := Lib.hid hb
        have hzr := hb.size
        have m0 : wr.cell? ⟨w.heap.size, 0, none⟩ = some (.slice AF fl fc) := (hb.cell (p := ⟨w.heap.size, 0, none⟩) (by show w.heap.size < _; omega)).trans k0
        have m1 : wr.cell? ⟨w.heap.size + 1, 0, none⟩ = some (.slice AF' fl fc') := (hb.cell (p := ⟨w.heap.size + 1, 0, none⟩) (by show w.heap.size + 1 < _; omega)).trans kp0
        clear hg
        by_cases hlt : k < fl
        · obtain ⟨b, o, rfl, hbw, hrow⟩ := C3.out.at_ (by omega)
          obtain ⟨b', o', rfl, hbw', hrow'⟩ := D3.out.at_ (by omega)
          have hkf : k < F.length := by rw [C3.out.size]; exact hlt
          have hkf' : k < F'.length := by rw [D3.out.size]; exact hlt
          have hrx := hrow k hkf
          have hrz := hrow' k hkf'
          have HP := Lib.hid (C3.out.each F[k] (List.getElem_mem hkf))
          have HQ := Lib.hid (D3.out.each F'[k] (List.getElem_mem hkf'))
          have hsame := HF2.out k hkf hkf'
          generalize F[k] = f at hrx HP hsame
          generalize F'[k] = f' at hrz HQ hsame
          obtain ⟨p, l, c, ⟨A1, ln, cp, Cx⟩⟩ := f
          obtain ⟨p', l', c', ⟨A1', ln', cp', Cx'⟩⟩ := f'
          obtain ⟨e1, e2, e3, e4⟩ := hsame
          simp only at e1 e2 e3 e4 hrx hrz
          subst e1 e2 e3 e4
          obtain rfl : ln = ln' := HP.out.rows.size.symm.trans HQ.out.rows.size
          have x0 := (HB.out.cell (p := ⟨b, o + k * 4, none⟩) hbw).trans hrx.1
          have x1 := (HB.out.cell (p := ⟨b, o + k * 4 + 1, none⟩) hbw).trans hrx.2.1
          have x2 := (HB.out.cell (p := ⟨b, o + k * 4 + 2, none⟩) hbw).trans hrx.2.2.1
          have x3 := (HB.out.cell (p := ⟨b, o + k * 4 + 3, none⟩) hbw).trans hrx.2.2.2
          have z0 := (HB.out.cell (p := ⟨b', o' + k * 4, none⟩) hbw').trans hrz.1
          have z1 := (HB.out.cell (p := ⟨b', o' + k * 4 + 1, none⟩) hbw').trans hrz.2.1
          have z2 := (HB.out.cell (p := ⟨b', o' + k * 4 + 2, none⟩) hbw').trans hrz.2.2.1
          have z3 := (HB.out.cell (p := ⟨b', o' + k * 4 + 3, none⟩) hbw').trans hrz.2.2.2
          have hlb : b < wr.heap.size := Nat.lt_of_lt_of_le hbw hzr
          have hlb' : b' < wr.heap.size := Nat.lt_of_lt_of_le hbw' hzr
          have hlw : w.heap.size < wr.heap.size := by omega
          have hlw1 : w.heap.size + 1 < wr.heap.size := by omega
          have y1 : (k : Int) < (fc : Int) := by omega
          have y2 : (k : Int) < (fc' : Int) := by omega
          have y3 : (0 : Int) ≤ (k : Int) := Int.natCast_nonneg _
          have y4 : (k : Int) < (fl : Int) := by omega
          clear hrow hrow' hrx hrz hb
          go_wp2_with fail
          go_region_held3 (fun w' => w'.cell? ⟨w.heap.size, 0, none⟩ = some (.slice (some ⟨b, o, none⟩) fl fc) ∧ w'.cell? ⟨w.heap.size + 1, 0, none⟩ = some (.slice (some ⟨b', o', none⟩) fl fc') ∧ w'.cell? ⟨b, o + k * 4, none⟩ = some (.int .i64 p) ∧ w'.cell? ⟨b, o + k * 4 + 1, none⟩ = some (.int .i64 l) ∧ w'.cell? ⟨b, o + k * 4 + 2, none⟩ = some (.int .i64 c) ∧ w'.cell? ⟨b, o + k * 4 + 3, none⟩ = some (.slice A1 ln cp) ∧ w'.cell? ⟨b', o' + k * 4, none⟩ = some (.int .i64 p) ∧ w'.cell? ⟨b', o' + k * 4 + 1, none⟩ = some (.int .i64 l) ∧ w'.cell? ⟨b', o' + k * 4 + 2, none⟩ = some (.int .i64 c) ∧ w'.cell? ⟨b', o' + k * 4 + 3, none⟩ = some (.slice A1' ln cp')) (go_keep)
            (first | (go_at_call 20; refine (sameFunc_any p l c A1 A1' ln cp cp' Cx _ HP.out.le HQ.out.le HP.out.wide HQ.out.wide (HP.out.rows.below HB.out.drew) (HQ.out.rows.below HB.out.drew) HP.out.each).mono ?_; rintro e w5 ⟨rfl, hb5⟩; have HB5 := Lib.hid (HB.out.trans ((Below.refl wr.heap.size wr).drew.trans hb5 |>.mono HB.out.size)); have m0' : w5.cell? ⟨w.heap.size, 0, none⟩ = some (.slice (some ⟨b, o, none⟩) fl fc) := (hb5.cell (p := ⟨w.heap.size, 0, none⟩) hlw).trans m0; have m1' : w5.cell? ⟨w.heap.size + 1, 0, none⟩ = some (.slice (some ⟨b', o', none⟩) fl fc') := (hb5.cell (p := ⟨w.heap.size + 1, 0, none⟩) hlw1).trans m1; have x0' : w5.cell? ⟨b, o + k * 4, none⟩ = some (.int .i64 p) := (hb5.cell (p := ⟨b, o + k * 4, none⟩) hlb).trans x0; have x1' : w5.cell? ⟨b, o + k * 4 + 1, none⟩ = some (.int .i64 l) := (hb5.cell (p := ⟨b, o + k * 4 + 1, none⟩) hlb).trans x1; have x2' : w5.cell? ⟨b, o + k * 4 + 2, none⟩ = some (.int .i64 c) := (hb5.cell (p := ⟨b, o + k * 4 + 2, none⟩) hlb).trans x2; have x3' : w5.cell? ⟨b, o + k * 4 + 3, none⟩ = some (.slice A1 ln cp) := (hb5.cell (p := ⟨b, o + k * 4 + 3, none⟩) hlb).trans x3; have z0' : w5.cell? ⟨b', o' + k * 4, none⟩ = some (.int .i64 p) := (hb5.cell (p := ⟨b', o' + k * 4, none⟩) hlb').trans z0; have z1' : w5.cell? ⟨b', o' + k * 4 + 1, none⟩ = some (.int .i64 l) := (hb5.cell (p := ⟨b', o' + k * 4 + 1, none⟩) hlb').trans z1; have z2' : w5.cell? ⟨b', o' + k * 4 + 2, none⟩ = some (.int .i64 c) := (hb5.cell (p := ⟨b', o' + k * 4 + 2, none⟩) hlb').trans z2; have z3' : w5.cell? ⟨b', o' + k * 4 + 3, none⟩ = some (.slice A1' ln cp') := (hb5.cell (p := ⟨b', o' + k * 4 + 3, none⟩) hlb').trans z3; clear hb5))
          go_wp2_with fail
          go_roundg (fl - (k + 1))
          case rel => exact ⟨k + 1, rfl, by omega, by go_num, by first | exact HB5.out | exact HB5.out.drew⟩
          case measure => have := HG.out; omega
        · obtain rfl : k = fl := by omega
          have HBS2 := Lib.hid HB.out
          clear hb hzr
          go_wp2_with fail
          clear m0 m1
          go_loopg [7] rl (fun g i wx => ∃ k : Nat, g = rl - k ∧ k ≤ rl ∧ i = .int .i64 k ∧ Below w0.heap.size w0 wx)
          case atStart => exact ⟨0, by omega, by omega, rfl, HBS2.out⟩
          case round =>
            obtain ⟨k, hg, hk, rfl, hb⟩ := hrel
            have HG := Lib.hid hg
            have HB := Lib.hid hb
            have hzr := hb.size
            have m0 : wr.cell? ⟨w.heap.size, 2, none⟩ = some (.slice AR rl rc) := (hb.cell (p := ⟨w.heap.size, 2, none⟩) (by show w.heap.size < _; omega)).trans k2
            have m1 : wr.cell? ⟨w.heap.size + 1, 2, none⟩ = some (.slice AR' rl rc') := (hb.cell (p := ⟨w.heap.size + 1, 2, none⟩) (by show w.heap.size + 1 < _; omega)).trans kp2
            clear hg
            by_cases hlt : k < rl
            · obtain ⟨b, o, rfl, hbw, hrow⟩ := C10.out.at_ (by omega)
              obtain ⟨b', o', rfl, hbw', hrow'⟩ := D10.out.at_ (by omega)
              have hkf : k < R.length := by rw [C10.out.size]; exact hlt
              have hkf' : k < R'.length := by rw [D10.out.size]; exact hlt
              have hrx := hrow k hkf
              have hrz := hrow' k hkf'
              have HP := Lib.hid (C10.out.each R[k] (List.getElem_mem hkf))
              have HQ := Lib.hid (D10.out.each R'[k] (List.getElem_mem hkf'))
              have hsame := HR2.out k hkf hkf'
              generalize R[k] = f at hrx HP hsame
              generalize R'[k] = f' at hrz HQ hsame
              obtain ⟨nm, A1, n1, c1, X, A3, n3, c3, M⟩ := f
              obtain ⟨nm', A1', n1', c1', X', A3', n3', c3', M'⟩ := f'
              obtain ⟨e1, e2, e3⟩ := hsame
              simp only at e1 e2 e3 hrx hrz
              subst e1
              obtain rfl : n1 = n1' := by have h := congrArg List.length e2; rw [List.length_map, List.length_map, HP.out.vers.size, HQ.out.vers.size] at h; exact h
              obtain rfl : n3 = n3' := by have h := congrArg List.length e3; rw [List.length_map, List.length_map, HP.out.moves.size, HQ.out.moves.size] at h; exact h
              have HE2 := Lib.hid e2
              have HE3 := Lib.hid e3
              clear e2 e3
              have x0 := (HB.out.cell (p := ⟨b, o + k * 3, none⟩) hbw).trans hrx.1
              have x1 := (HB.out.cell (p := ⟨b, o + k * 3 + 1, none⟩) hbw).trans hrx.2.1
              have x2 := (HB.out.cell (p := ⟨b, o + k * 3 + 2, none⟩) hbw).trans hrx.2.2
              have z0 := (HB.out.cell (p := ⟨b', o' + k * 3, none⟩) hbw').trans hrz.1
              have z1 := (HB.out.cell (p := ⟨b', o' + k * 3 + 1, none⟩) hbw').trans hrz.2.1
              have z2 := (HB.out.cell (p := ⟨b', o' + k * 3 + 2, none⟩) hbw').trans hrz.2.2
              have hlb : b < wr.heap.size := Nat.lt_of_lt_of_le hbw hzr
              have hlb' : b' < wr.heap.size := Nat.lt_of_lt_of_le hbw' hzr
              have hlw : w.heap.size < wr.heap.size := by omega
              have hlw1 : w.heap.size + 1 < wr.heap.size := by omega
              have y1 : (k : Int) < (rc : Int) := by omega
              have y2 : (k : Int) < (rc' : Int) := by omega
              have y3 : (0 : Int) ≤ (k : Int) := Int.natCast_nonneg _
              have y4 : (k : Int) < (rl : Int) := by omega
              clear hrow hrow' hrx hrz hb
              go_wp2_with fail
              go_region_held3 (fun w' => w'.cell? ⟨w.heap.size, 2, none⟩ = some (.slice (some ⟨b, o, none⟩) rl rc) ∧ w'.cell? ⟨w.heap.size + 1, 2, none⟩ = some (.slice (some ⟨b', o', none⟩) rl rc') ∧ w'.cell? ⟨b, o + k * 3, none⟩ = some (.string nm) ∧ w'.cell? ⟨b, o + k * 3 + 1, none⟩ = some (.slice A1 n1 c1) ∧ w'.cell? ⟨b, o + k * 3 + 2, none⟩ = some (.slice A3 n3 c3) ∧ w'.cell? ⟨b', o' + k * 3, none⟩ = some (.string nm) ∧ w'.cell? ⟨b', o' + k * 3 + 1, none⟩ = some (.slice A1' n1 c1') ∧ w'.cell? ⟨b', o' + k * 3 + 2, none⟩ = some (.slice A3' n3 c3')) (go_keep)
                (first | (go_at_call 21; refine (sameRec_any nm A1 A1' A3 A3' n1 c1 c1' n3 c3 c3' X X' M M' _ HP.out.le1 HQ.out.le1 HP.out.wide1 HQ.out.wide1 HP.out.le3 HQ.out.le3 HP.out.wide3 HQ.out.wide3 (HP.out.vers.below HB.out.drew) (HQ.out.vers.below HB.out.drew) HE2.out (HP.out.moves.below HB.out.drew) (HQ.out.moves.below HB.out.drew) HE3.out).mono ?_; rintro e w5 ⟨rfl, hb5⟩; have HB5 := Lib.hid (HB.out.trans ((Below.refl wr.heap.size wr).drew.trans hb5 |>.mono HB.out.size)); have m0' : w5.cell? ⟨w.heap.size, 2, none⟩ = some (.slice (some ⟨b, o, none⟩) rl rc) := (hb5.cell (p := ⟨w.heap.size, 2, none⟩) hlw).trans m0; have m1' : w5.cell? ⟨w.heap.size + 1, 2, none⟩ = some (.slice (some ⟨b', o', none⟩) rl rc') := (hb5.cell (p := ⟨w.heap.size + 1, 2, none⟩) hlw1).trans m1; have x0' : w5.cell? ⟨b, o + k * 3, none⟩ = some (.string nm) := (hb5.cell (p := ⟨b, o + k * 3, none⟩) hlb).trans x0; have x1' : w5.cell? ⟨b, o + k * 3 + 1, none⟩ = some (.slice A1 n1 c1) := (hb5.cell (p := ⟨b, o + k * 3 + 1, none⟩) hlb).trans x1; have x2' : w5.cell? ⟨b, o + k * 3 + 2, none⟩ = some (.slice A3 n3 c3) := (hb5.cell (p := ⟨b, o + k * 3 + 2, none⟩) hlb).trans x2; have z0' : w5.cell? ⟨b', o' + k * 3, none⟩ = some (.string nm) := (hb5.cell (p := ⟨b', o' + k * 3, none⟩) hlb').trans z0; have z1' : w5.cell? ⟨b', o' + k * 3 + 1, none⟩ = some (.slice A1' n1 c1') := (hb5.cell (p := ⟨b', o' + k * 3 + 1, none⟩) hlb').trans z1; have z2' : w5.cell? ⟨b', o' + k * 3 + 2, none⟩ = some (.slice A3' n3 c3') := (hb5.cell (p := ⟨b', o' + k * 3 + 2, none⟩) hlb').trans z2; clear hb5))
              go_wp2_with fail
              go_roundg (rl - (k + 1))
              case rel => exact ⟨k + 1, rfl, by omega, by go_num, by first | exact HB5.out | exact HB5.out.drew⟩
              case measure => have := HG.out; omega
            · obtain rfl : k = rl := by omega
              go_wp2_with fail
              go_ret
              exact ⟨rfl, HB0.out.trans (HB.out.mono HB0.out.size)⟩
end Go.Proofs.Ytbkagjngckfonaa
