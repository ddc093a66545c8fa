/- Contract of vm.Copy. -/
import Derived.Test.YtbkagjngckfonaaVmGrow
namespace Go.Proofs.Ytbkagjngckfonaa
open Go.RowKit Go.ChangeShapes Go.WideShapes Go.Deep Go.ChangeAt
set_option linter.unusedVariables false

structure WdV.Small (x : WdV) : Prop where
  fl : x.fl * 48 ≤ 140737488351232
  gl : x.gl * 48 ≤ 140737488351232
  rl : x.rl * 64 ≤ 140737488351232
  wl : x.wl * 32 ≤ 140737488351232
  fn : ∀ f ∈ x.F, f.code.len * 88 ≤ 140737488351232
  rc : ∀ r ∈ x.R, r.n1 * 40 ≤ 140737488351232 ∧ r.n3 * 24 ≤ 140737488351232 ∧ (∀ s ∈ r.X, s.len * 16 ≤ 140737488351232) ∧ ∀ m ∈ r.M, m.len * 8 ≤ 140737488351232

def CopyPost (w : World) (x : WdV) (e : Ending) (w' : World) : Prop := ∃ y : WdV, e = .returned (.agg y.cells) ∧ y.Ok w' ∧ y.Same x ∧ Below w.heap.size w w'

theorem infoFunc : (Try.prog.info? 61).map (fun i => (i.zero, i.size, i.bytes)) = some (some (.agg #[.int .i64 0, .int .i64 0, .int .i64 0, .slice none 0 0]), 4, 48) := by kernel_rfl
theorem infoRec : (Try.prog.info? 67).map (fun i => (i.zero, i.size, i.bytes)) = some (some (.agg #[.string ByteArray.empty, .slice none 0 0, .slice none 0 0]), 3, 64) := by kernel_rfl
theorem infoSlInt : (Try.prog.info? 24).map (fun i => (i.zero, i.size, i.bytes)) = some (some (.slice none 0 0), 1, 24) := by kernel_rfl
theorem below_grown {a wc wr : World} {N p : Nat} (h : Below N a wc) (hN : N ≤ a.heap.size) (hg : wc.grownBy wr (some p)) (hp : N ≤ p) : Below N a wr :=
  ⟨hg.os.trans h.os, hg.tape.trans h.tape, hg.output.trans h.output, Nat.le_trans h.size hg.size, fun k hk => (hg.block k (Nat.lt_of_lt_of_le (Nat.lt_of_lt_of_le hk hN) h.size) (fun e => by have := Option.some.inj e; omega)).trans (h.block k hk)⟩

theorem rowsF_at {w : World} {A : Option Addr} {n k : Nat} {α : Type} {cells : α → List Value} {X : List α} (h : RowsF w A n k (X.map cells)) (h0 : 0 < n) : ∃ b o, A = some ⟨b, o, none⟩ ∧ b < w.heap.size ∧ ∀ i, (hi : i < X.length) → ∀ j, (hj : j < (cells X[i]).length) → w.cell? ⟨b, o + i * k + j, none⟩ = some ((cells X[i])[j]) := by
  obtain ⟨b, o, rfl, hl, hc⟩ := h.at_ h0
  refine ⟨b, o, rfl, hl, fun i hi j hj => ?_⟩
  have hi' : i < (X.map cells).length := by simpa using hi
  have h2 := (hc i hi').2 j (by simpa using hj)
  simp only [List.getElem_map] at h2
  rw [h2, List.getElem?_eq_getElem hj]
theorem OwnAt.shapes {T base : Nat} {w : World} {v : Value} {X : List Shp} (h : OwnAt kitShp T base w v X) : ∃ A cap, v = .slice A X.length cap ∧ X.length ≤ cap ∧ cap ≤ maxLen ∧ ShapesAt w A X.length X ∧ ∀ a, A = some a → base ≤ a.block := by
  obtain ⟨A, cap, h1, h2, h3, h4, h5⟩ := h.form
  refine ⟨A, cap, h1, h2, h3, ⟨rfl, fun h0 => ?_, h.each⟩, h5⟩
  obtain ⟨b, o, rfl, hl, hc⟩ := rowsF_at h4 h0
  exact ⟨b, o, rfl, hl, fun i hi => ⟨hc i hi 0 (by simp [kitShp]), hc i hi 1 (by simp [kitShp])⟩⟩
theorem OwnAt.sls {T base : Nat} {w : World} {v : Value} {X : List Sl} (h : OwnAt kitSl T base w v X) : ∃ A cap, v = .slice A X.length cap ∧ X.length ≤ cap ∧ cap ≤ maxLen ∧ SlsAt w 1 IsInt A X.length X ∧ ∀ a, A = some a → base ≤ a.block := by
  obtain ⟨A, cap, h1, h2, h3, h4, h5⟩ := h.form
  refine ⟨A, cap, h1, h2, h3, ⟨rfl, fun h0 => ?_, h.each⟩, h5⟩
  obtain ⟨b, o, rfl, hl, hc⟩ := rowsF_at h4 h0
  exact ⟨b, o, rfl, hl, fun i hi => by simpa [kitSl] using hc i hi 0 (by simp [kitSl])⟩
theorem OwnAt.fns {T base : Nat} {w : World} {v : Value} {X : List FnV} (h : OwnAt kitFn T base w v X) : ∃ A cap, v = .slice A X.length cap ∧ X.length ≤ cap ∧ cap ≤ maxLen ∧ FnsAt w A X.length X := by
  obtain ⟨A, cap, h1, h2, h3, h4, h5⟩ := h.form
  refine ⟨A, cap, h1, h2, h3, ⟨rfl, fun h0 => ?_, h.each⟩⟩
  obtain ⟨b, o, rfl, hl, hc⟩ := rowsF_at h4 h0
  exact ⟨b, o, rfl, hl, fun i hi => ⟨hc i hi 0 (by simp [kitFn, FnV.cells]), hc i hi 1 (by simp [kitFn, FnV.cells]), hc i hi 2 (by simp [kitFn, FnV.cells]), hc i hi 3 (by simp [kitFn, FnV.cells])⟩⟩
theorem OwnAt.rcs {T base : Nat} {w : World} {v : Value} {X : List RcV} (h : OwnAt kitRc T base w v X) : ∃ A cap, v = .slice A X.length cap ∧ X.length ≤ cap ∧ cap ≤ maxLen ∧ RcsAt w A X.length X := by
  obtain ⟨A, cap, h1, h2, h3, h4, h5⟩ := h.form
  refine ⟨A, cap, h1, h2, h3, ⟨rfl, fun h0 => ?_, h.each⟩⟩
  obtain ⟨b, o, rfl, hl, hc⟩ := rowsF_at h4 h0
  exact ⟨b, o, rfl, hl, fun i hi => ⟨hc i hi 0 (by simp [kitRc, RcV.cells]), hc i hi 1 (by simp [kitRc, RcV.cells]), hc i hi 2 (by simp [kitRc, RcV.cells])⟩⟩
theorem map_same {α β : Type} (f : α → β) {X Y : List α} (hl : X.length = Y.length) (h : ∀ i, (h : i < X.length) → (h' : i < Y.length) → f X[i] = f Y[i]) : X.map f = Y.map f := by
  refine List.ext_getElem (by simpa using hl) fun i h1 h2 => ?_
  simpa using h i (by simpa using h1) (by simpa using h2)
theorem grown_set5 (w : World) (g : Nat) (u0 u1 u2 u3 u4 : Value) : w.grownBy (((((w.setCell ⟨g, 0, none⟩ u0).setCell ⟨g, 1, none⟩ u1).setCell ⟨g, 2, none⟩ u2).setCell ⟨g, 3, none⟩ u3).setCell ⟨g, 4, none⟩ u4) (some g) :=
  ((((grown_set _ _ _ _).trans (grown_set _ _ _ _)).trans (grown_set _ _ _ _)).trans (grown_set _ _ _ _)).trans (grown_set _ _ _ _)
def sameShp (a b : Shp) : Prop := a.sh = b.sh
def sameSl (a b : Sl) : Prop := a.C = b.C

/-- What the first statement of Copy leaves. -/
def NewWd (wb wx : World) (gl wl : Nat) (G W : List (List Value)) (lim : Int) (v : Value) : Prop := ∃ (p : Nat) (AG AW : Option Addr) (cg cw : Nat), v = .pointer (some ⟨p, 0, none⟩) ∧ wb.heap.size ≤ p ∧ p < wx.heap.size ∧
  wx.cell? ⟨p, 0, none⟩ = some (.slice none 0 0) ∧ wx.cell? ⟨p, 1, none⟩ = some (.slice AG gl cg) ∧ wx.cell? ⟨p, 2, none⟩ = some (.slice none 0 0) ∧ wx.cell? ⟨p, 3, none⟩ = some (.slice AW wl cw) ∧ wx.cell? ⟨p, 4, none⟩ = some (.int .i64 lim) ∧
  gl ≤ cg ∧ cg ≤ maxLen ∧ wl ≤ cw ∧ cw ≤ maxLen ∧ RowsF wx AG gl 4 G ∧ RowsF wx AW wl 3 W ∧ (∀ b, inSl AG gl b → wb.heap.size ≤ b ∧ b ≠ p) ∧ (∀ b, inSl AW wl b → wb.heap.size ≤ b ∧ b ≠ p) ∧ (∀ o, wx.frozen? ⟨p, o, none⟩ = false) ∧ Below wb.heap.size wb wx

theorem inSl_from {A : Option Addr} {len b N : Nat} (h : ∀ a, A = some a → N ≤ a.block) (hb : inSl A len b) : N ≤ b := by
  obtain ⟨a, ha, _, rfl⟩ := hb
  exact h a ha
theorem below_step {a b c : World} (h : Below b.heap.size b c) (h0 : Below a.heap.size a b) : Below a.heap.size a c := h0.trans (h.mono h0.size)

theorem newWd_last {wb w4 : World} {gl wl cg cw : Nat} {G W : List (List Value)} {lim : Int} {Ag Aw : Option Addr} {T : TypeId} (hb : Below wb.heap.size wb w4) (hg : RowsF w4 Ag gl 4 G) (hw : RowsF w4 Aw wl 3 W)
    (fg : ∀ b, inSl Ag gl b → wb.heap.size ≤ b) (fw : ∀ b, inSl Aw wl b → wb.heap.size ≤ b) (h1 : gl ≤ cg) (h2 : cg ≤ maxLen) (h3 : wl ≤ cw) (h4 : cw ≤ maxLen) :
    NewWd wb (w4.alloc (.cells #[.slice none 0 0, .slice Ag gl cg, .slice none 0 0, .slice Aw wl cw, .int .i64 lim] T)) gl wl G W lim (.pointer (some ⟨w4.heap.size, 0, none⟩)) :=
  ⟨w4.heap.size, Ag, Aw, cg, cw, rfl, hb.size, by simp, cell_new _ _ _ 0, cell_new _ _ _ 1, cell_new _ _ _ 2, cell_new _ _ _ 3, cell_new _ _ _ 4, h1, h2, h3, h4, hg.below ((Below.refl _ _).alloc (Nat.le_refl _) _), hw.below ((Below.refl _ _).alloc (Nat.le_refl _) _),
    fun b hbb => ⟨fg b hbb, fun e => Nat.lt_irrefl _ (e ▸ hg.lt hbb)⟩, fun b hbb => ⟨fw b hbb, fun e => Nat.lt_irrefl _ (e ▸ hw.lt hbb)⟩, fun o => frozen_new _ _ _ o, hb.alloc hb.size _⟩
theorem newWd_set {wb w4 : World} {gl wl cg cw p : Nat} {G W : List (List Value)} {lim : Int} {Ag Aw : Option Addr} {u0 u1 u2 u3 u4 : Value} (hb : Below wb.heap.size wb w4) (hg : RowsF w4 Ag gl 4 G) (hw : RowsF w4 Aw wl 3 W)
    (fg : ∀ b, inSl Ag gl b → wb.heap.size ≤ b) (fw : ∀ b, inSl Aw wl b → wb.heap.size ≤ b) (pg : ∀ b, inSl Ag gl b → b ≠ p) (pw : ∀ b, inSl Aw wl b → b ≠ p) (h1 : gl ≤ cg) (h2 : cg ≤ maxLen) (h3 : wl ≤ cw) (h4 : cw ≤ maxLen)
    (hp : wb.heap.size ≤ p) (hp4 : p < w4.heap.size) (c0 : w4.cell? ⟨p, 0, none⟩ = some u0) (c1 : w4.cell? ⟨p, 1, none⟩ = some u1) (c2 : w4.cell? ⟨p, 2, none⟩ = some u2) (c3 : w4.cell? ⟨p, 3, none⟩ = some u3) (c4 : w4.cell? ⟨p, 4, none⟩ = some u4) (cf : ∀ o, w4.frozen? ⟨p, o, none⟩ = false) :
    NewWd wb (((((w4.setCell ⟨p, 0, none⟩ (.slice none 0 0)).setCell ⟨p, 1, none⟩ (.slice Ag gl cg)).setCell ⟨p, 2, none⟩ (.slice none 0 0)).setCell ⟨p, 3, none⟩ (.slice Aw wl cw)).setCell ⟨p, 4, none⟩ (.int .i64 lim)) gl wl G W lim (.pointer (some ⟨p, 0, none⟩)) := by
  have HG : ∀ b, inSl Ag gl b → (some p : Option Nat) ≠ some b := fun b hbb e => pg b hbb (Option.some.inj e).symm
  have HW : ∀ b, inSl Aw wl b → (some p : Option Nat) ≠ some b := fun b hbb e => pw b hbb (Option.some.inj e).symm
  refine ⟨p, Ag, Aw, cg, cw, rfl, hp, by simpa using hp4, ?_, ?_, ?_, ?_, ?_, h1, h2, h3, h4, ?_, ?_, fun b hbb => ⟨fg b hbb, pg b hbb⟩, fun b hbb => ⟨fw b hbb, pw b hbb⟩, fun o => by rw [World.frozen?_setCell, World.frozen?_setCell, World.frozen?_setCell, World.frozen?_setCell, World.frozen?_setCell]; exact cf o, ((((hb.setCell hp _).setCell hp _).setCell hp _).setCell hp _).setCell hp _⟩
  · exact set_other (set_other (set_other (set_other (set_same c0) (by decide)) (by decide)) (by decide)) (by decide)
  · exact set_other (set_other (set_other (set_same (set_other c1 (by decide))) (by decide)) (by decide)) (by decide)
  · exact set_other (set_other (set_same (set_other (set_other c2 (by decide)) (by decide))) (by decide)) (by decide)
  · exact set_other (set_same (set_other (set_other (set_other c3 (by decide)) (by decide)) (by decide))) (by decide)
  · exact set_same (set_other (set_other (set_other (set_other c4 (by decide)) (by decide)) (by decide)) (by decide))
  · exact ((((hg.grown (grown_set _ _ _ _) HG).grown (grown_set _ _ _ _) HG).grown (grown_set _ _ _ _) HG).grown (grown_set _ _ _ _) HG).grown (grown_set _ _ _ _) HG
  · exact ((((hw.grown (grown_set _ _ _ _) HW).grown (grown_set _ _ _ _) HW).grown (grown_set _ _ _ _) HW).grown (grown_set _ _ _ _) HW).grown (grown_set _ _ _ _) HW

set_option maxHeartbeats 8000000 in
set_option maxRecDepth 100000 in
theorem copy_any (x : WdV) (w : World) (hx : x.Ok w) (hs : x.Small) : Calls Try.prog 7 #[.agg x.cells] w (CopyPost w x) := by
  obtain ⟨v0, hv0⟩ : ∃ v0, x = v0 := ⟨_, rfl⟩
  have HV := Lib.hid hv0
  obtain ⟨AF, fl, fc, F, AG, gl, gc, G, AR, rl, rc, R, AW, wl, wk, W, lim⟩ := x
  obtain ⟨a1, a2, a3, a4, a5, a6, a7, a8, a9, a10, a11, a12, a13, a14⟩ := hx
  obtain ⟨s1, s2, s3, s4, s5, s6⟩ := hs
  simp only at a1 a2 a3 a4 a5 a6 a7 a8 a9 a10 a11 a12 a13 a14 s1 s2 s3 s4 s5 s6
  rw [hv0]
  simp only [← hv0, WdV.cells]
  clear hv0
  have hfl : fl ≤ 9223372036854775807 := by unfold maxLen at a2; omega
  have hgl : gl ≤ 9223372036854775807 := by unfold maxLen at a5; omega
  have hrl : rl ≤ 9223372036854775807 := by unfold maxLen at a9; omega
  obtain ⟨cs, hcs⟩ : ∃ cs : Array Value, #[.slice AF fl fc, .slice AG gl gc, .slice AR rl rc, .slice AW wl wk, .int .i64 lim] = cs := ⟨_, rfl⟩
  have A3 := Lib.hid a3
  have B3 := A3
  have A6 := Lib.hid a6
  have A7 := Lib.hid a7
  have A10 := Lib.hid a10
  have B10 := A10
  have A13 := Lib.hid a13
  have A14 := Lib.hid a14
  have S5 := Lib.hid s5
  have S6 := Lib.hid s6
  clear a3 a6 a7 a10 a13 a14 s5 s6 hcs
  go_enter Try.func7, Try.ntmps7
  go_upto_region 1 with fail
  go_cut [3] (fun v wx => NewWd ((w.alloc (.cells #[.slice AF fl fc, .slice AG gl gc, .slice AR rl rc, .slice AW wl wk, .int .i64 lim] 33)).alloc (.cells #[.slice none 0 0, .slice none 0 0, .slice none 0 0, .slice none 0 0, .int .i64 0] 33)) wx gl wl G W lim v)
  case first =>
    -- DEV1
    obtain ⟨wb, hwb⟩ : ∃ wb : World, wb = (w.alloc (.cells #[.slice AF fl fc, .slice AG gl gc, .slice AR rl rc, .slice AW wl wk, .int .i64 lim] 33)).alloc (.cells #[.slice none 0 0, .slice none 0 0, .slice none 0 0, .slice none 0 0, .int .i64 0] 33) := ⟨_, rfl⟩
    have hz : wb.heap.size = w.heap.size + 1 + 1 := by rw [hwb]; simp
    have k1 : wb.cell? ⟨w.heap.size, 1, none⟩ = some (.slice AG gl gc) := by rw [hwb, World.cell?_alloc_lt _ _ _ (by simp)]; exact cell_new _ _ _ 1
    have k3 : wb.cell? ⟨w.heap.size, 3, none⟩ = some (.slice AW wl wk) := by rw [hwb, World.cell?_alloc_lt _ _ _ (by simp)]; exact cell_new _ _ _ 3
    have k4 : wb.cell? ⟨w.heap.size, 4, none⟩ = some (.int .i64 lim) := by rw [hwb, World.cell?_alloc_lt _ _ _ (by simp)]; exact cell_new _ _ _ 4
    have hbw : Below w.heap.size w wb := by rw [hwb]; exact ((Below.refl w.heap.size w).alloc (Nat.le_refl _) _).alloc (by simp) _
    have HG := Lib.hid (A6.out.below hbw)
    have HW := Lib.hid (A13.out.below hbw)
    rw [← hwb]
    have HWB := Lib.hid hwb
    have HZ := Lib.hid hz
    have hsb : w.heap.size < wb.heap.size := by omega
    clear hwb hbw hz A3 A6 A10 A13
    have hnx := World.new_ne wb _ k1
    have HK1 := Lib.hid k1
    have HK3 := Lib.hid k3
    have HK4 := Lib.hid k4
    go_region_held3 (fun w' => w'.cell? ⟨w.heap.size, 1, none⟩ = some (.slice AG gl gc) ∧ w'.cell? ⟨w.heap.size, 3, none⟩ = some (.slice AW wl wk) ∧ w'.cell? ⟨w.heap.size, 4, none⟩ = some (.int .i64 lim)) (go_keep)
      (first
        | (go_at_call 14; (with_reducible show Calls _ _ _ (wb.drew) _); refine (clone_glob AG gl gc G (wb.drew) (HG.out.below (show Below wb.heap.size wb wb.drew from (Below.refl wb.heap.size wb).drew)) s2 A7.out).mono ?_; rintro e w3 ⟨Ag, cg, rfl, hlg, hmg, hr, hf, hb⟩; have HB3 := Lib.hid (below_step hb (show Below wb.heap.size wb wb.drew from (Below.refl wb.heap.size wb).drew)); have HRg := Lib.hid hr; have HFg := Lib.hid (fun b (hbb : inSl Ag gl b) => Nat.le_trans (show Below wb.heap.size wb wb.drew from (Below.refl wb.heap.size wb).drew).size (inSl_from hf hbb)); have m31 : w3.cell? ⟨w.heap.size, 1, none⟩ = some (.slice AG gl gc) := (HB3.out.cell (p := ⟨w.heap.size, 1, none⟩) hsb).trans HK1.out; have m33 : w3.cell? ⟨w.heap.size, 3, none⟩ = some (.slice AW wl wk) := (HB3.out.cell (p := ⟨w.heap.size, 3, none⟩) hsb).trans HK3.out; have m34 : w3.cell? ⟨w.heap.size, 4, none⟩ = some (.int .i64 lim) := (HB3.out.cell (p := ⟨w.heap.size, 4, none⟩) hsb).trans HK4.out; clear hb hr hf)
        | (go_at_call 14; (with_reducible show Calls _ _ _ ((wb.alloc (.cells #[.slice none 0 0, .slice none 0 0, .slice none 0 0, .slice none 0 0, .int .i64 0] 33)).drew) _); refine (clone_glob AG gl gc G ((wb.alloc (.cells #[.slice none 0 0, .slice none 0 0, .slice none 0 0, .slice none 0 0, .int .i64 0] 33)).drew) (HG.out.below (show Below wb.heap.size wb (wb.alloc (.cells #[.slice none 0 0, .slice none 0 0, .slice none 0 0, .slice none 0 0, .int .i64 0] 33)).drew from ((Below.refl wb.heap.size wb).alloc (Nat.le_refl _) (.cells #[.slice none 0 0, .slice none 0 0, .slice none 0 0, .slice none 0 0, .int .i64 0] 33)).drew)) s2 A7.out).mono ?_; rintro e w3 ⟨Ag, cg, rfl, hlg, hmg, hr, hf, hb⟩; have HB3 := Lib.hid (below_step hb (show Below wb.heap.size wb (wb.alloc (.cells #[.slice none 0 0, .slice none 0 0, .slice none 0 0, .slice none 0 0, .int .i64 0] 33)).drew from ((Below.refl wb.heap.size wb).alloc (Nat.le_refl _) (.cells #[.slice none 0 0, .slice none 0 0, .slice none 0 0, .slice none 0 0, .int .i64 0] 33)).drew)); have HRg := Lib.hid hr; have HFg := Lib.hid (fun b (hbb : inSl Ag gl b) => Nat.le_trans (show Below wb.heap.size wb (wb.alloc (.cells #[.slice none 0 0, .slice none 0 0, .slice none 0 0, .slice none 0 0, .int .i64 0] 33)).drew from ((Below.refl wb.heap.size wb).alloc (Nat.le_refl _) (.cells #[.slice none 0 0, .slice none 0 0, .slice none 0 0, .slice none 0 0, .int .i64 0] 33)).drew).size (inSl_from hf hbb)); have m31 : w3.cell? ⟨w.heap.size, 1, none⟩ = some (.slice AG gl gc) := (HB3.out.cell (p := ⟨w.heap.size, 1, none⟩) hsb).trans HK1.out; have m33 : w3.cell? ⟨w.heap.size, 3, none⟩ = some (.slice AW wl wk) := (HB3.out.cell (p := ⟨w.heap.size, 3, none⟩) hsb).trans HK3.out; have m34 : w3.cell? ⟨w.heap.size, 4, none⟩ = some (.int .i64 lim) := (HB3.out.cell (p := ⟨w.heap.size, 4, none⟩) hsb).trans HK4.out; have n30 : w3.cell? ⟨wb.heap.size, 0, none⟩ = some (.slice none 0 0) := (hb.cell (p := ⟨wb.heap.size, 0, none⟩) (by simp)).trans (cell_new wb _ _ 0); have q30 : w3.frozen? ⟨wb.heap.size, 0, none⟩ = false := (hb.frozen (p := ⟨wb.heap.size, 0, none⟩) (by simp)).trans (frozen_new wb _ _ 0); have HN0 := Lib.hid n30; have HQ0 := Lib.hid q30; have n31 : w3.cell? ⟨wb.heap.size, 1, none⟩ = some (.slice none 0 0) := (hb.cell (p := ⟨wb.heap.size, 1, none⟩) (by simp)).trans (cell_new wb _ _ 1); have q31 : w3.frozen? ⟨wb.heap.size, 1, none⟩ = false := (hb.frozen (p := ⟨wb.heap.size, 1, none⟩) (by simp)).trans (frozen_new wb _ _ 1); have HN1 := Lib.hid n31; have HQ1 := Lib.hid q31; have n32 : w3.cell? ⟨wb.heap.size, 2, none⟩ = some (.slice none 0 0) := (hb.cell (p := ⟨wb.heap.size, 2, none⟩) (by simp)).trans (cell_new wb _ _ 2); have q32 : w3.frozen? ⟨wb.heap.size, 2, none⟩ = false := (hb.frozen (p := ⟨wb.heap.size, 2, none⟩) (by simp)).trans (frozen_new wb _ _ 2); have HN2 := Lib.hid n32; have HQ2 := Lib.hid q32; have n33 : w3.cell? ⟨wb.heap.size, 3, none⟩ = some (.slice none 0 0) := (hb.cell (p := ⟨wb.heap.size, 3, none⟩) (by simp)).trans (cell_new wb _ _ 3); have q33 : w3.frozen? ⟨wb.heap.size, 3, none⟩ = false := (hb.frozen (p := ⟨wb.heap.size, 3, none⟩) (by simp)).trans (frozen_new wb _ _ 3); have HN3 := Lib.hid n33; have HQ3 := Lib.hid q33; have n34 : w3.cell? ⟨wb.heap.size, 4, none⟩ = some (.int .i64 0) := (hb.cell (p := ⟨wb.heap.size, 4, none⟩) (by simp)).trans (cell_new wb _ _ 4); have q34 : w3.frozen? ⟨wb.heap.size, 4, none⟩ = false := (hb.frozen (p := ⟨wb.heap.size, 4, none⟩) (by simp)).trans (frozen_new wb _ _ 4); have HN4 := Lib.hid n34; have HQ4 := Lib.hid q34; have HQA := Lib.hid (fun o => (hb.frozen (p := ⟨wb.heap.size, o, none⟩) (by simp)).trans (frozen_new wb _ _ o)); have HL := Lib.hid (show wb.heap.size < w3.heap.size from Nat.lt_of_lt_of_le (by simp) hb.size); have HPg := Lib.hid (fun b (hbb : inSl Ag gl b) (e : b = wb.heap.size) => Nat.lt_irrefl _ (Nat.lt_of_lt_of_le (show wb.heap.size < (wb.alloc (.cells #[.slice none 0 0, .slice none 0 0, .slice none 0 0, .slice none 0 0, .int .i64 0] 33)).drew.heap.size by simp) (e ▸ inSl_from hf hbb))); clear hb hr hf)
        | (go_at_call 15; (with_reducible show Calls _ _ _ ((w3.alloc (.cells #[.slice none 0 0, .slice none 0 0, .slice none 0 0, .slice none 0 0, .int .i64 0] 33))) _); refine (clone_word AW wl wk W ((w3.alloc (.cells #[.slice none 0 0, .slice none 0 0, .slice none 0 0, .slice none 0 0, .int .i64 0] 33))) (HW.out.below (HB3.out.alloc HB3.out.size (.cells #[.slice none 0 0, .slice none 0 0, .slice none 0 0, .slice none 0 0, .int .i64 0] 33))) s4 A14.out).mono ?_; rintro e w4 ⟨Aw, cw, rfl, hlw, hmw, hr, hf, hb⟩; have HB4 := Lib.hid (below_step hb (HB3.out.alloc HB3.out.size (.cells #[.slice none 0 0, .slice none 0 0, .slice none 0 0, .slice none 0 0, .int .i64 0] 33))); have HRw := Lib.hid hr; have HFw := Lib.hid (fun b (hbb : inSl Aw wl b) => Nat.le_trans (HB3.out.alloc HB3.out.size (.cells #[.slice none 0 0, .slice none 0 0, .slice none 0 0, .slice none 0 0, .int .i64 0] 33)).size (inSl_from hf hbb)); have m41 : w4.cell? ⟨w.heap.size, 1, none⟩ = some (.slice AG gl gc) := (HB4.out.cell (p := ⟨w.heap.size, 1, none⟩) hsb).trans HK1.out; have m43 : w4.cell? ⟨w.heap.size, 3, none⟩ = some (.slice AW wl wk) := (HB4.out.cell (p := ⟨w.heap.size, 3, none⟩) hsb).trans HK3.out; have m44 : w4.cell? ⟨w.heap.size, 4, none⟩ = some (.int .i64 lim) := (HB4.out.cell (p := ⟨w.heap.size, 4, none⟩) hsb).trans HK4.out; have HR4w := HRw; have HR4g := Lib.hid (HRg.out.below (((Below.refl w3.heap.size w3).alloc (Nat.le_refl _) _).trans (hb.mono (by simp)))); have HPw := Lib.hid (fun b (hbb : inSl Aw wl b) (e : b = w3.heap.size) => Nat.lt_irrefl _ (Nat.lt_of_lt_of_le (show w3.heap.size < (w3.alloc (.cells #[.slice none 0 0, .slice none 0 0, .slice none 0 0, .slice none 0 0, .int .i64 0] 33)).heap.size by simp) (e ▸ inSl_from hf hbb))); have HPg := Lib.hid (fun b (hbb : inSl Ag gl b) (e : b = w3.heap.size) => Nat.lt_irrefl _ (e ▸ HRg.out.lt hbb)); have n40 : w4.cell? ⟨w3.heap.size, 0, none⟩ = some (.slice none 0 0) := (hb.cell (p := ⟨w3.heap.size, 0, none⟩) (by simp)).trans (cell_new w3 _ _ 0); have q40 : w4.frozen? ⟨w3.heap.size, 0, none⟩ = false := (hb.frozen (p := ⟨w3.heap.size, 0, none⟩) (by simp)).trans (frozen_new w3 _ _ 0); have HNx0 := Lib.hid n40; have HQx0 := Lib.hid q40; have n41 : w4.cell? ⟨w3.heap.size, 1, none⟩ = some (.slice none 0 0) := (hb.cell (p := ⟨w3.heap.size, 1, none⟩) (by simp)).trans (cell_new w3 _ _ 1); have q41 : w4.frozen? ⟨w3.heap.size, 1, none⟩ = false := (hb.frozen (p := ⟨w3.heap.size, 1, none⟩) (by simp)).trans (frozen_new w3 _ _ 1); have HNx1 := Lib.hid n41; have HQx1 := Lib.hid q41; have n42 : w4.cell? ⟨w3.heap.size, 2, none⟩ = some (.slice none 0 0) := (hb.cell (p := ⟨w3.heap.size, 2, none⟩) (by simp)).trans (cell_new w3 _ _ 2); have q42 : w4.frozen? ⟨w3.heap.size, 2, none⟩ = false := (hb.frozen (p := ⟨w3.heap.size, 2, none⟩) (by simp)).trans (frozen_new w3 _ _ 2); have HNx2 := Lib.hid n42; have HQx2 := Lib.hid q42; have n43 : w4.cell? ⟨w3.heap.size, 3, none⟩ = some (.slice none 0 0) := (hb.cell (p := ⟨w3.heap.size, 3, none⟩) (by simp)).trans (cell_new w3 _ _ 3); have q43 : w4.frozen? ⟨w3.heap.size, 3, none⟩ = false := (hb.frozen (p := ⟨w3.heap.size, 3, none⟩) (by simp)).trans (frozen_new w3 _ _ 3); have HNx3 := Lib.hid n43; have HQx3 := Lib.hid q43; have n44 : w4.cell? ⟨w3.heap.size, 4, none⟩ = some (.int .i64 0) := (hb.cell (p := ⟨w3.heap.size, 4, none⟩) (by simp)).trans (cell_new w3 _ _ 4); have q44 : w4.frozen? ⟨w3.heap.size, 4, none⟩ = false := (hb.frozen (p := ⟨w3.heap.size, 4, none⟩) (by simp)).trans (frozen_new w3 _ _ 4); have HNx4 := Lib.hid n44; have HQx4 := Lib.hid q44; have hnz := World.new_ne w3 _ m31; have HL4 := Lib.hid (show w3.heap.size < w4.heap.size from Nat.lt_of_lt_of_le (by simp) hb.size); have HQQ := Lib.hid (fun o => (hb.frozen (p := ⟨w3.heap.size, o, none⟩) (by simp)).trans (frozen_new w3 _ _ o)); clear hb hr hf)
        | (go_at_call 15; (with_reducible show Calls _ _ _ (w3) _); have HNN := HN0; refine (clone_word AW wl wk W (w3) (HW.out.below HB3.out) s4 A14.out).mono ?_; rintro e w4 ⟨Aw, cw, rfl, hlw, hmw, hr, hf, hb⟩; have HB4 := Lib.hid (below_step hb HB3.out); have HRw := Lib.hid hr; have HFw := Lib.hid (fun b (hbb : inSl Aw wl b) => Nat.le_trans HB3.out.size (inSl_from hf hbb)); have m41 : w4.cell? ⟨w.heap.size, 1, none⟩ = some (.slice AG gl gc) := (HB4.out.cell (p := ⟨w.heap.size, 1, none⟩) hsb).trans HK1.out; have m43 : w4.cell? ⟨w.heap.size, 3, none⟩ = some (.slice AW wl wk) := (HB4.out.cell (p := ⟨w.heap.size, 3, none⟩) hsb).trans HK3.out; have m44 : w4.cell? ⟨w.heap.size, 4, none⟩ = some (.int .i64 lim) := (HB4.out.cell (p := ⟨w.heap.size, 4, none⟩) hsb).trans HK4.out; have HR4w := HRw; have HR4g := Lib.hid (HRg.out.below (show Below w3.heap.size w3 w4 from hb)); have HPw := Lib.hid (fun b (hbb : inSl Aw wl b) (e : b = wb.heap.size) => Nat.lt_irrefl _ (Nat.lt_of_lt_of_le HL.out (e ▸ inSl_from hf hbb))); have n40 : w4.cell? ⟨wb.heap.size, 0, none⟩ = some (.slice none 0 0) := (hb.cell (p := ⟨wb.heap.size, 0, none⟩) HL.out).trans HN0.out; have q40 : w4.frozen? ⟨wb.heap.size, 0, none⟩ = false := (hb.frozen (p := ⟨wb.heap.size, 0, none⟩) HL.out).trans HQ0.out; have HNx0 := Lib.hid n40; have n41 : w4.cell? ⟨wb.heap.size, 1, none⟩ = some (.slice none 0 0) := (hb.cell (p := ⟨wb.heap.size, 1, none⟩) HL.out).trans HN1.out; have q41 : w4.frozen? ⟨wb.heap.size, 1, none⟩ = false := (hb.frozen (p := ⟨wb.heap.size, 1, none⟩) HL.out).trans HQ1.out; have HNx1 := Lib.hid n41; have n42 : w4.cell? ⟨wb.heap.size, 2, none⟩ = some (.slice none 0 0) := (hb.cell (p := ⟨wb.heap.size, 2, none⟩) HL.out).trans HN2.out; have q42 : w4.frozen? ⟨wb.heap.size, 2, none⟩ = false := (hb.frozen (p := ⟨wb.heap.size, 2, none⟩) HL.out).trans HQ2.out; have HNx2 := Lib.hid n42; have n43 : w4.cell? ⟨wb.heap.size, 3, none⟩ = some (.slice none 0 0) := (hb.cell (p := ⟨wb.heap.size, 3, none⟩) HL.out).trans HN3.out; have q43 : w4.frozen? ⟨wb.heap.size, 3, none⟩ = false := (hb.frozen (p := ⟨wb.heap.size, 3, none⟩) HL.out).trans HQ3.out; have HNx3 := Lib.hid n43; have n44 : w4.cell? ⟨wb.heap.size, 4, none⟩ = some (.int .i64 0) := (hb.cell (p := ⟨wb.heap.size, 4, none⟩) HL.out).trans HN4.out; have q44 : w4.frozen? ⟨wb.heap.size, 4, none⟩ = false := (hb.frozen (p := ⟨wb.heap.size, 4, none⟩) HL.out).trans HQ4.out; have HNx4 := Lib.hid n44; have HL4 := Lib.hid (Nat.lt_of_lt_of_le HL.out hb.size); have HQQ := Lib.hid (fun o => (hb.frozen (p := ⟨wb.heap.size, o, none⟩) HL.out).trans (HQA.out o)); clear hb hr hf)
        | (go_at_call 15; (with_reducible show Calls _ _ _ (w3) _); refine (clone_word AW wl wk W (w3) (HW.out.below HB3.out) s4 A14.out).mono ?_; rintro e w4 ⟨Aw, cw, rfl, hlw, hmw, hr, hf, hb⟩; have HB4 := Lib.hid (below_step hb HB3.out); have HRw := Lib.hid hr; have HFw := Lib.hid (fun b (hbb : inSl Aw wl b) => Nat.le_trans HB3.out.size (inSl_from hf hbb)); have m41 : w4.cell? ⟨w.heap.size, 1, none⟩ = some (.slice AG gl gc) := (HB4.out.cell (p := ⟨w.heap.size, 1, none⟩) hsb).trans HK1.out; have m43 : w4.cell? ⟨w.heap.size, 3, none⟩ = some (.slice AW wl wk) := (HB4.out.cell (p := ⟨w.heap.size, 3, none⟩) hsb).trans HK3.out; have m44 : w4.cell? ⟨w.heap.size, 4, none⟩ = some (.int .i64 lim) := (HB4.out.cell (p := ⟨w.heap.size, 4, none⟩) hsb).trans HK4.out; have HR4w := HRw; have HR4g := Lib.hid (HRg.out.below (show Below w3.heap.size w3 w4 from hb)); clear hb hr hf))
    all_goals (go_wp2_with fail)
    all_goals go_meet
    · rw [← HWB.out]
      exact newWd_last HB4.out HR4g.out HR4w.out HFg.out HFw.out hlg hmg hlw hmw
    · rw [← HWB.out]
      exact newWd_set HB4.out HR4g.out HR4w.out HFg.out HFw.out HPg.out HPw.out hlg hmg hlw hmw HB3.out.size HL4.out HNx0.out HNx1.out HNx2.out HNx3.out HNx4.out HQQ.out
    · rw [← HWB.out]
      exact newWd_set HB4.out HR4g.out HR4w.out HFg.out HFw.out HPg.out HPw.out hlg hmg hlw hmw (Nat.le_refl _) HL4.out HNx0.out HNx1.out HNx2.out HNx3.out HNx4.out HQQ.out
    -- END1
  case rest =>
    obtain ⟨i0, hi, hz0, hz1, hz2⟩ := info_parts infoFunc
    obtain ⟨p, Ag, Aw, cg, cw, rfl, hp0, hp1, c0, c1, c2, c3, c4, l1, l2, l3, l4, hRg, hRw, hng, hnw, hfr, hb⟩ := hcut
    obtain ⟨W2, hW2⟩ : ∃ W2 : World, W2 = (w.alloc (.cells #[.slice AF fl fc, .slice AG gl gc, .slice AR rl rc, .slice AW wl wk, .int .i64 lim] 33)).alloc (.cells #[.slice none 0 0, .slice none 0 0, .slice none 0 0, .slice none 0 0, .int .i64 0] 33) := ⟨_, rfl⟩
    rw [← hW2] at hp0 hng hnw hb
    have hz : W2.heap.size = w.heap.size + 1 + 1 := by rw [hW2]; simp
    have k0 : W2.cell? ⟨w.heap.size, 0, none⟩ = some (.slice AF fl fc) := by rw [hW2, World.cell?_alloc_lt _ _ _ (by simp)]; exact cell_new _ _ _ 0
    have k2 : W2.cell? ⟨w.heap.size, 2, none⟩ = some (.slice AR rl rc) := by rw [hW2, World.cell?_alloc_lt _ _ _ (by simp)]; exact cell_new _ _ _ 2
    have hbw : Below w.heap.size w W2 := by rw [hW2]; exact ((Below.refl w.heap.size w).alloc (Nat.le_refl _) _).alloc (by simp) _
    have HW2 := Lib.hid hW2
    have HBW := Lib.hid hbw
    have HB := Lib.hid hb
    have HC0 := Lib.hid c0
    have HC1 := Lib.hid c1
    have HC2 := Lib.hid c2
    have HC3 := Lib.hid c3
    have HC4 := Lib.hid c4
    have HFR := Lib.hid hfr
    have HRG := Lib.hid hRg
    have HRW := Lib.hid hRw
    have HNG := Lib.hid hng
    have HNW := Lib.hid hnw
    have HZ := Lib.hid hz
    have hpw : w.heap.size + 1 < p := by omega
    have hzc : w.heap.size + 1 < wc.heap.size := by omega
    have HK0 := Lib.hid k0
    have HK2 := Lib.hid k2
    have HI := Lib.hid hi
    have HI0 := Lib.hid hz0
    have HI1 := Lib.hid hz1
    have HI2 := Lib.hid hz2
    have HB0 := Lib.hid (show Below w.heap.size w wc from hbw.trans (hb.mono (by omega)))
    have k0c : wc.cell? ⟨w.heap.size, 0, none⟩ = some (.slice AF fl fc) := (hb.cell (p := ⟨w.heap.size, 0, none⟩) (by show w.heap.size < _; omega)).trans k0
    have hpc : p < wc.heap.size := hp1
    have HST := Lib.hid (Grow.start (K := kitFn) (T := 61) (S := FnV.same) (L := F) c0 hfr)
    clear hi hz0 hz1 hz2 hW2 hbw hb c0 c1 c2 c3 c4 hfr hRg hRw hng hnw hz k0 k2 A3 A6 A10 A13
    go_wp2_with fail
    go_loopg [28] fl (fun g i wr => ∃ (k : Nat) (v : Value) (Y : List FnV), g = fl - k ∧ k ≤ fl ∧ i = .int .i64 k ∧ Grow kitFn 61 FnV.same F wc p 0 k wr v Y)
    case atStart => exact ⟨0, _, [], by omega, by omega, rfl, HST.out⟩
    case round =>
      obtain ⟨k, v, Y, hg, hk, rfl, hG⟩ := hrel
      have HG := Lib.hid hg
      have HGr := Lib.hid hG
      have hBr := below_grown HB0.out (Nat.le_refl _) hG.grow (show w.heap.size ≤ p by omega)
      clear hg
      by_cases hlt : k < fl
      · obtain ⟨b, o, rfl, hbw, hrow⟩ := B3.out.at_ (by omega)
        have hkf : k < F.length := by rw [B3.out.size]; exact hlt
        have hrx := hrow k hkf
        have HP := Lib.hid (B3.out.each F[k] (List.getElem_mem hkf))
        have HSM := Lib.hid (S5.out F[k] (List.getElem_mem hkf))
        have HFK := Lib.hid (show ∀ x : FnV, x.same F[k] → x.same F[k] from fun _ h => h)
        obtain ⟨f, hf⟩ : ∃ f, F[k] = f := ⟨_, rfl⟩
        have HFE := Lib.hid hf
        rw [hf] at hrx HP HSM
        clear hf HFK
        obtain ⟨pp, ll, cc, ⟨Ax, ln, cp, Cx⟩⟩ := f
        simp only at hrx
        have x0 := (hBr.cell (p := ⟨b, o + k * 4, none⟩) hbw).trans hrx.1
        have x1 := (hBr.cell (p := ⟨b, o + k * 4 + 1, none⟩) hbw).trans hrx.2.1
        have x2 := (hBr.cell (p := ⟨b, o + k * 4 + 2, none⟩) hbw).trans hrx.2.2.1
        have x3 := (hBr.cell (p := ⟨b, o + k * 4 + 3, none⟩) hbw).trans hrx.2.2.2
        have y1 : (k : Int) < (fc : Int) := by omega
        have y3 : (0 : Int) ≤ (k : Int) := Int.natCast_nonneg _
        have y4 : (k : Int) < (fl : Int) := by omega
        have hlw : w.heap.size ≤ wr.heap.size := hBr.size
        have HBR := Lib.hid hBr
        have hpr : p < wr.heap.size := Nat.lt_of_lt_of_le hpc hG.grow.size
        have HSZ := Lib.hid (show wc.heap.size ≤ wr.heap.size from hG.grow.size)
        have HCO := Lib.hid (HP.out.rows.below (hBr.alloc hBr.size (.cells #[.int .i64 pp, .int .i64 ll, .int .i64 cc, .slice Ax ln cp] 61)))
        clear hrow hrx hBr hG
        go_wp2_with fail
        refine (clone_instr Ax ln cp Cx _ HCO.out HSM.out HP.out.each).mono ?_
        rintro e w5 ⟨Ac, ck, rfl, hlc, hmc, hr, hf, hb5⟩
        have hz5 : wr.heap.size < w5.heap.size := Nat.lt_of_lt_of_le (by simp) hb5.size
        have n0 : w5.cell? ⟨wr.heap.size, 0, none⟩ = some (.int .i64 pp) := (hb5.cell (p := ⟨wr.heap.size, 0, none⟩) (by simp)).trans (cell_new _ _ _ 0)
        have n1 : w5.cell? ⟨wr.heap.size, 1, none⟩ = some (.int .i64 ll) := (hb5.cell (p := ⟨wr.heap.size, 1, none⟩) (by simp)).trans (cell_new _ _ _ 1)
        have n2 : w5.cell? ⟨wr.heap.size, 2, none⟩ = some (.int .i64 cc) := (hb5.cell (p := ⟨wr.heap.size, 2, none⟩) (by simp)).trans (cell_new _ _ _ 2)
        have n3 : w5.cell? ⟨wr.heap.size, 3, none⟩ = some (.slice Ax ln cp) := (hb5.cell (p := ⟨wr.heap.size, 3, none⟩) (by simp)).trans (cell_new _ _ _ 3)
        have q3 : w5.frozen? ⟨wr.heap.size, 3, none⟩ = false := (hb5.frozen (p := ⟨wr.heap.size, 3, none⟩) (by simp)).trans (frozen_new _ _ _ 3)
        have hb5' : Below wr.heap.size wr w5 := ((Below.refl wr.heap.size wr).alloc (Nat.le_refl _) _).trans (hb5.mono (by simp))
        have p0 : w5.cell? ⟨p, 0, none⟩ = some v := (hb5'.cell (p := ⟨p, 0, none⟩) hpr).trans HGr.out.cell
        have hpne : p ≠ wr.heap.size := by omega
        have hpne2 : wr.heap.size ≠ p := by omega
        have HQ := Lib.hid (show Below wr.heap.size wr (w5.setCell ⟨wr.heap.size, 3, none⟩ (.slice Ac ln ck)) from hb5'.setCell (Nat.le_refl _) _)
        have hfb : ∀ b, inSl Ac ln b → wr.heap.size < b := fun b hbb => Nat.lt_of_lt_of_le (by simp) (inSl_from hf hbb)
        have HXQ := Lib.hid (show kitFn.ok (w5.setCell ⟨wr.heap.size, 3, none⟩ (.slice Ac ln ck)) ⟨pp, ll, cc, ⟨Ac, ln, ck, Cx⟩⟩ from ⟨hlc, hmc, hr.grown (grown_set _ _ _ _) (fun b hbb e => by have := hfb b hbb; have := Option.some.inj e; omega), HP.out.each⟩)
        have HOQ := Lib.hid (HGr.out.own.new HQ.out)
        have HFR2 := Lib.hid (show ∀ b, kitFn.uses ⟨pp, ll, cc, ⟨Ac, ln, ck, Cx⟩⟩ b → wc.heap.size ≤ b from fun b hbb => Nat.le_trans HSZ.out (Nat.le_of_lt (hfb b hbb)))
        have HAP := Lib.hid (show ∀ b, kitFn.uses ⟨pp, ll, cc, ⟨Ac, ln, ck, Cx⟩⟩ b → v.ownBlock ≠ some b from fun b hbb => HGr.out.own.free (Nat.le_of_lt (hfb b hbb)))
        have HYL := Lib.hid (show (Y.length + 1) * 48 ≤ 140737488355328 ∧ Y.length + 1 ≤ maxLen by have := HGr.out.len; unfold maxLen; omega)
        have HBB := Lib.hid (show wc.heap.size ≤ (w5.setCell ⟨wr.heap.size, 3, none⟩ (.slice Ac ln ck)).heap.size from Nat.le_trans HSZ.out HQ.out.size)
        clear hr hf hb5 hb5' hfb
        go_wp2_with (at_builtin; refine wpList_own rfl (.tmp 37) (.tmp 39) rfl Try.underlying26 HI.out HI0.out HI1.out HI2.out rfl (by decide) HOQ.out ⟨pp, ll, cc, ⟨Ac, ln, ck, Cx⟩⟩ _ rfl HXQ.out HFR2.out HAP.out rfl (Eq.trans (b := Value.slice (some ⟨w5.heap.size, 0, none⟩) 1 1) rfl (by simp)) HYL.out HBB.out ?_; intro v7 w7 h7 hg7 _; obtain ⟨A7, c7, rfl, _, _, _, _⟩ := h7.form; have HG7 := Lib.hid hg7; have p7 := (HGr.out.cell7 hpc HQ.out HG7.out 0).trans HGr.out.cell; have q7 := HGr.out.frz7 hpc HQ.out HG7.out 0; have HSTEP := Lib.hid (HGr.out.step (x := ⟨pp, ll, cc, ⟨Ac, ln, ck, Cx⟩⟩) hpc HQ.out h7 HG7.out hkf (by rw [HFE.out]; exact ⟨rfl, rfl, rfl, rfl⟩)); clear h7 hg7)
        go_roundg (fl - (k + 1))
        case measure => have := HG.out; omega
        case rel => exact ⟨k + 1, _, Y ++ [⟨pp, ll, cc, ⟨Ac, ln, ck, Cx⟩⟩], rfl, by omega, by go_num, by have h := HSTEP.out; rw [List.length_append] at h; exact h⟩
      · obtain rfl : fl = k := by omega
        obtain ⟨wf, hwf⟩ : ∃ wf, wr = wf := ⟨_, rfl⟩
        subst hwf
        have k2f : wr.cell? ⟨w.heap.size, 2, none⟩ = some (.slice AR rl rc) := ((below_grown HB.out (Nat.le_refl _) hG.grow hp0).cell (p := ⟨w.heap.size, 2, none⟩) (by show w.heap.size < _; have := HZ.out; omega)).trans HK2.out
        have hpf : p < wr.heap.size := Nat.lt_of_lt_of_le hpc hG.grow.size
        have HBF := Lib.hid hBr
        have HSTR := Lib.hid (Grow.start (K := kitRc) (T := 67) (S := RcV.same) (L := R) (hG.oth 2 _ (by decide) HC2.out) hG.frz)
        have HZF := Lib.hid (show w.heap.size ≤ wr.heap.size from hBr.size)
        obtain ⟨j0, hj, hj0, hj1, hj2⟩ := info_parts infoRec
        have HJ := Lib.hid hj
        have HJ0 := Lib.hid hj0
        have HJ1 := Lib.hid hj1
        have HJ2 := Lib.hid hj2
        obtain ⟨s0, hs, hs0, hs1, hs2⟩ := info_parts infoShape
        have HS := Lib.hid hs
        have HS0 := Lib.hid hs0
        have HS1 := Lib.hid hs1
        have HS2 := Lib.hid hs2
        obtain ⟨t0, ht, ht0, ht1, ht2⟩ := info_parts infoSlInt
        have HT := Lib.hid ht
        have HT0 := Lib.hid ht0
        have HT1 := Lib.hid ht1
        have HT2 := Lib.hid ht2
        clear hj hj0 hj1 hj2 hs hs0 hs1 hs2 ht ht0 ht1 ht2 hG hBr k0c
        go_wp2_with fail
        obtain ⟨wf, hwf⟩ : ∃ wf, wr = wf := ⟨_, rfl⟩
        rw [hwf] at HGr k2f hpf HBF HSTR HZF ⊢
        clear hwf
        go_loopg [46] rl (fun g i wr => ∃ (k : Nat) (v : Value) (Z : List RcV), g = rl - k ∧ k ≤ rl ∧ i = .int .i64 k ∧ Grow kitRc 67 RcV.same R wf p 2 k wr v Z)
        case atStart => exact ⟨0, _, [], by omega, by omega, rfl, HSTR.out⟩
        case round =>
          obtain ⟨k, vr, Z, hg, hk, rfl, hG⟩ := hrel
          have HG2 := Lib.hid hg
          have HGR := Lib.hid hG
          have hBr := below_grown HBF.out (Nat.le_refl _) hG.grow (show w.heap.size ≤ p by omega)
          clear hg
          by_cases hlt : k < rl
          · obtain ⟨b, o, rfl, hbw, hrow⟩ := B10.out.at_ (by omega)
            have hkf : k < R.length := by rw [B10.out.size]; exact hlt
            have hrx := hrow k hkf
            have HP := Lib.hid (B10.out.each R[k] (List.getElem_mem hkf))
            have HSM := Lib.hid (S6.out R[k] (List.getElem_mem hkf))
            obtain ⟨f, hf⟩ : ∃ f, R[k] = f := ⟨_, rfl⟩
            have HRE := Lib.hid hf
            rw [hf] at hrx HP HSM
            clear hf
            obtain ⟨nm, A1, n1, c1, X, A3, n3, c3, M⟩ := f
            simp only at hrx
            have x0 := (hBr.cell (p := ⟨b, o + k * 3, none⟩) hbw).trans hrx.1
            have x1 := (hBr.cell (p := ⟨b, o + k * 3 + 1, none⟩) hbw).trans hrx.2.1
            have x2 := (hBr.cell (p := ⟨b, o + k * 3 + 2, none⟩) hbw).trans hrx.2.2
            have y1 : (k : Int) < (rc : Int) := by omega
            have y3 : (0 : Int) ≤ (k : Int) := Int.natCast_nonneg _
            have y4 : (k : Int) < (rl : Int) := by omega
            have hlw : w.heap.size ≤ wr.heap.size := hBr.size
            have HBR := Lib.hid hBr
            have hpr : p < wr.heap.size := Nat.lt_of_lt_of_le hpf hG.grow.size
            have HSZ := Lib.hid (show wf.heap.size ≤ wr.heap.size from hG.grow.size)
            have hn1 : n1 ≤ 9223372036854775807 := by have := HSM.out.1; simp only at this; omega
            have hn3 : n3 ≤ 9223372036854775807 := by have := HSM.out.2.1; simp only at this; omega
            clear hrow hrx hBr hG
            go_wp2_with fail
            obtain ⟨wi, hwi⟩ : ∃ wi, ((wr.alloc (.cells #[.string nm, .slice A1 n1 c1, .slice A3 n3 c3] 67)).alloc (.cells #[.string nm, .slice none 0 0, .slice none 0 0] 67)) = wi := ⟨_, rfl⟩
            have HZI := Lib.hid (show wi.heap.size = wr.heap.size + 1 + 1 by rw [← hwi]; simp)
            have HBI := Lib.hid (show Below wr.heap.size wr wi by rw [← hwi]; exact ((Below.refl _ _).alloc (Nat.le_refl _) _).alloc (by simp) _)
            have HI2c := Lib.hid (show wi.cell? ⟨wr.heap.size, 2, none⟩ = some (.slice A3 n3 c3) by rw [← hwi, World.cell?_alloc_lt _ _ _ (by simp)]; exact cell_new _ _ _ 2)
            have HX0 := Lib.hid (show wi.cell? ⟨wr.heap.size + 1, 0, none⟩ = some (.string nm) by rw [← hwi, show wr.heap.size + 1 = (wr.alloc (.cells #[.string nm, .slice A1 n1 c1, .slice A3 n3 c3] 67)).heap.size by simp]; exact cell_new _ _ _ 0)
            have HX1 := Lib.hid (show wi.cell? ⟨wr.heap.size + 1, 1, none⟩ = some (.slice none 0 0) by rw [← hwi, show wr.heap.size + 1 = (wr.alloc (.cells #[.string nm, .slice A1 n1 c1, .slice A3 n3 c3] 67)).heap.size by simp]; exact cell_new _ _ _ 1)
            have HX2 := Lib.hid (show wi.cell? ⟨wr.heap.size + 1, 2, none⟩ = some (.slice none 0 0) by rw [← hwi, show wr.heap.size + 1 = (wr.alloc (.cells #[.string nm, .slice A1 n1 c1, .slice A3 n3 c3] 67)).heap.size by simp]; exact cell_new _ _ _ 2)
            have HXF := Lib.hid (show ∀ o, wi.frozen? ⟨wr.heap.size + 1, o, none⟩ = false by intro o; rw [← hwi, show wr.heap.size + 1 = (wr.alloc (.cells #[.string nm, .slice A1 n1 c1, .slice A3 n3 c3] 67)).heap.size by simp]; exact frozen_new _ _ _ o)
            rw [hwi]
            obtain ⟨q, hq⟩ : ∃ q, wr.heap.size + 1 = q := ⟨_, rfl⟩
            rw [hq] at HX0 HX1 HX2 HXF ⊢
            have HQ := Lib.hid hq
            have hqi : q < wi.heap.size := by have := HZI.out; omega
            have hqr : wr.heap.size < q := by omega
            have HST3 := Lib.hid (Grow.start (K := kitShp) (T := 69) (S := sameShp) (L := X) HX1.out HXF.out)
            have HBRI := Lib.hid (HBR.out.trans (HBI.out.mono hlw))
            clear hwi hq x0 x1 x2
            obtain ⟨wo, rfl⟩ : ∃ wo : World, wo = wr := ⟨_, rfl⟩
            go_loopg [56] n1 (fun g i wy => ∃ (j : Nat) (v : Value) (Y : List Shp), g = n1 - j ∧ j ≤ n1 ∧ i = .int .i64 j ∧ Grow kitShp 69 sameShp X wi q 1 j wy v Y)
            case atStart => exact ⟨0, _, [], by omega, by omega, rfl, HST3.out⟩
            case round =>
              obtain ⟨j, v, Y, hg, hj, rfl, hG⟩ := hrel
              have HG3 := Lib.hid hg
              have HGY := Lib.hid hG
              clear hg
              by_cases hlt3 : j < n1
              · have hvers := HP.out.vers
                simp only at hvers
                obtain ⟨b1, o1, rfl, hbw1, hrow1⟩ := hvers.at_ (by omega)
                have hjx : j < X.length := by rw [hvers.size]; exact hlt3
                have hBy := below_grown HBRI.out (Nat.le_refl _) hG.grow (show w.heap.size ≤ q by omega)
                have hsm := HSM.out.2.2.1 X[j] (List.getElem_mem hjx)
                have HXK := Lib.hid (ShapeAt.below (hvers.each X[j] (List.getElem_mem hjx)) hBy)
                have r0 := (hBy.cell (p := ⟨b1, o1 + j * 2, none⟩) hbw1).trans (hrow1 j hjx).1
                have r1 := (hBy.cell (p := ⟨b1, o1 + j * 2 + 1, none⟩) hbw1).trans (hrow1 j hjx).2
                obtain ⟨s, hs⟩ : ∃ s, X[j] = s := ⟨_, rfl⟩
                have HSE := Lib.hid hs
                rw [hs] at r0 r1 HXK hsm
                clear hs
                obtain ⟨nn, As, ls, cs1, ss⟩ := s
                simp only at r0 r1 hsm
                have hle1 : n1 ≤ c1 := HP.out.le1
                have z1 : (j : Int) < (c1 : Int) := by omega
                have z3 : (0 : Int) ≤ (j : Int) := Int.natCast_nonneg _
                have z4 : (j : Int) < (n1 : Int) := by omega
                have hqy : q < wr.heap.size := Nat.lt_of_lt_of_le hqi hG.grow.size
                have HSZ3 := Lib.hid (show wi.heap.size ≤ wr.heap.size from hG.grow.size)
                have pv := hG.cell
                have fv := hG.frz 1
                have HYL := Lib.hid (show (Y.length + 1) * 40 ≤ 140737488355328 ∧ Y.length + 1 ≤ maxLen by have h1 := hG.len; have h2 : n1 * 40 ≤ 140737488351232 := HSM.out.1; unfold maxLen; omega)
                clear hrow1 hBy hG hvers hle1
                go_wp2_with fail
                obtain ⟨wz, hwz⟩ : ∃ wz : World, wz = wr.alloc (.cells #[.string nn, .slice As ls cs1] 69) := ⟨_, rfl⟩
                have k0 : wz.cell? ⟨wr.heap.size, 0, none⟩ = some (.string nn) := by rw [hwz]; simp
                have k1 : wz.cell? ⟨wr.heap.size, 1, none⟩ = some (.slice As ls cs1) := by rw [hwz]; simp
                have hsz : wr.heap.size < wz.heap.size := by rw [hwz]; simp
                have hbz : Below wr.heap.size wr wz := by rw [hwz]; exact (Below.refl _ _).alloc (Nat.le_refl _) _
                have pz : wz.cell? ⟨q, 1, none⟩ = some v := (hbz.cell (p := ⟨q, 1, none⟩) hqy).trans pv
                have HBZ := Lib.hid hbz
                have HXZ := Lib.hid (ShapeAt.below HXK.out hbz)
                rw [← hwz]
                have hqne : q ≠ wr.heap.size := by omega
                have hqne2 : wr.heap.size ≠ q := by omega
                have HK0' := Lib.hid k0
                have HK1' := Lib.hid k1
                have hnx := World.new_ne wz _ k0
                clear hwz hbz r0 r1 pv fv
                -- DEV3
                go_region_law (first
                    | (refine step_own (by rfl) (.tmp 61) (.tmp 68) (by rfl) Try.underlying43 HS.out HS0.out HS1.out HS2.out rfl (by decide) HO5.out ⟨nn, Ac, ls, ck, ss⟩ _ rfl HX5.out HF5.out HA5.out (by rfl) (by rfl) HYL.out HBB5.out ?_; intro v7 w7 h7 hg7; obtain ⟨A7, c7, rfl, _, _, _, _⟩ := h7.form; have p7 := (HGY.out.cell7 hqi HB5.out hg7 1).trans HGY.out.cell; have q7 := HGY.out.frz7 hqi HB5.out hg7 1; have m70 : w7.cell? ⟨wr.heap.size, 0, none⟩ = some (.string nn) := hg7.cell n0 (fun e => HGY.out.own.free (Nat.le_refl _) e.symm); have m71 : w7.cell? ⟨wr.heap.size, 1, none⟩ = some (.slice As ls cs1) := hg7.cell n1' (fun e => HGY.out.own.free (Nat.le_refl _) e.symm); have HSTEP := Lib.hid (HGY.out.step (x := ⟨nn, Ac, ls, ck, ss⟩) hqi HB5.out h7 hg7 hjx (by rw [HSE.out]; exact rfl)); clear h7 hg7)
                    | (go_simp; go_at_call 17; refine (clone_strs As ls cs1 ss _ (HXZ.out.strs.below (Below.refl _ _).drew) hsm).mono ?_; rintro e w5 ⟨Ac, ck, rfl, hlc, hmc, hst, hf, hb5⟩; have hb5' : Below wz.heap.size wz w5 := (Below.refl wz.heap.size wz).drew.trans hb5; have n0 : w5.cell? ⟨wr.heap.size, 0, none⟩ = some (.string nn) := (hb5'.cell (p := ⟨wr.heap.size, 0, none⟩) hsz).trans HK0'.out; have n1' : w5.cell? ⟨wr.heap.size, 1, none⟩ = some (.slice As ls cs1) := (hb5'.cell (p := ⟨wr.heap.size, 1, none⟩) hsz).trans HK1'.out; have HB5 := Lib.hid (HBZ.out.trans (hb5'.mono HBZ.out.size)); have p5 : w5.cell? ⟨q, 1, none⟩ = some v := (HB5.out.cell (p := ⟨q, 1, none⟩) hqy).trans HGY.out.cell; have HO5 := Lib.hid (HGY.out.own.new HB5.out); have HX5 := Lib.hid (show kitShp.ok w5 ⟨nn, Ac, ls, ck, ss⟩ from ⟨rfl, HXZ.out.wide, hst, HXZ.out.each, hlc, hmc⟩); have hfb : ∀ b, inSl Ac ls b → wr.heap.size ≤ b := fun b hbb => Nat.le_trans (Nat.le_of_lt hsz) (inSl_from hf hbb); have HF5 := Lib.hid (show ∀ b, kitShp.uses ⟨nn, Ac, ls, ck, ss⟩ b → wi.heap.size ≤ b from fun b hbb => Nat.le_trans HSZ3.out (hfb b hbb)); have HA5 := Lib.hid (show ∀ b, kitShp.uses ⟨nn, Ac, ls, ck, ss⟩ b → v.ownBlock ≠ some b from fun b hbb => HGY.out.own.free (hfb b hbb)); have HBB5 := Lib.hid (show wi.heap.size ≤ w5.heap.size from Nat.le_trans HSZ3.out HB5.out.size); have hq5 : q < w5.heap.size := Nat.lt_of_lt_of_le hqy HB5.out.size; have hq5a := Nat.ne_of_lt hq5; have hq5b := Nat.ne_of_gt hq5; have p5a : ∀ o, (w5.alloc o).cell? ⟨q, 1, none⟩ = some v := fun o => (World.cell?_alloc_lt _ _ _ hq5).trans p5; clear hb5 hb5' hst hf hfb))
                all_goals
                  go_wp2_with fail
                  go_roundg (n1 - (j + 1))
                  case measure => have := HG3.out; omega
                  case rel => exact ⟨j + 1, _, Y ++ [⟨nn, Ac, ls, ck, ss⟩], rfl, by omega, by go_num, by have h := HSTEP.out; rw [List.length_append] at h; exact h⟩
                -- END3
              · obtain rfl : n1 = j := by omega
                obtain ⟨wj, rfl⟩ : ∃ wj : World, wj = wr := ⟨_, rfl⟩
                have k2j : wj.cell? ⟨wo.heap.size, 2, none⟩ = some (.slice A3 n3 c3) := hG.grow.cell HI2c.out (fun e => by have := Option.some.inj e; simp only at this; omega)
                have hqj : q < wj.heap.size := Nat.lt_of_lt_of_le hqi hG.grow.size
                have HST4 := Lib.hid (Grow.start (K := kitSl) (T := 24) (S := sameSl) (L := M) (hG.oth 2 _ (by decide) HX2.out) hG.frz)
                have HBJ := Lib.hid (below_grown HBI.out (Nat.le_refl _) hG.grow (show wo.heap.size ≤ q by omega))
                have HZJ := Lib.hid (show wi.heap.size ≤ wj.heap.size from hG.grow.size)
                clear hG
                go_wp2_with fail
                go_loopg [75] n3 (fun g i wy => ∃ (j : Nat) (v : Value) (N : List Sl), g = n3 - j ∧ j ≤ n3 ∧ i = .int .i64 j ∧ Grow kitSl 24 sameSl M wj q 2 j wy v N)
                case atStart => exact ⟨0, _, [], by omega, by omega, rfl, HST4.out⟩
                case round =>
                  obtain ⟨j, vm, N, hg, hj, rfl, hG⟩ := hrel
                  have HG4 := Lib.hid hg
                  have HGM := Lib.hid hG
                  clear hg
                  have hBo := below_grown HBJ.out (Nat.le_refl _) hG.grow (show wo.heap.size ≤ q by omega)
                  by_cases hlt4 : j < n3
                  · -- DEV4
                    have hmoves := HP.out.moves
                    simp only at hmoves
                    obtain ⟨b3, o3, rfl, hbw3, hrow3⟩ := hmoves.at_ (by omega)
                    have hjx : j < M.length := by rw [hmoves.size]; exact hlt4
                    have hBy : Below w.heap.size w wr := HBR.out.trans (hBo.mono hlw)
                    have hsm := HSM.out.2.2.2 M[j] (List.getElem_mem hjx)
                    have HMK := Lib.hid ((hmoves.each M[j] (List.getElem_mem hjx)).below hBy)
                    have r0 := (hBy.cell (p := ⟨b3, o3 + j, none⟩) hbw3).trans (hrow3 j hjx)
                    obtain ⟨s, hs⟩ : ∃ s, M[j] = s := ⟨_, rfl⟩
                    have HSE := Lib.hid hs
                    rw [hs] at r0 HMK hsm
                    clear hs
                    obtain ⟨Am, lm, cm, Cm⟩ := s
                    simp only at r0 hsm
                    have hle3 : n3 ≤ c3 := HP.out.le3
                    have z1 : (j : Int) < (c3 : Int) := by omega
                    have z3 : (0 : Int) ≤ (j : Int) := Int.natCast_nonneg _
                    have z4 : (j : Int) < (n3 : Int) := by omega
                    have hqy : q < wr.heap.size := Nat.lt_of_lt_of_le hqj hG.grow.size
                    have HSZ4 := Lib.hid (show wj.heap.size ≤ wr.heap.size from hG.grow.size)
                    have pv := hG.cell
                    have HYL := Lib.hid (show (N.length + 1) * 24 ≤ 140737488355328 ∧ N.length + 1 ≤ maxLen by have h1 := hG.len; have h2 : n3 * 24 ≤ 140737488351232 := HSM.out.2.1; unfold maxLen; omega)
                    clear hrow3 hBy hG hmoves hle3 hBo
                    go_wp2_with fail
                    go_region_law (first
                        | (refine step_own (by rfl) (.tmp 80) (.tmp 83) (by rfl) Try.underlying65 HT.out HT0.out HT1.out HT2.out rfl (by decide) HO5.out ⟨Ac, lm, ck, Cm⟩ _ rfl HX5.out HF5.out HA5.out (by rfl) (by rfl) HYL.out HBB5.out ?_; intro v7 w7 h7 hg7; obtain ⟨A7, c7, rfl, _, _, _, _⟩ := h7.form; have p7 := (HGM.out.cell7 hqj HB5.out hg7 2).trans HGM.out.cell; have q7 := HGM.out.frz7 hqj HB5.out hg7 2; have HSTEP := Lib.hid (HGM.out.step (x := ⟨Ac, lm, ck, Cm⟩) hqj HB5.out h7 hg7 hjx (by rw [HSE.out]; exact rfl)); clear h7 hg7)
                        | (go_simp; go_at_call 18; refine (clone_int Am lm cm Cm _ (HMK.out.rows.below (Below.refl _ _).drew) hsm HMK.out.each).mono ?_; rintro e w5 ⟨Ac, ck, rfl, hlc, hmc, hst, hf, hb5⟩; have HB5 := Lib.hid (show Below wr.heap.size wr w5 from (Below.refl wr.heap.size wr).drew.trans hb5); have p5 : w5.cell? ⟨q, 2, none⟩ = some vm := (HB5.out.cell (p := ⟨q, 2, none⟩) hqy).trans HGM.out.cell; have HO5 := Lib.hid (HGM.out.own.new HB5.out); have HX5 := Lib.hid (show kitSl.ok w5 ⟨Ac, lm, ck, Cm⟩ from ⟨hlc, hmc, hst, HMK.out.each⟩); have hfb : ∀ b, inSl Ac lm b → wr.heap.size ≤ b := fun b hbb => inSl_from hf hbb; have HF5 := Lib.hid (show ∀ b, kitSl.uses ⟨Ac, lm, ck, Cm⟩ b → wj.heap.size ≤ b from fun b hbb => Nat.le_trans HSZ4.out (hfb b hbb)); have HA5 := Lib.hid (show ∀ b, kitSl.uses ⟨Ac, lm, ck, Cm⟩ b → vm.ownBlock ≠ some b from fun b hbb => HGM.out.own.free (hfb b hbb)); have HBB5 := Lib.hid (show wj.heap.size ≤ w5.heap.size from Nat.le_trans HSZ4.out HB5.out.size); have hq5 : q < w5.heap.size := Nat.lt_of_lt_of_le hqy HB5.out.size; have hq5a := Nat.ne_of_lt hq5; have hq5b := Nat.ne_of_gt hq5; have p5a : ∀ o, (w5.alloc o).cell? ⟨q, 2, none⟩ = some vm := fun o => (World.cell?_alloc_lt _ _ _ hq5).trans p5; clear hb5 hst hf hfb))
                    all_goals
                      go_wp2_with fail
                      go_roundg (n3 - (j + 1))
                      case measure => have := HG4.out; omega
                      case rel => exact ⟨j + 1, _, N ++ [⟨Ac, lm, ck, Cm⟩], rfl, by omega, by go_num, by have h := HSTEP.out; rw [List.length_append] at h; exact h⟩
                    -- END4
                  · obtain rfl : n3 = j := by omega
                    obtain ⟨A1', c1', rfl, le1', wd1', vers', fr1'⟩ := (HGY.out.own.other hG.grow hqi).shapes
                    obtain ⟨A3', c3', rfl, le3', wd3', mv3', fr3'⟩ := hG.own.sls
                    have q0 : wr.cell? ⟨q, 0, none⟩ = some (.string nm) := hG.oth 0 _ (by decide) (HGY.out.oth 0 _ (by decide) HX0.out)
                    have q1 := hG.oth 1 _ (by decide) HGY.out.cell
                    have q2 := hG.cell
                    have pr : wr.cell? ⟨p, 2, none⟩ = some vr := (hBo.cell (p := ⟨p, 2, none⟩) hpr).trans HGR.out.cell
                    have HBO := Lib.hid hBo
                    have HOR := Lib.hid (HGR.out.own.new hBo)
                    have HXR := Lib.hid (show kitRc.ok wr ⟨nm, A1', Y.length, c1', Y, A3', N.length, c3', N⟩ from ⟨le1', wd1', vers', le3', wd3', mv3'⟩)
                    have huse : ∀ b, kitRc.uses ⟨nm, A1', Y.length, c1', Y, A3', N.length, c3', N⟩ b → wo.heap.size ≤ b := by
                      have hzi := HZI.out
                      have hzj := HZJ.out
                      rintro b (hb | ⟨s, hs, hb⟩ | hb | ⟨s, hs, hb⟩)
                      · have := inSl_from fr1' hb; omega
                      · have := HGY.out.own.from_ s hs b hb; omega
                      · have := inSl_from fr3' hb; omega
                      · have := hG.own.from_ s hs b hb; omega
                    have HFR5 := Lib.hid (show ∀ b, kitRc.uses ⟨nm, A1', Y.length, c1', Y, A3', N.length, c3', N⟩ b → wf.heap.size ≤ b from fun b hb => Nat.le_trans HSZ.out (huse b hb))
                    have HAP5 := Lib.hid (show ∀ b, kitRc.uses ⟨nm, A1', Y.length, c1', Y, A3', N.length, c3', N⟩ b → vr.ownBlock ≠ some b from fun b hb => HGR.out.own.free (huse b hb))
                    have HZL := Lib.hid (show (Z.length + 1) * 64 ≤ 140737488355328 ∧ Z.length + 1 ≤ maxLen by have := HGR.out.len; unfold maxLen; omega)
                    have HBB6 := Lib.hid (show wf.heap.size ≤ wr.heap.size from Nat.le_trans HSZ.out hBo.size)
                    have HSAME := Lib.hid (show RcV.same ⟨nm, A1', Y.length, c1', Y, A3', N.length, c3', N⟩ R[k] by rw [HRE.out]; exact ⟨rfl, map_same _ (HGY.out.len.trans HP.out.vers.size.symm) HGY.out.same, map_same _ (hG.len.trans HP.out.moves.size.symm) hG.same⟩)
                    clear hG hBo huse vers' mv3' fr1' fr3'
                    go_wp2_with (at_builtin; refine wpList_own rfl (.tmp 88) (.tmp 90) rfl Try.underlying28 HJ.out HJ0.out HJ1.out HJ2.out rfl (by decide) HOR.out ⟨nm, A1', Y.length, c1', Y, A3', N.length, c3', N⟩ _ rfl HXR.out HFR5.out HAP5.out rfl rfl HZL.out HBB6.out ?_; intro v7 w7 h7 hg7 _; obtain ⟨A7, c7, rfl, _, _, _, _⟩ := h7.form; have p7 := (HGR.out.cell7 hpf HBO.out hg7 2).trans HGR.out.cell; have q7 := HGR.out.frz7 hpf HBO.out hg7 2; have HSTEP := Lib.hid (HGR.out.step hpf HBO.out h7 hg7 hkf HSAME.out); clear h7 hg7)
                    go_roundg (rl - (k + 1))
                    case measure => have := HG2.out; omega
                    case rel => exact ⟨k + 1, _, Z ++ [⟨nm, A1', Y.length, c1', Y, A3', N.length, c3', N⟩], rfl, by omega, by go_num, by have h := HSTEP.out; rw [List.length_append] at h; exact h⟩
          · obtain rfl : rl = k := by omega
            have hz := HZ.out
            have hBW := below_grown (below_grown HB.out (Nat.le_refl _) HGr.out.grow hp0) (Nat.le_refl _) hG.grow hp0
            have P0 := hG.oth 0 _ (by decide) HGr.out.cell
            have P1 := hG.oth 1 _ (by decide) (HGr.out.oth 1 _ (by decide) HC1.out)
            have P2 := hG.cell
            have P3 := hG.oth 3 _ (by decide) (HGr.out.oth 3 _ (by decide) HC3.out)
            have P4 := hG.oth 4 _ (by decide) (HGr.out.oth 4 _ (by decide) HC4.out)
            have hcr : ∀ j u, (#[.slice none 0 0, .slice none 0 0, .slice none 0 0, .slice none 0 0, .int .i64 0] : Array Value)[j]? = some u → wr.cell? ⟨w.heap.size + 1, j, none⟩ = some u := by
              intro j u hu
              refine (hBW.cell (p := ⟨w.heap.size + 1, j, none⟩) (by show w.heap.size + 1 < _; omega)).trans ?_
              rw [HW2.out, show w.heap.size + 1 = (w.alloc (.cells #[.slice AF fl fc, .slice AG gl gc, .slice AR rl rc, .slice AW wl wk, .int .i64 lim] 33)).heap.size by simp]
              exact (cell_new _ _ _ j).trans hu
            have hfr : ∀ j, wr.frozen? ⟨w.heap.size + 1, j, none⟩ = false := by
              intro j
              refine (hBW.frozen (p := ⟨w.heap.size + 1, j, none⟩) (by show w.heap.size + 1 < _; omega)).trans ?_
              rw [HW2.out, show w.heap.size + 1 = (w.alloc (.cells #[.slice AF fl fc, .slice AG gl gc, .slice AR rl rc, .slice AW wl wk, .int .i64 lim] 33)).heap.size by simp]
              exact frozen_new _ _ _ j
            have e0 := hcr 0 _ rfl
            have e1 := hcr 1 _ rfl
            have e2 := hcr 2 _ rfl
            have e3 := hcr 3 _ rfl
            have e4 := hcr 4 _ rfl
            have f0 := hfr 0
            have f1 := hfr 1
            have f2 := hfr 2
            have f3 := hfr 3
            have f4 := hfr 4
            have hne : p ≠ w.heap.size + 1 := by omega
            have hne2 : w.heap.size + 1 ≠ p := by omega
            have HGZ := Lib.hid hG
            have HBWW := Lib.hid (show Below w.heap.size w wr from hBr)
            have hgc : w.heap.size + 1 < wf.heap.size := by omega
            have HOF := Lib.hid (HGr.out.own.other hG.grow hpc)
            have HRG2 := Lib.hid ((HRG.out.grown HGr.out.grow (fun b hb e => (HNG.out b hb).2 (Option.some.inj e).symm)).grown hG.grow (fun b hb e => (HNG.out b hb).2 (Option.some.inj e).symm))
            have HRW2 := Lib.hid ((HRW.out.grown HGr.out.grow (fun b hb e => (HNW.out b hb).2 (Option.some.inj e).symm)).grown hG.grow (fun b hb e => (HNW.out b hb).2 (Option.some.inj e).symm))
            obtain ⟨AR', cR', hR1, _, _, _⟩ := hG.own.rcs
            obtain ⟨AF', cF', hF1, _, _, _⟩ := HOF.out.fns
            subst hR1 hF1
            clear hcr hfr hG hBr hBW
            go_wp2_with fail
            have hset := grown_set5 wr (w.heap.size + 1) (.slice AF' Y.length cF') (.slice Ag gl cg) (.slice AR' Z.length cR') (.slice Aw wl cw) (.int .i64 lim)
            obtain ⟨A1, d1, g1, g2, g3, g4⟩ := (HOF.out.other hset (show w.heap.size + 1 < wc.heap.size by omega)).fns
            obtain ⟨A2, d2, g5, g6, g7, g8⟩ := (HGZ.out.own.other hset hgc).rcs
            cases g1
            cases g5
            refine bodyPost_ret (v := .agg #[.slice AF' Y.length cF', .slice Ag gl cg, .slice AR' Z.length cR', .slice Aw wl cw, .int .i64 lim]) (by simp [results, Try.results7, go_sem, e0, e1, e2, e3, e4]) rfl ?_
            refine ⟨⟨AF', Y.length, cF', Y, Ag, gl, cg, G, AR', Z.length, cR', Z, Aw, wl, cw, W, lim⟩, rfl, ⟨g2, g3, g4, l1, l2, HRG2.out.grown hset (fun b hb e => ?_), A7.out, g6, g7, g8, l3, l4, HRW2.out.grown hset (fun b hb e => ?_), A14.out⟩, ⟨⟨HGr.out.len.trans B3.out.size.symm, HGr.out.same⟩, rfl, ⟨HGZ.out.len.trans B10.out.size.symm, HGZ.out.same⟩, rfl, rfl⟩, ?_⟩
            · have := (HNG.out b hb).1
              have := Option.some.inj e
              omega
            · have := (HNW.out b hb).1
              have := Option.some.inj e
              omega
            · exact below_grown HBWW.out (Nat.le_refl _) hset (by omega)
end Go.Proofs.Ytbkagjngckfonaa
