/- Proved: grafterylaw.UnitBehind returns true for every environment and unit (unit.Shapes answers what the reference answers), where the arguments are of bulk at most 1048576. Conditions: none beyond the given row's own. -/
import Derived.Test.YtbkagjngckfonaaBehind
import Derived.Test.YtbkagjngckfonaaBulk
namespace Go.Proofs.Ytbkagjngckfonaa
open Go.RowKit Go.ChangeShapes Go.WideShapes Go.Deep Go.ChangeAt
set_option linter.unusedVariables false

theorem readableEnv : Try.prog.readableRec 45 = true := by kernel_rfl
theorem rowEnv : 45 < Try.prog.types.size := of_decide_eq_true (by kernel_rfl)
theorem cellsEnv : Try.prog.cellsOf 45 = 2 := by kernel_rfl
theorem readableUnit : Try.prog.readableRec 49 = true := by kernel_rfl
theorem rowUnit : 49 < Try.prog.types.size := of_decide_eq_true (by kernel_rfl)
theorem cellsUnit : Try.prog.cellsOf 49 = 3 := by kernel_rfl
theorem cellsSlShape : Try.prog.cellsOf 43 = 1 := by kernel_rfl
theorem cellsSlDef : Try.prog.cellsOf 46 = 1 := by kernel_rfl
theorem cellsSlUp : Try.prog.cellsOf 47 = 1 := by kernel_rfl

section
variable {H : Type} {enc : TypeId × Value → H}

theorem elems_le (d : DataW H) : (elems d).length + 1 ≤ Rows.uptoBulk d ∨ (elems d) = [] := by
  cases d with
  | slice es sp => left; have := bulks.slice_le es sp; simp only [elems]; omega
  | _ => right; rfl
theorem elems_len (d : DataW H) : (elems d).length ≤ Rows.uptoBulk d := by
  rcases elems_le d with h | h
  · omega
  · rw [h]; simp
theorem elems_all (d : DataW H) : Rows.uptoBulkAll (elems d) ≤ Rows.uptoBulk d := by
  cases d with
  | slice es sp => have := bulks.slice_elems es sp; simp only [elems]; omega
  | _ => simp [elems, Rows.uptoBulkAll]

theorem Rd.shapeB {w : World} {cs : List Value} {d : DataW H} (h : Rd enc w 69 cs d) : ∃ name A len cap ss, ShapeAt w cs name A len cap ss ∧ len ≤ Rows.uptoBulk d := by
  obtain ⟨f, ps, h⟩ := h
  obtain ⟨xs, m, _, hx, hl, hlen, hf⟩ := DataW.trod_struct Try.underlying69 h
  rw [cellsShape] at hl
  match cs, hl, xs, hlen with
  | [c0, c1], _, [y0, y1], _ =>
    have h0 : Rd enc w 9 [c0] y0.1 := ⟨m, y0.2, by simpa [cellsString] using hf 0 _ rfl⟩
    have h1 : Rd enc w 42 [c1] y1.1 := ⟨m, y1.2, by simpa [cellsSlString] using hf 1 _ rfl⟩
    obtain ⟨s, e2, d2, s1⟩ := h0.string Try.underlying9
    obtain ⟨A, len, cap, e3, hs⟩ := h1.slAt Try.underlying42 cellsString (by decide)
    simp only [List.cons.injEq, and_true] at e2 e3
    subst e2 e3
    obtain ⟨ss, hss, hev⟩ := slAt_strs hs
    refine ⟨s, A, len, cap, ss, ⟨rfl, s1, hss, hev, hs.le, hs.wide⟩, ?_⟩
    simp only [Prod.mk.injEq] at hx
    have h3 := elems_len y1.1
    rw [hs.size] at h3
    have h2 : Rows.uptoBulk d = Rows.uptoBulk (DataW.agg [y0.1, y1.1]) := by rw [hx.1]; rfl
    rw [h2]
    simp only [Rows.uptoBulk, Rows.uptoBulkAll]
    omega

theorem slAt_shapesB {w : World} {A : Option Addr} {len cap : Nat} {it : DataW H} (h : SlAt enc w 69 2 A len cap it) : ∃ L : List Shp, ShapesAt w A len L ∧ ∀ x ∈ L, x.len ≤ Rows.uptoBulk it := by
  rcases Nat.eq_zero_or_pos len with h0 | h0
  · subst h0
    exact ⟨[], ⟨rfl, fun h => absurd h (by omega), by simp⟩, by simp⟩
  · obtain ⟨b, o, rfl, hb, hrow⟩ := h.at_ h0
    have hx : ∀ i : Fin len, ∃ x : Shp, ((w.cell? ⟨b, o + i.1 * 2, none⟩ = some (.string x.name) ∧ w.cell? ⟨b, o + i.1 * 2 + 1, none⟩ = some (.slice x.A x.len x.cap)) ∧ x.At w) ∧ x.len ≤ Rows.uptoBulk it := by
      intro i
      have hil : i.1 < (elems it).length := by rw [h.size]; exact i.2
      obtain ⟨cs', hl, hr, hrd⟩ := hrow i.1 hil
      obtain ⟨name, A', len', cap', ss, hS, hB⟩ := Rd.shapeB hrd
      obtain rfl := hS.cells
      refine ⟨⟨name, A', len', cap', ss⟩, ⟨⟨hr 0 (by simp), hr 1 (by simp)⟩, hS⟩, ?_⟩
      have h1 := bulks.part_le (List.getElem_mem hil)
      have h2 := elems_all it
      exact Nat.le_trans hB (Nat.le_trans h1 h2)
    obtain ⟨f, hf⟩ := Classical.axiomOfChoice hx
    refine ⟨List.ofFn f, ⟨by simp, fun _ => ⟨b, o, rfl, hb, fun i hi => ?_⟩, ?_⟩, ?_⟩
    · have hi' : i < len := by simpa using hi
      rw [List.getElem_ofFn]
      exact (hf ⟨i, hi'⟩).1.1
    · intro s hs
      obtain ⟨i, rfl⟩ := List.mem_ofFn.1 hs
      exact (hf i).1.2
    · intro s hs
      obtain ⟨i, rfl⟩ := List.mem_ofFn.1 hs
      exact (hf i).2

theorem Rd.env {w : World} {cs : List Value} {d : DataW H} (h : Rd enc w 45 cs d) : ∃ (G : Option Addr) (gl gc : Nat) (S : Option Addr) (sl sc : Nat) (L : List Shp), cs = [.slice G gl gc, .slice S sl sc] ∧ ShapesAt w S sl L ∧ sl ≤ sc ∧ sc ≤ maxLen ∧ sl ≤ Rows.uptoBulk d ∧ ∀ x ∈ L, x.len ≤ Rows.uptoBulk d := by
  obtain ⟨f, ps, h⟩ := h
  obtain ⟨xs, m, _, hx, hl, hlen, hf⟩ := DataW.trod_struct Try.underlying45 h
  rw [cellsEnv] at hl
  match cs, hl, xs, hlen with
  | [c0, c1], _, [y0, y1], _ =>
    have h0 : Rd enc w 42 [c0] y0.1 := ⟨m, y0.2, by simpa [cellsSlString] using hf 0 _ rfl⟩
    have h1 : Rd enc w 43 [c1] y1.1 := ⟨m, y1.2, by simpa [cellsSlShape] using hf 1 _ rfl⟩
    obtain ⟨G, gl, gc, e2, hg⟩ := h0.slAt Try.underlying42 cellsString (by decide)
    obtain ⟨S, sl, sc, e3, hs⟩ := h1.slAt Try.underlying43 cellsShape (by decide)
    simp only [List.cons.injEq, and_true] at e2 e3
    subst e2 e3
    obtain ⟨L, hL, hB⟩ := slAt_shapesB hs
    simp only [Prod.mk.injEq] at hx
    have h2 : Rows.uptoBulk d = Rows.uptoBulk (DataW.agg [y0.1, y1.1]) := by rw [hx.1]; rfl
    have h3 : Rows.uptoBulk y1.1 ≤ Rows.uptoBulk d := by rw [h2]; simp only [Rows.uptoBulk, Rows.uptoBulkAll]; omega
    have h4 := elems_len y1.1
    rw [hs.size] at h4
    exact ⟨G, gl, gc, S, sl, sc, L, rfl, hL, hs.le, hs.wide, by omega, fun x hx => Nat.le_trans (hB x hx) h3⟩

theorem Rd.unit {w : World} {cs : List Value} {d : DataW H} (h : Rd enc w 49 cs d) : ∃ (S : Option Addr) (sl sc : Nat) (D : Option Addr) (dl dc : Nat) (U : Option Addr) (ul uc : Nat) (L : List Shp), cs = [.slice S sl sc, .slice D dl dc, .slice U ul uc] ∧ ShapesAt w S sl L ∧ sl ≤ sc ∧ sc ≤ maxLen ∧ sl ≤ Rows.uptoBulk d ∧ ∀ x ∈ L, x.len ≤ Rows.uptoBulk d := by
  obtain ⟨f, ps, h⟩ := h
  obtain ⟨xs, m, _, hx, hl, hlen, hf⟩ := DataW.trod_struct Try.underlying49 h
  rw [cellsUnit] at hl
  match cs, hl, xs, hlen with
  | [c0, c1, c2], _, [y0, y1, y2], _ =>
    have h0 : Rd enc w 43 [c0] y0.1 := ⟨m, y0.2, by simpa [cellsSlShape] using hf 0 _ rfl⟩
    have h1 : Rd enc w 46 [c1] y1.1 := ⟨m, y1.2, by simpa [cellsSlShape, cellsSlDef] using hf 1 _ rfl⟩
    have h2 : Rd enc w 47 [c2] y2.1 := ⟨m, y2.2, by simpa [cellsSlShape, cellsSlDef, cellsSlUp] using hf 2 _ rfl⟩
    obtain ⟨S, sl, sc, e0, hs⟩ := h0.slAt Try.underlying43 cellsShape (by decide)
    obtain ⟨D, dl, dc, e1, _⟩ := h1.slAt (C := 10) Try.underlying46 (by kernel_rfl) (by decide)
    obtain ⟨U, ul, uc, e2, _⟩ := h2.slAt (C := 2) Try.underlying47 (by kernel_rfl) (by decide)
    simp only [List.cons.injEq, and_true] at e0 e1 e2
    subst e0 e1 e2
    obtain ⟨L, hL, hB⟩ := slAt_shapesB hs
    simp only [Prod.mk.injEq] at hx
    have h5 : Rows.uptoBulk d = Rows.uptoBulk (DataW.agg [y0.1, y1.1, y2.1]) := by rw [hx.1]; rfl
    have h3 : Rows.uptoBulk y0.1 ≤ Rows.uptoBulk d := by rw [h5]; simp only [Rows.uptoBulk, Rows.uptoBulkAll]; omega
    have h4 := elems_len y0.1
    rw [hs.size] at h4
    exact ⟨S, sl, sc, D, dl, dc, U, ul, uc, L, rfl, hL, hs.le, hs.wide, by omega, fun x hx => Nat.le_trans (hB x hx) h3⟩
end

set_option maxHeartbeats 1000000 in
theorem unitBehind_walk (w : World) (G S S2 D U : Option Addr) (gl gc sl sc l2 c2 dl dc ul uc : Nat) (X1 X2 : List Shp) (h1 : ShapesAt w S sl X1) (h2 : ShapesAt w S2 l2 X2) (hsc : sl ≤ sc ∧ sc ≤ maxLen) (hl2 : l2 ≤ c2 ∧ c2 ≤ maxLen) (hn : sl + l2 ≤ 1099511627776) (hf : ∀ x ∈ X1 ++ X2, x.len ≤ 1099511627776) :
    Calls Try.prog 6 #[.agg #[.slice G gl gc, .slice S sl sc], .agg #[.slice S2 l2 c2, .slice D dl dc, .slice U ul uc]] w fun e w' => e = .returned (.bool true) ∧ Below w.heap.size w w' := by
  have H1 := Lib.hid h1
  have H2 := Lib.hid h2
  have HF := Lib.hid hf
  clear h1 h2 hf
  go_enter Try.func6, Try.ntmps6
  go_wp2_with fail
  have HW := Lib.hid (((Below.refl w.heap.size w).alloc (Nat.le_refl _) (.cells #[.slice G gl gc, .slice S sl sc] 45)).alloc (by simp) (.cells #[.slice S2 l2 c2, .slice D dl dc, .slice U ul uc] 49))
  refine (shapes_any _ G S S2 D U gl gc sl sc l2 c2 dl dc ul uc X1 X2 (H1.out.below HW.out) (H2.out.below HW.out) hn HF.out).mono ?_
  rintro e w1 ⟨A, n, cap, Y, rfl, hc1, hc2, hY, hYC, hb1⟩
  have e0 : w1.cell? ⟨w.heap.size, 0, none⟩ = some (.slice G gl gc) := (hb1.cell (p := ⟨w.heap.size, 0, none⟩) (by simp; omega)).trans ((World.cell?_alloc_lt _ _ ⟨w.heap.size, 0, none⟩ (by simp)).trans (cell_new _ _ _ 0))
  have e1 : w1.cell? ⟨w.heap.size, 1, none⟩ = some (.slice S sl sc) := (hb1.cell (p := ⟨w.heap.size, 1, none⟩) (by simp; omega)).trans ((World.cell?_alloc_lt _ _ ⟨w.heap.size, 1, none⟩ (by simp)).trans (cell_new _ _ _ 1))
  have hz : w.heap.size + 1 = (w.alloc (.cells #[.slice G gl gc, .slice S sl sc] 45)).heap.size := by simp
  have u0 : w1.cell? ⟨w.heap.size + 1, 0, none⟩ = some (.slice S2 l2 c2) := (hb1.cell (p := ⟨w.heap.size + 1, 0, none⟩) (by simp)).trans (by rw [hz]; exact cell_new _ _ _ 0)
  have u1 : w1.cell? ⟨w.heap.size + 1, 1, none⟩ = some (.slice D dl dc) := (hb1.cell (p := ⟨w.heap.size + 1, 1, none⟩) (by simp)).trans (by rw [hz]; exact cell_new _ _ _ 1)
  have u2 : w1.cell? ⟨w.heap.size + 1, 2, none⟩ = some (.slice U ul uc) := (hb1.cell (p := ⟨w.heap.size + 1, 2, none⟩) (by simp)).trans (by rw [hz]; exact cell_new _ _ _ 2)
  have HY := Lib.hid hY
  have HYC := Lib.hid hYC
  have HB1 := Lib.hid (HW.out.trans (hb1.mono HW.out.size))
  clear hY hYC hb1 hz
  go_wp2_with fail
  refine (behind_any _ G S S2 D U gl gc sl sc l2 c2 dl dc ul uc X1 X2 (H1.out.below HB1.out) (H2.out.below HB1.out) hsc hl2 hn HF.out).mono ?_
  rintro e w2 ⟨A', n', cap', Z, rfl, hc1', hc2', hZ, hZC, hb2⟩
  have hnn : n = n' := by
    have h := congrArg List.length (HYC.out.trans hZC.symm)
    rw [List.length_map, List.length_map, HY.out.size, hZ.size] at h
    exact h
  subst hnn
  have HY2 := Lib.hid (HY.out.below hb2)
  have HZ := Lib.hid hZ
  have HYZ := Lib.hid (HYC.out.trans hZC.symm)
  have HB2 := Lib.hid (HB1.out.trans (hb2.mono HB1.out.size))
  clear hZ hZC hb2
  go_wp2_with fail
  refine (sameShapes_any A A' n cap cap' Y Z _ hc1 hc1' hc2 hc2' HY2.out HZ.out HYZ.out).mono ?_
  rintro e w3 ⟨rfl, m, rfl⟩
  go_wp2_with fail
  go_ret
  exact ⟨rfl, below_drewN HB2.out _⟩

namespace unitBehind
theorem own : ownKnob Try.prog.godebug = none := by kernel_rfl

theorem contract (H : Type) (enc : TypeId × Value → H) (W : World) (base : Nat) (args : Array Value) (ds gs : List (DataW H)) (before : List MemPlace)
    (hval : ∀ (j : Nat) t v, Try.f6.params[j]? = some t → args[j]? = some v → Value.okWide Try.prog W .any base t v)
    (hW : DataW.Whole enc Try.prog Try.f6.params.toList Rows.unitBehindSpec.vars false W args.toList ds gs before) (hk : Rows.uptoSmall H (ds ++ gs) = true) :
    Calls Try.prog 6 args W fun e W' => ∃ v, e = .returned v ∧ Rows.unitBehindSpec.post enc Try.prog Try.f6 false true false false W args v W' := by
  have hW' := hW
  obtain ⟨p, q, hA0, hV, rfl, hfz, hnd⟩ := hW
  have hA : DataW.TrodAll enc Try.prog W 0 (fun _ => true) true Try.f6.params.toList args.toList ds p := hA0
  rw [Try.params6] at hA hval
  obtain ⟨v0, vs0, d0, ds0, p0, q0, hargs, rfl, rfl, h0, r0⟩ := trodAll_cons hA
  obtain ⟨v1, vs1, d1, ds1, p1, q1, rfl, rfl, rfl, h1, r1⟩ := trodAll_cons r0
  obtain ⟨rfl, rfl, rfl⟩ := trodAll_nil r1
  obtain rfl : args = #[v0, v1] := by cases args; simp_all
  obtain ⟨rfl, rfl⟩ := trodVars_none hV
  obtain ⟨cs0, rfl, hsz0⟩ := okWide_struct Try.underlying45 (hval 0 _ _ rfl rfl)
  obtain ⟨cs1, rfl, hsz1⟩ := okWide_struct Try.underlying49 (hval 1 _ _ rfl rfl)
  obtain ⟨fu0, h0⟩ := h0
  obtain ⟨fu1, h1⟩ := h1
  obtain ⟨G, gl, gc, S, sl, sc, X1, hcE, hX1, ha1, ha2, ha3, ha4⟩ := Rd.env (enc := enc) (cs := cs0.toList) (d := d0) ⟨fu0, _, h0⟩
  obtain ⟨S2, l2, c2, D, dl, dc, U, ul, uc, X2, hcU, hX2, hb1, hb2, hb3, hb4⟩ := Rd.unit (enc := enc) (cs := cs1.toList) (d := d1) ⟨fu1, _, h1⟩
  have hcs0 : cs0 = #[.slice G gl gc, .slice S sl sc] := by
    obtain ⟨l⟩ := cs0
    exact congrArg List.toArray hcE
  have hcs1 : cs1 = #[.slice S2 l2 c2, .slice D dl dc, .slice U ul uc] := by
    obtain ⟨l⟩ := cs1
    exact congrArg List.toArray hcU
  have hbd := bulks.bound hk
  simp only [List.append_nil, Rows.uptoBulkAll] at hbd
  rw [hcs0, hcs1] at hW' ⊢
  refine (unitBehind_walk W G S S2 D U gl gc sl sc l2 c2 dl dc ul uc X1 X2 hX1 hX2 ⟨ha1, ha2⟩ ⟨hb1, hb2⟩ (by omega) (fun x hx => by
    rcases List.mem_append.1 hx with hx | hx
    · have := ha4 x hx; omega
    · have := hb4 x hx; omega)).mono fun e W' ⟨he, hb⟩ => ⟨_, he, ?_⟩
  refine law_post (by kernel_rfl) rfl ⟨rfl, rfl, rfl⟩ ?_ hW' hb
  intro t ht
  rw [Try.params6] at ht
  simp at ht
  rcases ht with rfl | rfl
  · exact ⟨readableEnv, rowEnv⟩
  · exact ⟨readableUnit, rowUnit⟩

set_option maxRecDepth 100000 in
theorem lifted (os : Os) (started : os.Started) (H : Type) (enc : TypeId × Value → H) (F : Stop.Interp) :
    ReturnsInHanded {} Try.checked os 6 .any ((Rows.OpenSpec.upto Rows.unitBehindSpec).pre6 enc Try.prog Try.f6 Rows.unitBehindUptoRow.domain false) (((Rows.OpenSpec.upto Rows.unitBehindSpec).at F).post enc Try.prog Try.f6 false true false false) := by
  refine returnsInHanded_of_cond (C := Try.checked) (s := Rows.OpenSpec.upto Rows.unitBehindSpec) (k := Rows.uptoSmall) rfl own started (by kernel_rfl) Try.func6
    (OpenSpec.witness (enc := enc) (C := Try.checked) (s := Rows.OpenSpec.upto Rows.unitBehindSpec) (k := Rows.uptoSmall) rfl false ⟨#[], #[.agg #[.slice none 0 0, .slice none 0 0], .agg #[.slice none 0 0, .slice none 0 0, .slice none 0 0]], []⟩ 8 (by kernel_rfl) (by kernel_rfl) (by kernel_rfl)
      (x := ([.agg [.nil, .nil], .agg [.nil, .nil, .nil]], [], [])) (by kernel_rfl) rfl (by kernel_rfl)) ?_
  intro W base args ds gs before hval hW _ hk _
  exact contract H enc W base args ds gs before hval hW hk

theorem over : Rows.UnitBehindUptoSaid :=
  OpenClaim.holds_of_cond 6 Try.f6 rfl rfl rfl rfl rfl rfl rfl ⟨rfl, rfl, rfl, rfl, rfl⟩ rfl rfl rfl rfl rfl (by kernel_rfl) Try.func6 (by kernel_rfl)
    (of_decide_eq_true (by kernel_rfl)) (by unfold Func.isWrapper; first | (rw [if_pos (by decide +kernel)]; kernel_rfl) | (rw [if_neg (by decide +kernel)]; exact ⟨rfl, rfl⟩))
    (fun os started H enc _ F => lifted os started H enc F)
end unitBehind

/-- The statement. -/
theorem unitBehind_upto : Rows.UnitBehindUptoSaid := unitBehind.over
end Go.Proofs.Ytbkagjngckfonaa
