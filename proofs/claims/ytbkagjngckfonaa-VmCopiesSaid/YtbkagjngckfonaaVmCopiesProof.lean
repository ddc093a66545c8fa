/- Proved: grafterylaw.VmCopies returns true for every world (vm.Copy answers a world that reads as the one it was given). Conditions: none beyond the given row's own. -/
import Derived.Test.YtbkagjngckfonaaVmCopy
import Derived.SizedLaws
namespace Go.Proofs.Ytbkagjngckfonaa
open Go.RowKit Go.ChangeShapes Go.WideShapes Go.Deep Go.ChangeAt
set_option linter.unusedVariables false

theorem readableWorld : Try.prog.readableRec 33 = true := by kernel_rfl
theorem rowWorld : 33 < Try.prog.types.size := of_decide_eq_true (by kernel_rfl)
theorem bytesInstr : Try.prog.bytesOf 64 = 88 := by kernel_rfl
theorem bytesFunc : Try.prog.bytesOf 61 = 48 := by kernel_rfl
theorem bytesGlob : Try.prog.bytesOf 57 = 48 := by kernel_rfl
theorem bytesWord : Try.prog.bytesOf 55 = 32 := by kernel_rfl
theorem bytesRec : Try.prog.bytesOf 67 = 64 := by kernel_rfl
theorem bytesShape : Try.prog.bytesOf 69 = 40 := by kernel_rfl
theorem bytesString : Try.prog.bytesOf 9 = 16 := by kernel_rfl
theorem bytesInt : Try.prog.bytesOf 3 = 8 := by kernel_rfl
theorem bytesSlInt : Try.prog.bytesOf 24 = 24 := by kernel_rfl

section
variable {H : Type} {enc : TypeId × Value → H}

/-- The datum's slices are within the form's reach. -/
def Fit (t : TypeId) (d : DataW H) : Prop := ∀ n ∈ d.weights Try.prog t, n ≤ 140737488351232
theorem Fit.part {t t' : TypeId} {fs : Array Field} {parts : List (DataW H)} {d' : DataW H} (ht : Try.prog.underlying t = some (.struct fs)) (h : Fit t (.agg parts)) (j : Nat) (hj : (fs.toList.map (·.type))[j]? = some t') (hd : parts[j]? = some d') : Fit t' d' :=
  fun n hn => h n (by simp only [DataW.weights, ht]; exact DataW.weights_mem_each hj hd n hn)
theorem weights_all {e : TypeId} : ∀ {l : List (DataW H)} {x : DataW H}, x ∈ l → ∀ n ∈ x.weights Try.prog e, n ∈ DataW.weightsAll Try.prog e l
  | d :: l, x, hx, n, hn => by
    rw [DataW.weightsAll, List.mem_append]
    rcases List.mem_cons.1 hx with rfl | hx
    · exact Or.inl hn
    · exact Or.inr (weights_all hx n hn)
theorem Fit.sl {t e : TypeId} {d : DataW H} (ht : Try.prog.underlying t = some (.slice e)) (h : Fit t d) : (elems d).length * Try.prog.bytesOf e ≤ 140737488351232 ∧ ∀ x ∈ elems d, Fit e x := by
  cases d with
  | slice es sp =>
    have h' : ∀ n ∈ ((es.length + sp.length) * Try.prog.bytesOf e :: (DataW.weightsAll Try.prog e es ++ DataW.weightsAll Try.prog e sp)), n ≤ 140737488351232 := by
      intro n hn
      refine h n ?_
      simp only [DataW.weights, ht]
      exact hn
    refine ⟨?_, fun x hx n hn => h' n (List.mem_cons_of_mem _ (List.mem_append_left _ (weights_all hx n hn)))⟩
    have h1 := h' _ (List.mem_cons_self ..)
    rw [Nat.add_mul] at h1
    simp only [elems]
    omega
  | _ => exact ⟨by simp [elems], by simp [elems]⟩

theorem Rd.funcB {w : World} {cs : List Value} {d : DataW H} (h : Rd enc w 61 cs d) (hF : Fit 61 d) : ∃ x : FnV, cs = [.int .i64 x.p, .int .i64 x.l, .int .i64 x.c, .slice x.code.A x.code.len x.code.cap] ∧ x.code.Ok w 8 IsInstr ∧ x.code.len * 88 ≤ 140737488351232 := by
  obtain ⟨f, ps, h⟩ := h
  obtain ⟨xs, m, _, hx, hl, hlen, hf⟩ := DataW.trod_struct Try.underlying61 h
  rw [cellsFunc] at hl
  match cs, hl, xs, hlen with
  | [c0, c1, c2, c3], _, [y0, y1, y2, y3], _ =>
    have h0 : Rd enc w 3 [c0] y0.1 := ⟨m, y0.2, by simpa [cellsInt] using hf 0 _ rfl⟩
    have h1 : Rd enc w 3 [c1] y1.1 := ⟨m, y1.2, by simpa [cellsInt] using hf 1 _ rfl⟩
    have h2 : Rd enc w 3 [c2] y2.1 := ⟨m, y2.2, by simpa [cellsInt] using hf 2 _ rfl⟩
    have h3 : Rd enc w 59 [c3] y3.1 := ⟨m, y3.2, by simpa [cellsInt, cellsSlInstr] using hf 3 _ rfl⟩
    obtain ⟨k, e0, _⟩ := h0.int Try.underlying3
    obtain ⟨n, e1, _⟩ := h1.int Try.underlying3
    obtain ⟨o, e2, _⟩ := h2.int Try.underlying3
    obtain ⟨A, len, cap, e3, hs⟩ := h3.slAt Try.underlying59 cellsInstr (by decide)
    obtain ⟨rows, hr, hP⟩ := slAt_rows (P := IsInstr) (fun cs d h => Rd.instr h) hs
    simp only [List.cons.injEq, and_true] at e0 e1 e2 e3
    subst e0 e1 e2 e3
    simp only [Prod.mk.injEq] at hx
    have hd : d = .agg [y0.1, y1.1, y2.1, y3.1] := hx.1
    subst hd
    have h5 := ((Fit.part Try.underlying61 hF 3 (d' := y3.1) rfl rfl).sl Try.underlying59).1
    rw [hs.size, bytesInstr] at h5
    exact ⟨⟨k, n, o, ⟨A, len, cap, rows⟩⟩, rfl, ⟨hs.le, hs.wide, hr, hP⟩, h5⟩

theorem slAt_fnsB {w : World} {A : Option Addr} {len cap : Nat} {it : DataW H} (h : SlAt enc w 61 4 A len cap it) (hF : ∀ x ∈ elems it, Fit 61 x) : ∃ F : List FnV, FnsAt w A len F ∧ ∀ f ∈ F, f.code.len * 88 ≤ 140737488351232 := by
  rcases Nat.eq_zero_or_pos len with h0 | h0
  · subst h0
    exact ⟨[], ⟨rfl, fun h => absurd h (by omega), by simp⟩, by simp⟩
  · obtain ⟨b, o, rfl, hb, hrow⟩ := h.at_ h0
    have hx : ∀ i : Fin len, ∃ x : FnV, (RowAt w b (o + i.1 * 4) [.int .i64 x.p, .int .i64 x.l, .int .i64 x.c, .slice x.code.A x.code.len x.code.cap] ∧ x.code.Ok w 8 IsInstr) ∧ x.code.len * 88 ≤ 140737488351232 := by
      intro i
      have hil : i.1 < (elems it).length := by rw [h.size]; exact i.2
      obtain ⟨cs', hl, hr, hrd⟩ := hrow i.1 hil
      obtain ⟨x, rfl, hok, hB⟩ := hrd.funcB (hF _ (List.getElem_mem hil))
      exact ⟨x, ⟨hr, hok⟩, hB⟩
    obtain ⟨f, hf⟩ := Classical.axiomOfChoice hx
    refine ⟨List.ofFn f, ⟨by simp, fun _ => ⟨b, o, rfl, hb, fun i hi => ?_⟩, ?_⟩, ?_⟩
    · have hi' : i < len := by simpa using hi
      rw [List.getElem_ofFn]
      have hr := (hf ⟨i, hi'⟩).1.1
      exact ⟨hr 0 (by simp), hr 1 (by simp), hr 2 (by simp), hr 3 (by simp)⟩
    · intro s hs
      obtain ⟨i, rfl⟩ := List.mem_ofFn.1 hs
      exact (hf i).1.2
    · intro s hs
      obtain ⟨i, rfl⟩ := List.mem_ofFn.1 hs
      exact (hf i).2

theorem slAt_slsB {w : World} {A : Option Addr} {len cap : Nat} {it : DataW H} (h : SlAt enc w 24 1 A len cap it) (hF : ∀ x ∈ elems it, Fit 24 x) : ∃ M : List Sl, SlsAt w 1 IsInt A len M ∧ ∀ m ∈ M, m.len * 8 ≤ 140737488351232 := by
  rcases Nat.eq_zero_or_pos len with h0 | h0
  · subst h0
    exact ⟨[], ⟨rfl, fun h => absurd h (by omega), by simp⟩, by simp⟩
  · obtain ⟨b, o, rfl, hb, hrow⟩ := h.at_ h0
    have hx : ∀ i : Fin len, ∃ x : Sl, (w.cell? ⟨b, o + i.1, none⟩ = some (.slice x.A x.len x.cap) ∧ x.Ok w 1 IsInt) ∧ x.len * 8 ≤ 140737488351232 := by
      intro i
      have hil : i.1 < (elems it).length := by rw [h.size]; exact i.2
      obtain ⟨cs', hl, hr, hrd⟩ := hrow i.1 hil
      obtain ⟨A', len', cap', rfl, hs⟩ := hrd.slAt Try.underlying24 cellsInt (by decide)
      obtain ⟨rows, hr', hP⟩ := slAt_rows (P := IsInt) (fun cs d h => Rd.isInt h) hs
      have h5 := ((hF _ (List.getElem_mem hil)).sl Try.underlying24).1
      rw [hs.size, bytesInt] at h5
      refine ⟨⟨A', len', cap', rows⟩, ⟨?_, ⟨hs.le, hs.wide, hr', hP⟩⟩, h5⟩
      have := hr 0 (by simp)
      simpa using this
    obtain ⟨f, hf⟩ := Classical.axiomOfChoice hx
    refine ⟨List.ofFn f, ⟨by simp, fun _ => ⟨b, o, rfl, hb, fun i hi => ?_⟩, ?_⟩, ?_⟩
    · have hi' : i < len := by simpa using hi
      rw [List.getElem_ofFn]
      exact (hf ⟨i, hi'⟩).1.1
    · intro s hs
      obtain ⟨i, rfl⟩ := List.mem_ofFn.1 hs
      exact (hf i).1.2
    · intro s hs
      obtain ⟨i, rfl⟩ := List.mem_ofFn.1 hs
      exact (hf i).2

theorem Rd.shapeB {w : World} {cs : List Value} {d : DataW H} (h : Rd enc w 69 cs d) (hF : Fit 69 d) : ∃ name A len cap ss, ShapeAt w cs name A len cap ss ∧ len * 16 ≤ 140737488351232 := by
  obtain ⟨f, ps, h⟩ := h
  obtain ⟨xs, m, _, hx, hl, hlen, hf⟩ := DataW.trod_struct Try.underlying69 h
  rw [cellsShape] at hl
  match cs, hl, xs, hlen with
  | [c0, c1], _, [y0, y1], _ =>
    have h0 : Rd enc w 9 [c0] y0.1 := ⟨m, y0.2, by simpa [cellsString] using hf 0 _ rfl⟩
    have h1 : Rd enc w 42 [c1] y1.1 := ⟨m, y1.2, by simpa [cellsString, show Try.prog.cellsOf 42 = 1 by kernel_rfl] using hf 1 _ rfl⟩
    obtain ⟨s, e2, d2, s1⟩ := h0.string Try.underlying9
    obtain ⟨A, len, cap, e3, hs⟩ := h1.slAt Try.underlying42 cellsString (by decide)
    simp only [List.cons.injEq, and_true] at e2 e3
    subst e2 e3
    obtain ⟨ss, hss, hev⟩ := slAt_strs hs
    refine ⟨s, A, len, cap, ss, ⟨rfl, s1, hss, hev, hs.le, hs.wide⟩, ?_⟩
    simp only [Prod.mk.injEq] at hx
    have hd : d = .agg [y0.1, y1.1] := hx.1
    subst hd
    have h5 := ((Fit.part Try.underlying69 hF 1 (d' := y1.1) rfl rfl).sl Try.underlying42).1
    rw [hs.size, bytesString] at h5
    exact h5

theorem slAt_shapesB {w : World} {A : Option Addr} {len cap : Nat} {it : DataW H} (h : SlAt enc w 69 2 A len cap it) (hF : ∀ x ∈ elems it, Fit 69 x) : ∃ L : List Shp, ShapesAt w A len L ∧ ∀ x ∈ L, x.len * 16 ≤ 140737488351232 := by
  rcases Nat.eq_zero_or_pos len with h0 | h0
  · subst h0
    exact ⟨[], ⟨rfl, fun h => absurd h (by omega), by simp⟩, by simp⟩
  · obtain ⟨b, o, rfl, hb, hrow⟩ := h.at_ h0
    have hx : ∀ i : Fin len, ∃ x : Shp, ((w.cell? ⟨b, o + i.1 * 2, none⟩ = some (.string x.name) ∧ w.cell? ⟨b, o + i.1 * 2 + 1, none⟩ = some (.slice x.A x.len x.cap)) ∧ x.At w) ∧ x.len * 16 ≤ 140737488351232 := by
      intro i
      have hil : i.1 < (elems it).length := by rw [h.size]; exact i.2
      obtain ⟨cs', hl, hr, hrd⟩ := hrow i.1 hil
      obtain ⟨name, A', len', cap', ss, hS, hB⟩ := Rd.shapeB hrd (hF _ (List.getElem_mem hil))
      obtain rfl := hS.cells
      exact ⟨⟨name, A', len', cap', ss⟩, ⟨⟨hr 0 (by simp), hr 1 (by simp)⟩, hS⟩, hB⟩
    obtain ⟨f, hf⟩ := Classical.axiomOfChoice hx
    refine ⟨List.ofFn f, ⟨by simp, fun _ => ⟨b, o, rfl, hb, fun i hi => ?_⟩, ?_⟩, ?_⟩
    · have hi' : i < len := by simpa using hi
      rw [List.getElem_ofFn]
      exact (hf ⟨i, hi'⟩).1.1
    · intro s hs
      obtain ⟨i, rfl⟩ := List.mem_ofFn.1 hs
      exact (hf i).1.2
    · intro s hs
      obtain ⟨i, rfl⟩ := List.mem_ofFn.1 hs
      exact (hf i).2

theorem Rd.recB {w : World} {cs : List Value} {d : DataW H} (h : Rd enc w 67 cs d) (hF : Fit 67 d) : ∃ x : RcV, cs = [.string x.nm, .slice x.A1 x.n1 x.c1, .slice x.A3 x.n3 x.c3] ∧ x.Ok w ∧
    x.n1 * 40 ≤ 140737488351232 ∧ x.n3 * 24 ≤ 140737488351232 ∧ (∀ s ∈ x.X, s.len * 16 ≤ 140737488351232) ∧ ∀ m ∈ x.M, m.len * 8 ≤ 140737488351232 := by
  obtain ⟨f, ps, h⟩ := h
  obtain ⟨xs, m, _, hx, hl, hlen, hf⟩ := DataW.trod_struct Try.underlying67 h
  rw [cellsRec] at hl
  match cs, hl, xs, hlen with
  | [c0, c1, c2], _, [y0, y1, y2], _ =>
    have h0 : Rd enc w 9 [c0] y0.1 := ⟨m, y0.2, by simpa [cellsString] using hf 0 _ rfl⟩
    have h1 : Rd enc w 43 [c1] y1.1 := ⟨m, y1.2, by simpa [cellsString, show Try.prog.cellsOf 43 = 1 by kernel_rfl] using hf 1 _ rfl⟩
    have h2 : Rd enc w 65 [c2] y2.1 := ⟨m, y2.2, by simpa [cellsString, show Try.prog.cellsOf 43 = 1 by kernel_rfl, show Try.prog.cellsOf 65 = 1 by kernel_rfl] using hf 2 _ rfl⟩
    obtain ⟨s, e0, _⟩ := h0.string Try.underlying9
    obtain ⟨A1, n1, c1, e1, hs1⟩ := h1.slAt Try.underlying43 cellsShape (by decide)
    obtain ⟨A3, n3, c3, e2, hs3⟩ := h2.slAt Try.underlying65 cellsSlInt (by decide)
    simp only [Prod.mk.injEq] at hx
    have hd : d = .agg [y0.1, y1.1, y2.1] := hx.1
    subst hd
    have f1 := (Fit.part Try.underlying67 hF 1 (d' := y1.1) rfl rfl).sl Try.underlying43
    have f2 := (Fit.part Try.underlying67 hF 2 (d' := y2.1) rfl rfl).sl Try.underlying65
    rw [hs1.size, bytesShape] at f1
    rw [hs3.size, bytesSlInt] at f2
    obtain ⟨X, hX, hXB⟩ := slAt_shapesB hs1 f1.2
    obtain ⟨M, hM, hMB⟩ := slAt_slsB hs3 f2.2
    simp only [List.cons.injEq, and_true] at e0 e1 e2
    subst e0 e1 e2
    exact ⟨⟨s, A1, n1, c1, X, A3, n3, c3, M⟩, rfl, ⟨hs1.le, hs1.wide, hX, hs3.le, hs3.wide, hM⟩, f1.1, f2.1, hXB, hMB⟩

theorem slAt_rcsB {w : World} {A : Option Addr} {len cap : Nat} {it : DataW H} (h : SlAt enc w 67 3 A len cap it) (hF : ∀ x ∈ elems it, Fit 67 x) : ∃ R : List RcV, RcsAt w A len R ∧
    ∀ x ∈ R, x.n1 * 40 ≤ 140737488351232 ∧ x.n3 * 24 ≤ 140737488351232 ∧ (∀ s ∈ x.X, s.len * 16 ≤ 140737488351232) ∧ ∀ m ∈ x.M, m.len * 8 ≤ 140737488351232 := by
  rcases Nat.eq_zero_or_pos len with h0 | h0
  · subst h0
    exact ⟨[], ⟨rfl, fun h => absurd h (by omega), by simp⟩, by simp⟩
  · obtain ⟨b, o, rfl, hb, hrow⟩ := h.at_ h0
    have hx : ∀ i : Fin len, ∃ x : RcV, (RowAt w b (o + i.1 * 3) [.string x.nm, .slice x.A1 x.n1 x.c1, .slice x.A3 x.n3 x.c3] ∧ x.Ok w) ∧ x.n1 * 40 ≤ 140737488351232 ∧ x.n3 * 24 ≤ 140737488351232 ∧ (∀ s ∈ x.X, s.len * 16 ≤ 140737488351232) ∧ ∀ m ∈ x.M, m.len * 8 ≤ 140737488351232 := by
      intro i
      have hil : i.1 < (elems it).length := by rw [h.size]; exact i.2
      obtain ⟨cs', hl, hr, hrd⟩ := hrow i.1 hil
      obtain ⟨x, rfl, hok, hB⟩ := hrd.recB (hF _ (List.getElem_mem hil))
      exact ⟨x, ⟨hr, hok⟩, hB⟩
    obtain ⟨f, hf⟩ := Classical.axiomOfChoice hx
    refine ⟨List.ofFn f, ⟨by simp, fun _ => ⟨b, o, rfl, hb, fun i hi => ?_⟩, ?_⟩, ?_⟩
    · have hi' : i < len := by simpa using hi
      rw [List.getElem_ofFn]
      have hr := (hf ⟨i, hi'⟩).1.1
      exact ⟨hr 0 (by simp), hr 1 (by simp), hr 2 (by simp)⟩
    · intro s hs
      obtain ⟨i, rfl⟩ := List.mem_ofFn.1 hs
      exact (hf i).1.2
    · intro s hs
      obtain ⟨i, rfl⟩ := List.mem_ofFn.1 hs
      exact (hf i).2

theorem Rd.heapB {w : World} {cs : List Value} {d : DataW H} (h : Rd enc w 31 cs d) (hF : Fit 31 d) : ∃ (A : Option Addr) (n c : Nat) (W : List (List Value)) (lim : Int), cs = [.slice A n c, .int .i64 lim] ∧ n ≤ c ∧ c ≤ maxLen ∧ RowsF w A n 3 W ∧ (∀ c ∈ W, IsWord c) ∧ n * 32 ≤ 140737488351232 := by
  obtain ⟨f, ps, h⟩ := h
  obtain ⟨xs, m, _, hx, hl, hlen, hf⟩ := DataW.trod_struct Try.underlying31 h
  rw [cellsHeap] at hl
  match cs, hl, xs, hlen with
  | [c0, c1], _, [y0, y1], _ =>
    have h0 : Rd enc w 29 [c0] y0.1 := ⟨m, y0.2, by simpa [show Try.prog.cellsOf 29 = 1 by kernel_rfl] using hf 0 _ rfl⟩
    have h1 : Rd enc w 3 [c1] y1.1 := ⟨m, y1.2, by simpa [cellsInt, show Try.prog.cellsOf 29 = 1 by kernel_rfl] using hf 1 _ rfl⟩
    obtain ⟨A, n, c, e0, hs⟩ := h0.slAt Try.underlying29 cellsWord (by decide)
    obtain ⟨lim, e1, _⟩ := h1.int Try.underlying3
    obtain ⟨rows, hr, hP⟩ := slAt_rows (P := IsWord) (fun cs d h => Rd.word h) hs
    simp only [List.cons.injEq, and_true] at e0 e1
    subst e0 e1
    simp only [Prod.mk.injEq] at hx
    have hd : d = .agg [y0.1, y1.1] := hx.1
    subst hd
    have f1 := ((Fit.part Try.underlying31 hF 0 (d' := y0.1) rfl rfl).sl Try.underlying29).1
    rw [hs.size, bytesWord] at f1
    exact ⟨A, n, c, rows, lim, rfl, hs.le, hs.wide, hr, hP, f1⟩

theorem Rd.worldB {w : World} {cs : List Value} {d : DataW H} (h : Rd enc w 33 cs d) (hF : Fit 33 d) : ∃ x : WdV, cs = x.cells.toList ∧ x.Ok w ∧ x.Small := by
  obtain ⟨f, ps, h⟩ := h
  obtain ⟨xs, m, _, hx, hl, hlen, hf⟩ := DataW.trod_struct Try.underlying33 h
  rw [cellsWorld] at hl
  have s0 : Try.prog.cellsOf 26 = 1 := by kernel_rfl
  have s1 : Try.prog.cellsOf 27 = 1 := by kernel_rfl
  have s2 : Try.prog.cellsOf 28 = 1 := by kernel_rfl
  match cs, hl, xs, hlen with
  | [c0, c1, c2, c3, c4], _, [y0, y1, y2, y3], _ =>
    have h0 : Rd enc w 26 [c0] y0.1 := ⟨m, y0.2, by simpa [s0, s1, s2] using hf 0 _ rfl⟩
    have h1 : Rd enc w 27 [c1] y1.1 := ⟨m, y1.2, by simpa [s0, s1, s2] using hf 1 _ rfl⟩
    have h2 : Rd enc w 28 [c2] y2.1 := ⟨m, y2.2, by simpa [s0, s1, s2] using hf 2 _ rfl⟩
    have h3 : Rd enc w 31 [c3, c4] y3.1 := ⟨m, y3.2, by simpa [s0, s1, s2, cellsHeap] using hf 3 _ rfl⟩
    simp only [Prod.mk.injEq] at hx
    have hd : d = .agg [y0.1, y1.1, y2.1, y3.1] := hx.1
    subst hd
    have f0 := (Fit.part Try.underlying33 hF 0 (d' := y0.1) rfl rfl).sl Try.underlying26
    have f1 := (Fit.part Try.underlying33 hF 1 (d' := y1.1) rfl rfl).sl Try.underlying27
    have f2 := (Fit.part Try.underlying33 hF 2 (d' := y2.1) rfl rfl).sl Try.underlying28
    have f3 := Fit.part Try.underlying33 hF 3 (d' := y3.1) rfl rfl
    obtain ⟨AF, fl, fc, e0, hs0⟩ := h0.slAt Try.underlying26 cellsFunc (by decide)
    obtain ⟨AG, gl, gc, e1, hs1⟩ := h1.slAt Try.underlying27 cellsGlob (by decide)
    obtain ⟨AR, rl, rc, e2, hs2⟩ := h2.slAt Try.underlying28 cellsRec (by decide)
    obtain ⟨AW, wl, wc, W, lim, e3, w1, w2, w3, w4, w5⟩ := h3.heapB f3
    rw [hs0.size, bytesFunc] at f0
    rw [hs1.size, bytesGlob] at f1
    rw [hs2.size, bytesRec] at f2
    obtain ⟨F, hFn, hFB⟩ := slAt_fnsB hs0 f0.2
    obtain ⟨G, hG, hGP⟩ := slAt_rows (P := IsGlob) (fun cs d h => Rd.glob h) hs1
    obtain ⟨R, hR, hRB⟩ := slAt_rcsB hs2 f2.2
    simp only [List.cons.injEq, and_true] at e0 e1 e2 e3
    obtain ⟨rfl, rfl⟩ := e3
    subst e0 e1 e2
    exact ⟨⟨AF, fl, fc, F, AG, gl, gc, G, AR, rl, rc, R, AW, wl, wc, W, lim⟩, rfl, ⟨hs0.le, hs0.wide, hFn, hs1.le, hs1.wide, hG, hGP, hs2.le, hs2.wide, hR, w1, w2, w3, w4⟩, ⟨f0.1, f1.1, f2.1, w5, hFB, hRB⟩⟩
end

set_option maxHeartbeats 2000000 in
theorem vmCopies_walk (x : WdV) (w : World) (hx : x.Ok w) (hs : x.Small) : Calls Try.prog 4 #[.agg x.cells] w fun e w' => e = .returned (.bool true) ∧ Below w.heap.size w w' := by
  have HX := Lib.hid hx
  have HS := Lib.hid hs
  obtain ⟨v0, hv0⟩ : ∃ v0, x = v0 := ⟨_, rfl⟩
  have HV := Lib.hid hv0
  rw [hv0] at HX HS
  obtain ⟨AF, fl, fc, F, AG, gl, gc, G, AR, rl, rc, R, AW, wl, wk, W, lim⟩ := x
  simp only [WdV.cells]
  clear hx hs hv0
  go_enter Try.func4, Try.ntmps4
  go_wp2_with fail
  have hw0 : Below w.heap.size w (w.alloc (.cells #[.slice AF fl fc, .slice AG gl gc, .slice AR rl rc, .slice AW wl wk, .int .i64 lim] 33)) := (Below.refl _ _).alloc (Nat.le_refl _) _
  have hcall := copy_any v0 _ (HX.out.below hw0) HS.out
  rw [← HV.out] at hcall
  simp only [WdV.cells] at hcall
  refine hcall.mono ?_
  rintro e w1 ⟨y, rfl, hy, hsame, hb1⟩
  have c0 : w1.cell? ⟨w.heap.size, 0, none⟩ = some (.slice AF fl fc) := box_cell hb1 rfl
  have c1 : w1.cell? ⟨w.heap.size, 1, none⟩ = some (.slice AG gl gc) := box_cell hb1 rfl
  have c2 : w1.cell? ⟨w.heap.size, 2, none⟩ = some (.slice AR rl rc) := box_cell hb1 rfl
  have c3 : w1.cell? ⟨w.heap.size, 3, none⟩ = some (.slice AW wl wk) := box_cell hb1 rfl
  have c4 : w1.cell? ⟨w.heap.size, 4, none⟩ = some (.int .i64 lim) := box_cell hb1 rfl
  have hlt : w.heap.size < w1.heap.size := Nat.lt_of_lt_of_le (by simp) hb1.size
  have HB := Lib.hid (hw0.trans (hb1.mono (by simp)))
  have HY := Lib.hid hy
  have HSA := Lib.hid hsame
  obtain ⟨y0, hy0⟩ : ∃ y0, y = y0 := ⟨_, rfl⟩
  have HVY := Lib.hid hy0
  rw [hy0] at HY HSA
  obtain ⟨BF, ql, qc, F2, BG, hl, hc, G2, BR, sl, sc, R2, BW, ul, uc, W2, lim2⟩ := y
  simp only [WdV.cells]
  clear hy hsame hb1 hw0 hcall hy0
  go_wp2_with fail
  have hwb : Below w1.heap.size w1 (w1.alloc (.cells #[.slice BF ql qc, .slice BG hl hc, .slice BR sl sc, .slice BW ul uc, .int .i64 lim2] 33)) := (Below.refl _ _).alloc (Nat.le_refl _) _
  have hcall := sameWorld_any y0 v0 _ (HY.out.below hwb) (HX.out.below (HB.out.trans (hwb.mono HB.out.size))) (by rw [HV.out] at HSA; exact HSA.out)
  rw [← HV.out, ← HVY.out] at hcall
  simp only [WdV.cells] at hcall
  refine hcall.mono ?_
  rintro e w2 ⟨rfl, hb2⟩
  have HB2 := Lib.hid (HB.out.trans ((hwb.trans (hb2.mono hwb.size)).mono HB.out.size))
  clear hb2 hwb hcall
  go_wp2_with fail
  go_ret
  exact ⟨rfl, HB2.out⟩

namespace vmCopies
theorem own : ownKnob Try.prog.godebug = none := by kernel_rfl

theorem contract (H : Type) (enc : TypeId × Value → H) (W : World) (base : Nat) (args : Array Value) (ds gs : List (DataW H)) (before : List MemPlace)
    (hval : ∀ (j : Nat) t v, Try.f4.params[j]? = some t → args[j]? = some v → Value.okWide Try.prog W .any base t v)
    (hW : DataW.Whole enc Try.prog Try.f4.params.toList Rows.vmCopiesSpec.vars false W args.toList ds gs before)
    (hsz0 : (DataW.weightsEach Try.prog (Try.f4.params.toList ++ Rows.vmCopiesSpec.plain.varTypes Try.prog) (ds ++ gs)).all (· ≤ reachBytes) = true) :
    Calls Try.prog 4 args W fun e W' => ∃ v, e = .returned v ∧ Rows.vmCopiesSpec.post enc Try.prog Try.f4 false true false false W args v W' := by
  have hW' := hW
  obtain ⟨p, q, hA0, hV, rfl, hfz, hnd⟩ := hW
  have hA : DataW.TrodAll enc Try.prog W 0 (fun _ => true) true Try.f4.params.toList args.toList ds p := hA0
  rw [Try.params4] at hA hval hsz0
  obtain ⟨v0, vs0, d0, ds0, p0, q0, hargs, rfl, rfl, h0, r0⟩ := trodAll_cons hA
  obtain ⟨rfl, rfl, rfl⟩ := trodAll_nil r0
  obtain rfl : args = #[v0] := by cases args; simp_all
  obtain ⟨rfl, rfl⟩ := trodVars_none hV
  obtain ⟨cs, rfl, hsz⟩ := okWide_struct Try.underlying33 (hval 0 _ _ rfl rfl)
  obtain ⟨fu, h0⟩ := h0
  have hfit : Fit 33 d0 := fun n hn => by
    have := List.all_eq_true.1 hsz0 n (DataW.weights_mem_each (j := 0) (t := 33) (d := d0) rfl rfl n hn)
    exact of_decide_eq_true this
  obtain ⟨x, hc, hx, hs⟩ := Rd.worldB (enc := enc) (cs := cs.toList) (d := d0) ⟨fu, _, h0⟩ hfit
  have hcs : cs = x.cells := by
    obtain ⟨l⟩ := cs
    exact congrArg List.toArray hc
  rw [hcs] at hW' ⊢
  refine (vmCopies_walk x W hx hs).mono fun e W' ⟨he, hb⟩ => ⟨_, he, ?_⟩
  refine law_post (by kernel_rfl) rfl ⟨rfl, rfl, rfl⟩ ?_ hW' hb
  intro t ht
  rw [Try.params4] at ht
  simp at ht
  subst ht
  exact ⟨readableWorld, rowWorld⟩

set_option maxRecDepth 100000 in
theorem lifted (os : Os) (started : os.Started) (H : Type) (enc : TypeId × Value → H) :
    ReturnsInHanded {} Try.checked os 4 .any (Rows.vmCopiesSpec.pre6 enc Try.prog Try.f4 Rows.vmCopiesRow.domain false) (Rows.vmCopiesSpec.post enc Try.prog Try.f4 false true false false) := by
  refine returnsInHanded_of_change_sized (C := Try.checked) own started (by kernel_rfl) Try.func4
    (ChangeSpec.witness6 (enc := enc) (C := Try.checked) false ⟨#[], #[.agg #[.slice none 0 0, .slice none 0 0, .slice none 0 0, .slice none 0 0, .int .i64 0]], []⟩ 8 (by kernel_rfl) (by kernel_rfl) (by kernel_rfl) (by kernel_rfl)) ?_
  intro W base args ds gs before hval hW _ hsz _
  exact contract H enc W base args ds gs before hval hW hsz

theorem over : Rows.vmCopiesRow.holds Try.pinned (OpenSpec.ofChange Rows.vmCopiesSpec) :=
  OpenClaim.holds_of_wide 4 Try.f4 rfl rfl rfl rfl rfl rfl rfl ⟨rfl, rfl, rfl, rfl, rfl⟩ rfl rfl rfl rfl rfl (by kernel_rfl) Try.func4 (by kernel_rfl)
    (of_decide_eq_true (by kernel_rfl)) (by unfold Func.isWrapper; first | (rw [if_pos (by decide +kernel)]; kernel_rfl) | (rw [if_neg (by decide +kernel)]; exact ⟨rfl, rfl⟩))
    (fun os started H enc _ => lifted os started H enc)
end vmCopies

/-- The statement. -/
theorem vmCopies_holds : Rows.VmCopiesSaid := vmCopies.over
end Go.Proofs.Ytbkagjngckfonaa
