/- An argument of type api.World as a view (WdV). -/
import Derived.Test.YtbkagjngckfonaaVmWorld
namespace Go.Proofs.Ytbkagjngckfonaa
open Go.RowKit Go.ChangeShapes Go.WideShapes Go.Deep Go.ChangeAt
set_option linter.unusedVariables false

theorem cellsWord : Try.prog.cellsOf 55 = 3 := by kernel_rfl
theorem cellsGlob : Try.prog.cellsOf 57 = 4 := by kernel_rfl
theorem cellsInstr : Try.prog.cellsOf 64 = 8 := by kernel_rfl
theorem cellsFunc : Try.prog.cellsOf 61 = 4 := by kernel_rfl
theorem cellsRec : Try.prog.cellsOf 67 = 3 := by kernel_rfl
theorem cellsHeap : Try.prog.cellsOf 31 = 2 := by kernel_rfl
theorem cellsWorld : Try.prog.cellsOf 33 = 5 := by kernel_rfl
theorem cellsSlInstr : Try.prog.cellsOf 59 = 1 := by kernel_rfl
theorem cellsSlInt : Try.prog.cellsOf 24 = 1 := by kernel_rfl

section
variable {H : Type} {enc : TypeId × Value → H}
theorem Rd.word {w : World} {cs : List Value} {d : DataW H} (h : Rd enc w 55 cs d) : IsWord cs := by
  obtain ⟨f, ps, h⟩ := h
  obtain ⟨xs, m, _, hx, hl, hlen, hf⟩ := DataW.trod_struct Try.underlying55 h
  rw [cellsWord] at hl
  match cs, hl, xs, hlen with
  | [c0, c1, c2], _, [y0, y1, y2], _ =>
    have h0 : Rd enc w 3 [c0] y0.1 := ⟨m, y0.2, by simpa [cellsInt] using hf 0 _ rfl⟩
    have h1 : Rd enc w 3 [c1] y1.1 := ⟨m, y1.2, by simpa [cellsInt] using hf 1 _ rfl⟩
    have h2 : Rd enc w 9 [c2] y2.1 := ⟨m, y2.2, by simpa [cellsString, cellsInt] using hf 2 _ rfl⟩
    obtain ⟨k, e0, _⟩ := h0.int Try.underlying3
    obtain ⟨n, e1, _⟩ := h1.int Try.underlying3
    obtain ⟨s, e2, _⟩ := h2.string Try.underlying9
    simp only [List.cons.injEq, and_true] at e0 e1 e2
    subst e0 e1 e2
    exact ⟨k, n, s, rfl⟩
theorem Rd.glob {w : World} {cs : List Value} {d : DataW H} (h : Rd enc w 57 cs d) : IsGlob cs := by
  obtain ⟨f, ps, h⟩ := h
  obtain ⟨xs, m, _, hx, hl, hlen, hf⟩ := DataW.trod_struct Try.underlying57 h
  rw [cellsGlob] at hl
  match cs, hl, xs, hlen with
  | [c0, c1, c2, c3], _, [y0, y1], _ =>
    have h0 : Rd enc w 9 [c0] y0.1 := ⟨m, y0.2, by simpa [cellsString] using hf 0 _ rfl⟩
    have h1 : Rd enc w 55 [c1, c2, c3] y1.1 := ⟨m, y1.2, by simpa [cellsString, cellsWord] using hf 1 _ rfl⟩
    obtain ⟨s, e0, _⟩ := h0.string Try.underlying9
    obtain ⟨k, n, u, e1⟩ := h1.word
    simp only [List.cons.injEq, and_true] at e0 e1
    obtain ⟨rfl, rfl, rfl⟩ := e1
    subst e0
    exact ⟨s, k, n, u, rfl⟩
theorem Rd.instr {w : World} {cs : List Value} {d : DataW H} (h : Rd enc w 64 cs d) : IsInstr cs := by
  obtain ⟨f, ps, h⟩ := h
  obtain ⟨xs, m, _, hx, hl, hlen, hf⟩ := DataW.trod_struct Try.underlying64 h
  rw [cellsInstr] at hl
  match cs, hl, xs, hlen with
  | [c0, c1, c2, c3, c4, c5, c6, c7], _, [y0, y1, y2, y3, y4, y5], _ =>
    have h0 : Rd enc w 3 [c0] y0.1 := ⟨m, y0.2, by simpa [cellsInt] using hf 0 _ rfl⟩
    have h1 : Rd enc w 3 [c1] y1.1 := ⟨m, y1.2, by simpa [cellsInt] using hf 1 _ rfl⟩
    have h2 : Rd enc w 3 [c2] y2.1 := ⟨m, y2.2, by simpa [cellsInt] using hf 2 _ rfl⟩
    have h3 : Rd enc w 9 [c3] y3.1 := ⟨m, y3.2, by simpa [cellsString, cellsInt] using hf 3 _ rfl⟩
    have h4 : Rd enc w 9 [c4] y4.1 := ⟨m, y4.2, by simpa [cellsString, cellsInt] using hf 4 _ rfl⟩
    have h5 : Rd enc w 55 [c5, c6, c7] y5.1 := ⟨m, y5.2, by simpa [cellsString, cellsInt, cellsWord] using hf 5 _ rfl⟩
    obtain ⟨k, e0, _⟩ := h0.int Try.underlying3
    obtain ⟨n, e1, _⟩ := h1.int Try.underlying3
    obtain ⟨o, e2, _⟩ := h2.int Try.underlying3
    obtain ⟨s, e3, _⟩ := h3.string Try.underlying9
    obtain ⟨t, e4, _⟩ := h4.string Try.underlying9
    obtain ⟨p, q, u, e5⟩ := h5.word
    simp only [List.cons.injEq, and_true] at e0 e1 e2 e3 e4 e5
    obtain ⟨rfl, rfl, rfl⟩ := e5
    subst e0 e1 e2 e3 e4
    exact ⟨k, n, o, s, t, p, q, u, rfl⟩
theorem Rd.isInt {w : World} {cs : List Value} {d : DataW H} (h : Rd enc w 3 cs d) : IsInt cs := by
  obtain ⟨k, e0, _⟩ := h.int Try.underlying3
  exact ⟨k, e0⟩

theorem slAt_rows {w : World} {e C : Nat} {A : Option Addr} {len cap : Nat} {it : DataW H} {P : List Value → Prop} (hP : ∀ cs d, Rd enc w e cs d → P cs) (h : SlAt enc w e C A len cap it) : ∃ rows : List (List Value), RowsF w A len C rows ∧ ∀ c ∈ rows, P c := by
  rcases Nat.eq_zero_or_pos len with h0 | h0
  · subst h0
    exact ⟨[], ⟨rfl, fun h => absurd h (by omega)⟩, by simp⟩
  · obtain ⟨b, o, rfl, hb, hrow⟩ := h.at_ h0
    have hx : ∀ i : Fin len, ∃ c : List Value, (c.length = C ∧ RowAt w b (o + i.1 * C) c) ∧ P c := by
      intro i
      obtain ⟨cs', hl, hr, hrd⟩ := hrow i.1 (by rw [h.size]; exact i.2)
      exact ⟨cs', ⟨hl, hr⟩, hP _ _ hrd⟩
    obtain ⟨f, hf⟩ := Classical.axiomOfChoice hx
    refine ⟨List.ofFn f, ⟨by simp, fun _ => ⟨b, o, rfl, hb, fun i hi => ?_⟩⟩, ?_⟩
    · have hi' : i < len := by simpa using hi
      rw [List.getElem_ofFn]
      exact (hf ⟨i, hi'⟩).1
    · intro s hs
      obtain ⟨i, rfl⟩ := List.mem_ofFn.1 hs
      exact (hf i).2

theorem Rd.func {w : World} {cs : List Value} {d : DataW H} (h : Rd enc w 61 cs d) : ∃ x : FnV, cs = [.int .i64 x.p, .int .i64 x.l, .int .i64 x.c, .slice x.code.A x.code.len x.code.cap] ∧ x.code.Ok w 8 IsInstr := by
  obtain ⟨f, ps, h⟩ := h
  obtain ⟨xs, m, _, hx, hl, hlen, hf⟩ := DataW.trod_struct Try.underlying61 h
  rw [cellsFunc] at hl
  match cs, hl, xs, hlen with
  | [c0, c1, c2, c3], _, [y0, y1, y2, y3], _ =>
    have h0 : Rd enc w 3 [c0] y0.1 := ⟨m, y0.2, by simpa [cellsInt] using hf 0 _ rfl⟩
    have h1 : Rd enc w 3 [c1] y1.1 := ⟨m, y1.2, by simpa [cellsInt] using hf 1 _ rfl⟩
    have h2 : Rd enc w 3 [c2] y2.1 := ⟨m, y2.2, by simpa [cellsInt] using hf 2 _ rfl⟩
    have h3 : Rd enc w 59 [c3] y3.1 := ⟨m, y3.2, by simpa [cellsInt, cellsSlInstr] using hf 3 _ rfl⟩
    obtain ⟨k, e0, _⟩ := h0.int Try.underlying3
    obtain ⟨n, e1, _⟩ := h1.int Try.underlying3
    obtain ⟨o, e2, _⟩ := h2.int Try.underlying3
    obtain ⟨A, len, cap, e3, hs⟩ := h3.slAt Try.underlying59 cellsInstr (by decide)
    obtain ⟨rows, hr, hP⟩ := slAt_rows (P := IsInstr) (fun cs d h => Rd.instr h) hs
    simp only [List.cons.injEq, and_true] at e0 e1 e2 e3
    subst e0 e1 e2 e3
    exact ⟨⟨k, n, o, ⟨A, len, cap, rows⟩⟩, rfl, ⟨hs.le, hs.wide, hr, hP⟩⟩

theorem slAt_fns {w : World} {A : Option Addr} {len cap : Nat} {it : DataW H} (h : SlAt enc w 61 4 A len cap it) : ∃ F : List FnV, FnsAt w A len F := by
  rcases Nat.eq_zero_or_pos len with h0 | h0
  · subst h0
    exact ⟨[], ⟨rfl, fun h => absurd h (by omega), by simp⟩⟩
  · obtain ⟨b, o, rfl, hb, hrow⟩ := h.at_ h0
    have hx : ∀ i : Fin len, ∃ x : FnV, RowAt w b (o + i.1 * 4) [.int .i64 x.p, .int .i64 x.l, .int .i64 x.c, .slice x.code.A x.code.len x.code.cap] ∧ x.code.Ok w 8 IsInstr := by
      intro i
      obtain ⟨cs', hl, hr, hrd⟩ := hrow i.1 (by rw [h.size]; exact i.2)
      obtain ⟨x, rfl, hok⟩ := hrd.func
      exact ⟨x, hr, hok⟩
    obtain ⟨f, hf⟩ := Classical.axiomOfChoice hx
    refine ⟨List.ofFn f, ⟨by simp, fun _ => ⟨b, o, rfl, hb, fun i hi => ?_⟩, ?_⟩⟩
    · have hi' : i < len := by simpa using hi
      rw [List.getElem_ofFn]
      have hr := (hf ⟨i, hi'⟩).1
      exact ⟨hr 0 (by simp), hr 1 (by simp), hr 2 (by simp), hr 3 (by simp)⟩
    · intro s hs
      obtain ⟨i, rfl⟩ := List.mem_ofFn.1 hs
      exact (hf i).2

theorem slAt_sls {w : World} {A : Option Addr} {len cap : Nat} {it : DataW H} (h : SlAt enc w 24 1 A len cap it) : ∃ M : List Sl, SlsAt w 1 IsInt A len M := by
  rcases Nat.eq_zero_or_pos len with h0 | h0
  · subst h0
    exact ⟨[], ⟨rfl, fun h => absurd h (by omega), by simp⟩⟩
  · obtain ⟨b, o, rfl, hb, hrow⟩ := h.at_ h0
    have hx : ∀ i : Fin len, ∃ x : Sl, w.cell? ⟨b, o + i.1, none⟩ = some (.slice x.A x.len x.cap) ∧ x.Ok w 1 IsInt := by
      intro i
      obtain ⟨cs', hl, hr, hrd⟩ := hrow i.1 (by rw [h.size]; exact i.2)
      obtain ⟨A', len', cap', rfl, hs⟩ := hrd.slAt Try.underlying24 cellsInt (by decide)
      obtain ⟨rows, hr', hP⟩ := slAt_rows (P := IsInt) (fun cs d h => Rd.isInt h) hs
      refine ⟨⟨A', len', cap', rows⟩, ?_, ⟨hs.le, hs.wide, hr', hP⟩⟩
      have := hr 0 (by simp)
      simpa using this
    obtain ⟨f, hf⟩ := Classical.axiomOfChoice hx
    refine ⟨List.ofFn f, ⟨by simp, fun _ => ⟨b, o, rfl, hb, fun i hi => ?_⟩, ?_⟩⟩
    · have hi' : i < len := by simpa using hi
      rw [List.getElem_ofFn]
      exact (hf ⟨i, hi'⟩).1
    · intro s hs
      obtain ⟨i, rfl⟩ := List.mem_ofFn.1 hs
      exact (hf i).2

theorem Rd.rec {w : World} {cs : List Value} {d : DataW H} (h : Rd enc w 67 cs d) : ∃ x : RcV, cs = [.string x.nm, .slice x.A1 x.n1 x.c1, .slice x.A3 x.n3 x.c3] ∧ x.Ok w := by
  obtain ⟨f, ps, h⟩ := h
  obtain ⟨xs, m, _, hx, hl, hlen, hf⟩ := DataW.trod_struct Try.underlying67 h
  rw [cellsRec] at hl
  match cs, hl, xs, hlen with
  | [c0, c1, c2], _, [y0, y1, y2], _ =>
    have h0 : Rd enc w 9 [c0] y0.1 := ⟨m, y0.2, by simpa [cellsString] using hf 0 _ rfl⟩
    have h1 : Rd enc w 43 [c1] y1.1 := ⟨m, y1.2, by simpa [cellsString, show Try.prog.cellsOf 43 = 1 by kernel_rfl] using hf 1 _ rfl⟩
    have h2 : Rd enc w 65 [c2] y2.1 := ⟨m, y2.2, by simpa [cellsString, show Try.prog.cellsOf 43 = 1 by kernel_rfl, show Try.prog.cellsOf 65 = 1 by kernel_rfl] using hf 2 _ rfl⟩
    obtain ⟨s, e0, _⟩ := h0.string Try.underlying9
    obtain ⟨A1, n1, c1, e1, hs1⟩ := h1.slAt Try.underlying43 cellsShape (by decide)
    obtain ⟨A3, n3, c3, e2, hs3⟩ := h2.slAt Try.underlying65 cellsSlInt (by decide)
    obtain ⟨X, hX⟩ := slAt_shapes hs1
    obtain ⟨M, hM⟩ := slAt_sls hs3
    simp only [List.cons.injEq, and_true] at e0 e1 e2
    subst e0 e1 e2
    exact ⟨⟨s, A1, n1, c1, X, A3, n3, c3, M⟩, rfl, ⟨hs1.le, hs1.wide, hX, hs3.le, hs3.wide, hM⟩⟩

theorem slAt_rcs {w : World} {A : Option Addr} {len cap : Nat} {it : DataW H} (h : SlAt enc w 67 3 A len cap it) : ∃ R : List RcV, RcsAt w A len R := by
  rcases Nat.eq_zero_or_pos len with h0 | h0
  · subst h0
    exact ⟨[], ⟨rfl, fun h => absurd h (by omega), by simp⟩⟩
  · obtain ⟨b, o, rfl, hb, hrow⟩ := h.at_ h0
    have hx : ∀ i : Fin len, ∃ x : RcV, RowAt w b (o + i.1 * 3) [.string x.nm, .slice x.A1 x.n1 x.c1, .slice x.A3 x.n3 x.c3] ∧ x.Ok w := by
      intro i
      obtain ⟨cs', hl, hr, hrd⟩ := hrow i.1 (by rw [h.size]; exact i.2)
      obtain ⟨x, rfl, hok⟩ := hrd.rec
      exact ⟨x, hr, hok⟩
    obtain ⟨f, hf⟩ := Classical.axiomOfChoice hx
    refine ⟨List.ofFn f, ⟨by simp, fun _ => ⟨b, o, rfl, hb, fun i hi => ?_⟩, ?_⟩⟩
    · have hi' : i < len := by simpa using hi
      rw [List.getElem_ofFn]
      have hr := (hf ⟨i, hi'⟩).1
      exact ⟨hr 0 (by simp), hr 1 (by simp), hr 2 (by simp)⟩
    · intro s hs
      obtain ⟨i, rfl⟩ := List.mem_ofFn.1 hs
      exact (hf i).2
end
end Go.Proofs.Ytbkagjngckfonaa
