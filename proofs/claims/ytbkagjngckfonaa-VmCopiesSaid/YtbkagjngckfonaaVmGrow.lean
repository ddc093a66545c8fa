/- What a loop leaves that appends to a row in a cell of a block of the call's own. -/
import Derived.Test.YtbkagjngckfonaaVmOwn
import Derived.Deep.RegionHeld3
import Derived.Deep.DeepCutAuto
namespace Go.Proofs.Ytbkagjngckfonaa
open Go.RowKit Go.ChangeShapes Go.WideShapes Go.Deep Go.ChangeAt Go.Shelf
set_option linter.unusedVariables false

/-- The builtin append of one element onto a row of the call's own: the run. -/
theorem run_own {α : Type} {K : Kit α} {ty : TypeId} {base bytes : Nat} {sl rt : TypeId} {i : TypeInfo} {z : Value} {w : World}
    (ht : Try.prog.underlying sl = some (.slice ty)) (hi : Try.prog.info? ty = some i) (hz : i.zero = some z) (hsize : i.size = K.k) (hby : i.bytes = bytes) (hzs : z.cells.size = K.k) (hsz : 0 < K.k)
    {v : Value} {X : List α} (hO : OwnAt K ty base w v X) (x : α) (cs : Array Value) (hcs : cs.toList = K.cells x) (hx : K.ok w x) (hfrom : ∀ b, K.uses x b → base ≤ b) (hap : ∀ b, K.uses x b → v.ownBlock ≠ some b)
    (hb : (X.length + 1) * bytes ≤ 140737488355328 ∧ X.length + 1 ≤ maxLen) (hbase : base ≤ w.heap.size) :
    ∃ v' w', (Builtin.append_ #[sl, sl] rt #[v, .slice (some ⟨w.heap.size, 0, none⟩) 1 1]).run Try.prog (w.alloc (.cells cs ty)) = .ok v' w' ∧ OwnAt K ty base w' v' (X ++ [x]) ∧ w.grownBy w' v.ownBlock ∧ (v'.ownBlock = v.ownBlock ∨ ∃ b, v'.ownBlock = some b ∧ w.heap.size ≤ b) := by
  have hbl : Below w.heap.size w (w.alloc (.cells cs ty)) := (Below.refl w.heap.size w).alloc (Nat.le_refl _) _
  have hA := hO.new hbl
  have hxA : K.ok (w.alloc (.cells cs ty)) x := K.kept _ _ _ none hx (grown_of_below hbl none) (fun b _ => by simp)
  obtain ⟨v', w', hr, h1, h2, _, h4⟩ := run_append_own_at (P := Try.prog) (w.alloc (.cells cs ty)) base sl rt ty i z K.k bytes ht hi hz hsize hby hzs hsz v X.length (X.map K.cells).flatten hA.row
    ⟨w.heap.size, 0, none⟩ 1 1 (K.cells x) (by rw [K.len]; omega) (cells_lit cs _ hcs) (K.one x) hb.2 hb.1 (Nat.le_trans hbase hbl.size)
  have hga : w.grownBy w' v.ownBlock := (grown_of_below hbl v.ownBlock).trans h2
  have hv' : v'.ownBlock = v.ownBlock ∨ ∃ b, v'.ownBlock = some b ∧ w.heap.size ≤ b := by
    rcases h4 with h4 | h4
    · exact Or.inl h4
    · exact Or.inr ⟨_, h4, by simp⟩
  refine ⟨v', w', hr, ⟨?_, ?_, ?_, ?_⟩, hga, hv'⟩
  · rw [List.map_append, List.flatten_append, List.length_append]
    simpa using h1
  · intro y hy
    rcases List.mem_append.1 hy with hy | hy
    · exact K.kept _ _ _ _ (hA.each y hy) h2 (hO.apart y hy)
    · obtain rfl : y = x := by simpa using hy
      exact K.kept _ _ _ _ hxA h2 hap
  · intro y hy
    rcases List.mem_append.1 hy with hy | hy
    · exact hO.from_ y hy
    · obtain rfl : y = x := by simpa using hy
      exact hfrom
  · intro y hy b hb
    have hy2 : K.ok w y ∧ v.ownBlock ≠ some b := by
      rcases List.mem_append.1 hy with hy | hy
      · exact ⟨hO.each y hy, hO.apart y hy b hb⟩
      · obtain rfl : y = x := by simpa using hy
        exact ⟨hx, hap b hb⟩
    rcases hv' with e | ⟨c, e, hc⟩
    · rw [e]; exact hy2.2
    · rw [e]
      intro e'
      have := K.lt _ _ _ hy2.1 hb
      have := Option.some.inj e'
      omega

/-- .. at a step of a region that draws. -/
theorem step_own {α : Type} {K : Kit α} {ty : TypeId} {base bytes : Nat} {sl : TypeId} {i : TypeInfo} {z : Value} {ops : Array Oper} {o : Oper} {act : Act} {KK : Act → World → Prop} {Q : Exit → Act → World → Prop} {E : Prop} {w : World} (hgd : o.guard = none) (s y : Operand)
    (ho : o.op = .call { callee := .builtin .append, args := #[s, y], argTypes := #[sl, sl] })
    (ht : Try.prog.underlying sl = some (.slice ty)) (hi : Try.prog.info? ty = some i) (hz : i.zero = some z) (hsize : i.size = K.k) (hby : i.bytes = bytes) (hzs : z.cells.size = K.k) (hsz : 0 < K.k)
    {v : Value} {X : List α} (hO : OwnAt K ty base w v X) (x : α) (cs : Array Value) (hcs : cs.toList = K.cells x) (hx : K.ok w x) (hfrom : ∀ b, K.uses x b → base ≤ b) (hap : ∀ b, K.uses x b → v.ownBlock ≠ some b)
    (hs : act.eval s = v) (hy : act.eval y = .slice (some ⟨w.heap.size, 0, none⟩) 1 1) (hb : (X.length + 1) * bytes ≤ 140737488355328 ∧ X.length + 1 ≤ maxLen) (hbase : base ≤ w.heap.size)
    (h : ∀ v' w', OwnAt K ty base w' v' (X ++ [x]) → w.grownBy w' v.ownBlock → KK (act.put o.dst v') w') :
    if Region.wanted o (yielded ops act.tmps) = true then Oper.wp Try.prog o act (w.alloc (.cells cs ty)) KK Q else E := by
  have hw : Region.wanted o (yielded ops act.tmps) = true := by simp [Region.wanted, hgd]
  rw [if_pos hw]
  obtain ⟨v', w', hr, h1, h2, _⟩ := run_own (rt := o.type) ht hi hz hsize hby hzs hsz hO x cs hcs hx hfrom hap hb hbase
  unfold Oper.wp execOp
  simp only [ho, resolve, invoke, builtin, Sem.run_bind, Sem.run_pure, Result.andThen_ok, List.map_toArray, List.map_cons, List.map_nil, hs, hy, hr]
  exact h v' w' h1 h2

theorem frozen_new (w : World) (cs : Array Value) (T : TypeId) (j : Nat) : (w.alloc (.cells cs T)).frozen? ⟨w.heap.size, j, none⟩ = false := by simp
theorem grown_set (w : World) (g j : Nat) (u : Value) : w.grownBy (w.setCell ⟨g, j, none⟩ u) (some g) :=
  ⟨rfl, rfl, rfl, by simp, fun k _ hk => heap_setCell_other w ⟨g, j, none⟩ k u (fun e => hk (by simp [e]))⟩
theorem set_other {w : World} {p j i : Nat} {u v : Value} (h : w.cell? ⟨p, i, none⟩ = some v) (hne : i ≠ j) : (w.setCell ⟨p, j, none⟩ u).cell? ⟨p, i, none⟩ = some v := by
  have h1 : (⟨p, j, none⟩ : Addr) ≠ ⟨p, i, none⟩ := by intro e; cases e; exact hne rfl
  exact (World.cell?_setCell_other (h := h1) ..).trans h
theorem set_same {w : World} {p i : Nat} {u v : Value} (h : w.cell? ⟨p, i, none⟩ = some v) : (w.setCell ⟨p, i, none⟩ u).cell? ⟨p, i, none⟩ = some u := World.cell?_setCell_same (h := h) ..

/-- Behind k rounds: the row in cell j of block p holds k elements, each as the list's. -/
structure Grow {α β : Type} (K : Kit α) (T : TypeId) (S : α → β → Prop) (L : List β) (wc : World) (p j k : Nat) (wr : World) (v : Value) (Y : List α) : Prop where
  grow : wc.grownBy wr (some p)
  own : OwnAt K T wc.heap.size wr v Y
  len : Y.length = k
  same : ∀ i, (h : i < Y.length) → (h' : i < L.length) → S Y[i] L[i]
  cell : wr.cell? ⟨p, j, none⟩ = some v
  frz : ∀ o, wr.frozen? ⟨p, o, none⟩ = false
  oth : ∀ i u, i ≠ j → wc.cell? ⟨p, i, none⟩ = some u → wr.cell? ⟨p, i, none⟩ = some u
section
variable {α β : Type} {K : Kit α} {T : TypeId} {S : α → β → Prop} {L : List β} {wc wr wq w7 : World} {p j k : Nat} {v v' : Value} {Y : List α} {x : α}
theorem Grow.start (hc : wc.cell? ⟨p, j, none⟩ = some (.slice none 0 0)) (hf : ∀ o, wc.frozen? ⟨p, o, none⟩ = false) : Grow K T S L wc p j 0 wc (.slice none 0 0) [] :=
  ⟨⟨rfl, rfl, rfl, Nat.le_refl _, fun _ _ _ => rfl⟩, OwnAt.start K T _ wc, rfl, fun i h => by simp at h, hc, hf, fun _ _ _ h => h⟩
theorem Grow.blk (h : Grow K T S L wc p j k wr v Y) (hp : p < wc.heap.size) (hq : Below wr.heap.size wr wq) (hg : wq.grownBy w7 v.ownBlock) : w7.heap[p]? = wr.heap[p]? := by
  have hpr : p < wr.heap.size := Nat.lt_of_lt_of_le hp h.grow.size
  have h1 := hq.block p hpr
  have h2 := hg.block p (Nat.lt_of_lt_of_le hpr hq.size) (fun e => by
    have := (h.own.row.lt p e.symm).1
    omega)
  exact h2.trans h1
theorem Grow.grow7 (h : Grow K T S L wc p j k wr v Y) (hq : Below wr.heap.size wr wq) (hg : wq.grownBy w7 v.ownBlock) : wc.grownBy w7 (some p) :=
  ⟨hg.os.trans (hq.os.trans h.grow.os), hg.tape.trans (hq.tape.trans h.grow.tape), hg.output.trans (hq.output.trans h.grow.output), Nat.le_trans h.grow.size (Nat.le_trans hq.size hg.size), fun b hb hne => by
    have hbr : b < wr.heap.size := Nat.lt_of_lt_of_le hb h.grow.size
    have h2 := hg.block b (Nat.lt_of_lt_of_le hbr hq.size) (fun e => by
      have := (h.own.row.lt b e.symm).1
      omega)
    exact h2.trans ((hq.block b hbr).trans (h.grow.block b hb hne))⟩
theorem Grow.cell7 (h : Grow K T S L wc p j k wr v Y) (hp : p < wc.heap.size) (hq : Below wr.heap.size wr wq) (hg : wq.grownBy w7 v.ownBlock) (i : Nat) : w7.cell? ⟨p, i, none⟩ = wr.cell? ⟨p, i, none⟩ := World.cell?_of_block (a := ⟨p, i, none⟩) (h.blk hp hq hg)
theorem Grow.frz7 (h : Grow K T S L wc p j k wr v Y) (hp : p < wc.heap.size) (hq : Below wr.heap.size wr wq) (hg : wq.grownBy w7 v.ownBlock) (i : Nat) : w7.frozen? ⟨p, i, none⟩ = false := (World.frozen?_of_block (a := ⟨p, i, none⟩) (h.blk hp hq hg)).trans (h.frz i)
theorem Grow.step (h : Grow K T S L wc p j k wr v Y) (hp : p < wc.heap.size) (hq : Below wr.heap.size wr wq) (hO : OwnAt K T wc.heap.size w7 v' (Y ++ [x])) (hg : wq.grownBy w7 v.ownBlock) (hk : k < L.length) (hx : S x L[k]) :
    Grow K T S L wc p j (k + 1) (w7.setCell ⟨p, j, none⟩ v') v' (Y ++ [x]) := by
  have hc : w7.cell? ⟨p, j, none⟩ = some v := (h.cell7 hp hq hg j).trans h.cell
  refine ⟨(h.grow7 hq hg).trans (grown_set _ _ _ _), hO.other (grown_set _ _ _ _) hp, by simp [h.len], ?_, set_same hc, fun o => ?_, fun i u hi hu => ?_⟩
  · intro i hi hi'
    by_cases hik : i < Y.length
    · rw [List.getElem_append_left hik]
      exact h.same i hik hi'
    · have hie : i = k := by
        have := h.len
        simp only [List.length_append, List.length_cons, List.length_nil] at hi
        omega
      subst hie
      rw [List.getElem_append_right (by omega)]
      simpa using hx
  · rw [World.frozen?_setCell]
    exact h.frz7 hp hq hg o
  · exact set_other ((h.cell7 hp hq hg i).trans (h.oth i u hi hu)) hi
end
end Go.Proofs.Ytbkagjngckfonaa
