/- Rows of the call's own (out of XTree, without the trees). -/
import Derived.Test.YtadcklijdbbkjaaGreatDoorMem
import Derived.Maps.AppendAt
import Derived.Deep.Draws
import Derived.Deep.RegionHeld3
namespace Go.Proofs.YtadcklijdbbkjaaGreatDoor
open Go.RowKit Go.ChangeShapes Go.WideShapes Go.Deep
set_option linter.unusedVariables false

theorem cell_new (w : World) (cs : Array Value) (t : TypeId) (j : Nat) : (w.alloc (.cells cs t)).cell? ⟨w.heap.size, j, none⟩ = cs[j]? := by
  have : (w.alloc (.cells cs t)).heap[w.heap.size]? = some (.cells cs t) := (MapKept.heap_alloc w _).1
  unfold World.cell?
  rw [this]
  simp
theorem below_drewN {B : Nat} {a w : World} (h : Below B a w) (n : Nat) : Below B a (w.drewN n) := ⟨h.os, h.tape, h.output, h.size, h.block⟩
theorem grown_of_below {w w' : World} (hb : Below w.heap.size w w') (row : Option Nat) : w.grownBy w' row := ⟨hb.os, hb.tape, hb.output, hb.size, fun i hi _ => hb.block i hi⟩
theorem cells_lit {w : World} {e : TypeId} (cs : Array Value) (news : List Value) (hx : cs.toList = news) :
    ∀ j u, news[j]? = some u → (w.alloc (.cells cs e)).cell? (Addr.add ⟨w.heap.size, 0, none⟩ j) = some u := by
  intro j u hj
  have h1 : (Addr.add ⟨w.heap.size, 0, none⟩ j) = ⟨w.heap.size, j, none⟩ := by unfold Addr.add; by_cases h0 : j = 0 <;> simp [h0]
  rw [h1, cell_new]
  subst hx
  simpa using hj
theorem flatten_at {k : Nat} : (C : List (List Value)) → (∀ c ∈ C, c.length = k) → (i : Nat) → (hi : i < C.length) → (j : Nat) → j < k → C.flatten[i * k + j]? = C[i][j]?
  | c :: C, hk, 0, _, j, hj => by
    have h0 := hk c (by simp)
    simp only [List.flatten_cons, Nat.zero_mul, Nat.zero_add, List.getElem_cons_zero]
    exact List.getElem?_append_left (by omega)
  | c :: C, hk, i + 1, hi, j, hj => by
    have h0 := hk c (by simp)
    have h := flatten_at C (fun x hx => hk x (by simp [hx])) i (by simpa using hi) j hj
    simp only [List.flatten_cons, List.getElem_cons_succ]
    rw [List.getElem?_append_right (by rw [h0, Nat.add_mul]; omega), ← h]
    congr 1
    rw [h0, Nat.add_mul]
    omega
/-- A slice of so many elements, k cells each. -/
structure RowsF (w : World) (A : Option Addr) (len k : Nat) (C : List (List Value)) : Prop where
  size : C.length = len
  at_ : 0 < len → ∃ b o, A = some ⟨b, o, none⟩ ∧ b < w.heap.size ∧ ∀ i, (h : i < C.length) → C[i].length = k ∧ RowAt w b (o + i * k) C[i]
theorem RowsF.below {w w' : World} {A : Option Addr} {len k : Nat} {C : List (List Value)} (h : RowsF w A len k C) (hb : Below w.heap.size w w') : RowsF w' A len k C :=
  ⟨h.size, fun h0 => by
    obtain ⟨b, o, rfl, hl, hc⟩ := h.at_ h0
    exact ⟨b, o, rfl, Nat.lt_of_lt_of_le hl hb.size, fun i hi => ⟨(hc i hi).1, (hc i hi).2.below hb hl⟩⟩⟩
theorem RowsF.drewN {w : World} {A : Option Addr} {len k : Nat} {C : List (List Value)} (h : RowsF w A len k C) (n : Nat) : RowsF (w.drewN n) A len k C := h.below (below_drewN (Below.refl _ _) n)
theorem ownsRow_form {w : World} {base : Nat} {t : TypeId} {k : Nat} {v : Value} {n : Nat} {C : List (List Value)} (h : w.ownsRow base t k v n C.flatten) (hn : C.length = n) (hk : ∀ c ∈ C, c.length = k) :
    ∃ A cap, v = .slice A n cap ∧ n ≤ cap ∧ cap ≤ maxLen ∧ RowsF w A n k C ∧ ∀ a, A = some a → base ≤ a.block := by
  rcases h.2 with ⟨rfl, h0⟩ | ⟨g, cap, cur, hv, hg, hh, h1, h2, _⟩
  · subst h0
    exact ⟨none, 0, rfl, by simp, by unfold maxLen; omega, ⟨hn, fun h => absurd h (by simp)⟩, fun a ha => by cases ha⟩
  · have hrow := h
    rw [hv] at hrow
    refine ⟨some ⟨g, 0, none⟩, cap, hv, h1, h2, ⟨hn, fun h0 => ⟨g, 0, rfl, (Array.getElem?_eq_some_iff.1 hh).1, fun i hi => ⟨hk _ (List.getElem_mem hi), ?_⟩⟩⟩, fun a ha => by cases ha; exact hg⟩
    intro j hj
    rw [hk _ (List.getElem_mem hi)] at hj
    rw [Nat.zero_add, ← flatten_at C hk i hi j hj]
    refine hrow.cellAt (i * k + j) ?_
    rw [← hn]
    have h1 : i * k + k ≤ C.length * k := by rw [← Nat.succ_mul]; exact Nat.mul_le_mul_right k hi
    omega
/-- A kind of element: its type, its cells, what must hold of it, which blocks it lies in. -/
structure Kit (α : Type) where
  k : Nat
  cells : α → List Value
  len : ∀ x, (cells x).length = k
  one : ∀ x, ∀ u ∈ cells x, u.oneCell' = true
  ok : World → α → Prop
  uses : α → Nat → Prop
  lt : ∀ w x b, ok w x → uses x b → b < w.heap.size
  kept : ∀ w w' x row, ok w x → w.grownBy w' row → (∀ b, uses x b → row ≠ some b) → ok w' x

structure OwnAt {α : Type} (K : Kit α) (ty : TypeId) (base : Nat) (w : World) (v : Value) (X : List α) : Prop where
  row : w.ownsRow base ty K.k v X.length (X.map K.cells).flatten
  each : ∀ x ∈ X, K.ok w x
  from_ : ∀ x ∈ X, ∀ b, K.uses x b → base ≤ b
  apart : ∀ x ∈ X, ∀ b, K.uses x b → v.ownBlock ≠ some b
section
variable {α : Type} {K : Kit α} {ty : TypeId} {base : Nat}
theorem OwnAt.start (K : Kit α) (ty : TypeId) (base : Nat) (w : World) : OwnAt K ty base w (.slice none 0 0) [] := ⟨World.ownsRow_nil _ _ _ _, by simp, by simp, by simp⟩
theorem OwnAt.grown {w w' : World} {v : Value} {X : List α} {row : Option Nat} (h : OwnAt K ty base w v X) (hg : w.grownBy w' row) (hv : v.ownBlock = none ∨ v.ownBlock ≠ row) (hx : ∀ x ∈ X, ∀ b, K.uses x b → row ≠ some b) : OwnAt K ty base w' v X :=
  ⟨h.row.kept hg hv, fun x hx' => K.kept _ _ _ _ (h.each x hx') hg (hx x hx'), h.from_, h.apart⟩
theorem OwnAt.new {w w' : World} {v : Value} {X : List α} (h : OwnAt K ty base w v X) (hb : Below w.heap.size w w') : OwnAt K ty base w' v X :=
  h.grown (grown_of_below hb none) (by cases v.ownBlock <;> simp) (fun x hx b hb => by simp)
/-- Another block is written to, below the base. -/
theorem OwnAt.other {w w' : World} {v : Value} {X : List α} {g : Nat} (h : OwnAt K ty base w v X) (hg : w.grownBy w' (some g)) (hlt : g < base) : OwnAt K ty base w' v X := by
  refine h.grown hg ?_ ?_
  · cases hv : v.ownBlock with
    | none => exact Or.inl rfl
    | some b =>
      right
      intro e
      have := (h.row.lt b hv).1
      have := Option.some.inj e
      omega
  · intro x hx b hb e
    have := h.from_ x hx b hb
    have := Option.some.inj e
    omega
theorem OwnAt.free {w : World} {v : Value} {X : List α} (h : OwnAt K ty base w v X) {b : Nat} (hk : w.heap.size ≤ b) : v.ownBlock ≠ some b := by
  intro e
  have := (h.row.lt b e).2
  omega
theorem OwnAt.form {w : World} {v : Value} {X : List α} (h : OwnAt K ty base w v X) : ∃ A cap, v = .slice A X.length cap ∧ X.length ≤ cap ∧ cap ≤ maxLen ∧ RowsF w A X.length K.k (X.map K.cells) ∧ ∀ a, A = some a → base ≤ a.block :=
  ownsRow_form h.row (by simp) (fun c hc => by obtain ⟨x, _, rfl⟩ := List.mem_map.1 hc; exact K.len x)
end

theorem cells_litC {w : World} {e : TypeId} (cs : Array Value) (news : List Value) (hx : cs.toList = news) :
    ∀ j u, news[j]? = some u → (w.alloc (.cells cs e)).cell? (Addr.add ⟨w.heap.size, 0, none⟩ j) = some u := cells_lit cs news hx

/-- 'append(s, x)' of one element onto a row of the call's own. -/
theorem wpList_own {α : Type} {K : Kit α} {ty : TypeId} {base bytes : Nat} {sl : TypeId} {i : TypeInfo} {z : Value} {ops : Array Oper} {rest : List Oper} {o : Oper} {act : Act} {Q : Exit → Act → World → Prop} {w : World} (hgd : o.guard = none) (s y : Operand)
    (ho : o.op = .call { callee := .builtin .append, args := #[s, y], argTypes := #[sl, sl] })
    (ht : Tryz.prog.underlying sl = some (.slice ty)) (hi : Tryz.prog.info? ty = some i) (hz : i.zero = some z) (hsize : i.size = K.k) (hby : i.bytes = bytes) (hzs : z.cells.size = K.k) (hsz : 0 < K.k)
    {v : Value} {X : List α} (hO : OwnAt K ty base w v X) (x : α) (cs : Array Value) (hcs : cs.toList = K.cells x) (hx : K.ok w x) (hfrom : ∀ b, K.uses x b → base ≤ b) (hap : ∀ b, K.uses x b → v.ownBlock ≠ some b)
    (hs : act.eval s = v) (hy : act.eval y = .slice (some ⟨w.heap.size, 0, none⟩) 1 1) (hb : (X.length + 1) * bytes ≤ 140737488355328 ∧ X.length + 1 ≤ maxLen) (hbase : base ≤ w.heap.size)
    (h : ∀ v' w', OwnAt K ty base w' v' (X ++ [x]) → w.grownBy w' v.ownBlock → (v'.ownBlock = v.ownBlock ∨ ∃ b, v'.ownBlock = some b ∧ w.heap.size ≤ b) → wpList Tryz.prog ops Q rest (act.put o.dst v') w') : wpList Tryz.prog ops Q (o :: rest) act (w.alloc (.cells cs ty)) := by
  have hbl : Below w.heap.size w (w.alloc (.cells cs ty)) := (Below.refl w.heap.size w).alloc (Nat.le_refl _) _
  have hA := hO.new hbl
  have hxA : K.ok (w.alloc (.cells cs ty)) x := K.kept _ _ _ none hx (grown_of_below hbl none) (fun b _ => by simp)
  refine wpList_append_own_at _ hgd s y sl ho base ty i z K.k bytes ht hi hz hsize hby hzs hsz v X.length (X.map K.cells).flatten hs hA.row
    ⟨w.heap.size, 0, none⟩ 1 1 (K.cells x) hy (by rw [K.len]; omega) (cells_lit cs _ hcs) (K.one x) hb.2 hb.1 (Nat.le_trans hbase hbl.size) ?_
  intro v' w' h1 h2 _ h4
  have hga : w.grownBy w' v.ownBlock := (grown_of_below hbl v.ownBlock).trans h2
  have hv' : v'.ownBlock = v.ownBlock ∨ ∃ b, v'.ownBlock = some b ∧ w.heap.size ≤ b := by
    rcases h4 with h4 | h4
    · exact Or.inl h4
    · exact Or.inr ⟨_, h4, by simp⟩
  refine h v' w' ⟨?_, ?_, ?_, ?_⟩ hga hv'
  · rw [List.map_append, List.flatten_append, List.length_append]
    simpa using h1
  · intro y hy
    rcases List.mem_append.1 hy with hy | hy
    · exact K.kept _ _ _ _ (hA.each y hy) h2 (hO.apart y hy)
    · obtain rfl : y = x := by simpa using hy
      exact K.kept _ _ _ _ hxA h2 hap
  · intro y hy
    rcases List.mem_append.1 hy with hy | hy
    · exact hO.from_ y hy
    · obtain rfl : y = x := by simpa using hy
      exact hfrom
  · intro y hy b hb
    have hy2 : K.ok w y ∧ v.ownBlock ≠ some b := by
      rcases List.mem_append.1 hy with hy | hy
      · exact ⟨hO.each y hy, hO.apart y hy b hb⟩
      · obtain rfl : y = x := by simpa using hy
        exact ⟨hx, hap b hb⟩
    rcases hv' with e | ⟨c, e, hc⟩
    · rw [e]; exact hy2.2
    · rw [e]
      intro e'
      have := K.lt _ _ _ hy2.1 hb
      have := Option.some.inj e'
      omega

def inSl (A : Option Addr) (len : Nat) (b : Nat) : Prop := ∃ a, A = some a ∧ 0 < len ∧ a.block = b
theorem RowsF.grown {w w' : World} {A : Option Addr} {len k : Nat} {C : List (List Value)} {row : Option Nat} (h : RowsF w A len k C) (hg : w.grownBy w' row) (hne : ∀ b, inSl A len b → row ≠ some b) : RowsF w' A len k C :=
  ⟨h.size, fun h0 => by
    obtain ⟨b, o, rfl, hl, hc⟩ := h.at_ h0
    have hb : w'.heap[b]? = w.heap[b]? := hg.block b hl (fun e => hne b ⟨_, rfl, h0, rfl⟩ e.symm)
    exact ⟨b, o, rfl, Nat.lt_of_lt_of_le hl hg.size, fun i hi => ⟨(hc i hi).1, fun j hj => by rw [World.cell?_of_block (a := ⟨b, _, none⟩) hb]; exact (hc i hi).2 j hj⟩⟩⟩
theorem RowsF.lt {w : World} {A : Option Addr} {len k : Nat} {C : List (List Value)} (h : RowsF w A len k C) {b : Nat} (hb : inSl A len b) : b < w.heap.size := by
  obtain ⟨a, rfl, h0, rfl⟩ := hb
  obtain ⟨b, o, e, hl, _⟩ := h.at_ h0
  cases e
  exact hl
/-- The builtin append of one element onto a row of the call's own: the run. -/
theorem run_own {α : Type} {K : Kit α} {ty : TypeId} {base bytes : Nat} {sl rt : TypeId} {i : TypeInfo} {z : Value} {w : World}
    (ht : Tryz.prog.underlying sl = some (.slice ty)) (hi : Tryz.prog.info? ty = some i) (hz : i.zero = some z) (hsize : i.size = K.k) (hby : i.bytes = bytes) (hzs : z.cells.size = K.k) (hsz : 0 < K.k)
    {v : Value} {X : List α} (hO : OwnAt K ty base w v X) (x : α) (cs : Array Value) (hcs : cs.toList = K.cells x) (hx : K.ok w x) (hfrom : ∀ b, K.uses x b → base ≤ b) (hap : ∀ b, K.uses x b → v.ownBlock ≠ some b)
    (hb : (X.length + 1) * bytes ≤ 140737488355328 ∧ X.length + 1 ≤ maxLen) (hbase : base ≤ w.heap.size) :
    ∃ v' w', (Builtin.append_ #[sl, sl] rt #[v, .slice (some ⟨w.heap.size, 0, none⟩) 1 1]).run Tryz.prog (w.alloc (.cells cs ty)) = .ok v' w' ∧ OwnAt K ty base w' v' (X ++ [x]) ∧ w.grownBy w' v.ownBlock ∧ (v'.ownBlock = v.ownBlock ∨ ∃ b, v'.ownBlock = some b ∧ w.heap.size ≤ b) := by
  have hbl : Below w.heap.size w (w.alloc (.cells cs ty)) := (Below.refl w.heap.size w).alloc (Nat.le_refl _) _
  have hA := hO.new hbl
  have hxA : K.ok (w.alloc (.cells cs ty)) x := K.kept _ _ _ none hx (grown_of_below hbl none) (fun b _ => by simp)
  obtain ⟨v', w', hr, h1, h2, _, h4⟩ := run_append_own_at (P := Tryz.prog) (w.alloc (.cells cs ty)) base sl rt ty i z K.k bytes ht hi hz hsize hby hzs hsz v X.length (X.map K.cells).flatten hA.row
    ⟨w.heap.size, 0, none⟩ 1 1 (K.cells x) (by rw [K.len]; omega) (cells_lit cs _ hcs) (K.one x) hb.2 hb.1 (Nat.le_trans hbase hbl.size)
  have hga : w.grownBy w' v.ownBlock := (grown_of_below hbl v.ownBlock).trans h2
  have hv' : v'.ownBlock = v.ownBlock ∨ ∃ b, v'.ownBlock = some b ∧ w.heap.size ≤ b := by
    rcases h4 with h4 | h4
    · exact Or.inl h4
    · exact Or.inr ⟨_, h4, by simp⟩
  refine ⟨v', w', hr, ⟨?_, ?_, ?_, ?_⟩, hga, hv'⟩
  · rw [List.map_append, List.flatten_append, List.length_append]
    simpa using h1
  · intro y hy
    rcases List.mem_append.1 hy with hy | hy
    · exact K.kept _ _ _ _ (hA.each y hy) h2 (hO.apart y hy)
    · obtain rfl : y = x := by simpa using hy
      exact K.kept _ _ _ _ hxA h2 hap
  · intro y hy
    rcases List.mem_append.1 hy with hy | hy
    · exact hO.from_ y hy
    · obtain rfl : y = x := by simpa using hy
      exact hfrom
  · intro y hy b hb
    have hy2 : K.ok w y ∧ v.ownBlock ≠ some b := by
      rcases List.mem_append.1 hy with hy | hy
      · exact ⟨hO.each y hy, hO.apart y hy b hb⟩
      · obtain rfl : y = x := by simpa using hy
        exact ⟨hx, hap b hb⟩
    rcases hv' with e | ⟨c, e, hc⟩
    · rw [e]; exact hy2.2
    · rw [e]
      intro e'
      have := K.lt _ _ _ hy2.1 hb
      have := Option.some.inj e'
      omega

/-- .. at a step of a region that draws. -/
theorem step_own {α : Type} {K : Kit α} {ty : TypeId} {base bytes : Nat} {sl : TypeId} {i : TypeInfo} {z : Value} {ops : Array Oper} {o : Oper} {act : Act} {KK : Act → World → Prop} {Q : Exit → Act → World → Prop} {E : Prop} {w : World} (hgd : o.guard = none) (s y : Operand)
    (ho : o.op = .call { callee := .builtin .append, args := #[s, y], argTypes := #[sl, sl] })
    (ht : Tryz.prog.underlying sl = some (.slice ty)) (hi : Tryz.prog.info? ty = some i) (hz : i.zero = some z) (hsize : i.size = K.k) (hby : i.bytes = bytes) (hzs : z.cells.size = K.k) (hsz : 0 < K.k)
    {v : Value} {X : List α} (hO : OwnAt K ty base w v X) (x : α) (cs : Array Value) (hcs : cs.toList = K.cells x) (hx : K.ok w x) (hfrom : ∀ b, K.uses x b → base ≤ b) (hap : ∀ b, K.uses x b → v.ownBlock ≠ some b)
    (hs : act.eval s = v) (hy : act.eval y = .slice (some ⟨w.heap.size, 0, none⟩) 1 1) (hb : (X.length + 1) * bytes ≤ 140737488355328 ∧ X.length + 1 ≤ maxLen) (hbase : base ≤ w.heap.size)
    (h : ∀ v' w', OwnAt K ty base w' v' (X ++ [x]) → w.grownBy w' v.ownBlock → (v'.ownBlock = v.ownBlock ∨ ∃ b, v'.ownBlock = some b ∧ w.heap.size ≤ b) → KK (act.put o.dst v') w') :
    if Region.wanted o (yielded ops act.tmps) = true then Oper.wp Tryz.prog o act (w.alloc (.cells cs ty)) KK Q else E := by
  have hw : Region.wanted o (yielded ops act.tmps) = true := by simp [Region.wanted, hgd]
  rw [if_pos hw]
  obtain ⟨v', w', hr, h1, h2, h3⟩ := run_own (rt := o.type) ht hi hz hsize hby hzs hsz hO x cs hcs hx hfrom hap hb hbase
  unfold Oper.wp execOp
  simp only [ho, resolve, invoke, builtin, Sem.run_bind, Sem.run_pure, Result.andThen_ok, List.map_toArray, List.map_cons, List.map_nil, hs, hy, hr]
  exact h v' w' h1 h2 h3

theorem frozen_new (w : World) (cs : Array Value) (T : TypeId) (j : Nat) : (w.alloc (.cells cs T)).frozen? ⟨w.heap.size, j, none⟩ = false := by simp
theorem grown_set (w : World) (g j : Nat) (u : Value) : w.grownBy (w.setCell ⟨g, j, none⟩ u) (some g) :=
  ⟨rfl, rfl, rfl, by simp, fun k _ hk => heap_setCell_other w ⟨g, j, none⟩ k u (fun e => hk (by simp [e]))⟩
theorem set_other {w : World} {p j i : Nat} {u v : Value} (h : w.cell? ⟨p, i, none⟩ = some v) (hne : i ≠ j) : (w.setCell ⟨p, j, none⟩ u).cell? ⟨p, i, none⟩ = some v := by
  have h1 : (⟨p, j, none⟩ : Addr) ≠ ⟨p, i, none⟩ := by intro e; cases e; exact hne rfl
  exact (World.cell?_setCell_other (h := h1) ..).trans h
theorem set_same {w : World} {p i : Nat} {u v : Value} (h : w.cell? ⟨p, i, none⟩ = some v) : (w.setCell ⟨p, i, none⟩ u).cell? ⟨p, i, none⟩ = some u := World.cell?_setCell_same (h := h) ..


end Go.Proofs.YtadcklijdbbkjaaGreatDoor
