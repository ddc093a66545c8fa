/- Who may write what: 'Tr O O' w w'': from w to w' no block that was there turned but those of O; what O' has was in O or is new. -/
import Derived.Test.YtadcklijdbbkjaaGreatDoorOwn
namespace Go.Proofs.YtadcklijdbbkjaaGreatDoor
open Go.RowKit Go.ChangeShapes Go.WideShapes Go.Deep
set_option linter.unusedVariables false

structure Tr (O O' : Nat → Prop) (w w' : World) : Prop where
  os : w'.os = w.os
  tape : w'.tape = w.tape
  output : w'.output = w.output
  size : w.heap.size ≤ w'.heap.size
  block : ∀ k, k < w.heap.size → ¬ O k → w'.heap[k]? = w.heap[k]?
  fresh : ∀ k, O' k → O k ∨ w.heap.size ≤ k
section
variable {O O' O'' : Nat → Prop} {w w' w'' : World}
theorem Tr.refl (O : Nat → Prop) (w : World) : Tr O O w w := ⟨rfl, rfl, rfl, Nat.le_refl _, fun _ _ _ => rfl, fun _ h => Or.inl h⟩
theorem Tr.trans (h : Tr O O' w w') (k : Tr O' O'' w' w'') : Tr O O'' w w'' :=
  ⟨k.os.trans h.os, k.tape.trans h.tape, k.output.trans h.output, Nat.le_trans h.size k.size,
   fun i hi hn => (k.block i (Nat.lt_of_lt_of_le hi h.size) (fun ho => by rcases h.fresh i ho with h1 | h1; exact hn h1; omega)).trans (h.block i hi hn),
   fun i hi => by rcases k.fresh i hi with h1 | h1; exact h.fresh i h1; exact Or.inr (Nat.le_trans h.size h1)⟩
theorem Tr.of_below (O : Nat → Prop) (h : Below w.heap.size w w') : Tr O O w w' := ⟨h.os, h.tape, h.output, h.size, fun k hk _ => h.block k hk, fun _ h => Or.inl h⟩
theorem Tr.of_grown {row : Option Nat} (h : w.grownBy w' row) (hr : ∀ k, row = some k → O k) : Tr O O w w' :=
  ⟨h.os, h.tape, h.output, h.size, fun k hk hn => h.block k hk (fun e => hn (hr k e.symm)), fun _ h => Or.inl h⟩
theorem Tr.less (h : Tr O O' w w') (hl : ∀ k, O'' k → O' k ∨ w.heap.size ≤ k) : Tr O O'' w w' :=
  ⟨h.os, h.tape, h.output, h.size, h.block, fun k hk => by rcases hl k hk with h1 | h1; exact h.fresh k h1; exact Or.inr h1⟩
theorem Tr.more (h : Tr O O' w w') (hl : ∀ k, O k → O'' k) : Tr O'' O' w w' :=
  ⟨h.os, h.tape, h.output, h.size, fun k hk hn => h.block k hk (fun ho => hn (hl k ho)), fun k hk => by rcases h.fresh k hk with h1 | h1; exact Or.inl (hl k h1); exact Or.inr h1⟩
theorem Tr.below {base : Nat} (h : Tr O O' w w') (hO : ∀ k, O k → base ≤ k) (hb : base ≤ w.heap.size) : Below base w w' :=
  ⟨h.os, h.tape, h.output, h.size, fun k hk => h.block k (by omega) (fun ho => by have := hO k ho; omega)⟩
theorem Tr.new (h : Tr O O' w w') (hb : Below w'.heap.size w' w'') : Tr O O' w w'' := h.trans (Tr.of_below O' hb)
theorem Tr.alloc (h : Tr O O' w w') (o : Obj) : Tr O O' w (w'.alloc o) := h.new ((Below.refl _ _).alloc (Nat.le_refl _) _)
theorem Tr.drew (h : Tr O O' w w') : Tr O O' w w'.drew := h.new ((Below.refl _ _).drew)
theorem Tr.drewN (h : Tr O O' w w') (n : Nat) : Tr O O' w (w'.drewN n) := h.new ⟨rfl, rfl, rfl, Nat.le_refl _, fun _ _ => rfl⟩
theorem Tr.set (h : Tr O O' w w') {g j : Nat} (hg : O' g) (u : Value) : Tr O O' w (w'.setCell ⟨g, j, none⟩ u) :=
  h.trans (Tr.of_grown (grown_set w' g j u) (fun k e => by cases e; exact hg))
/-- A store into a block that was not there at the start. -/
theorem Tr.setNew (h : Tr O O' w w') {g j : Nat} (hg : w.heap.size ≤ g) (u : Value) : Tr O O' w (w'.setCell ⟨g, j, none⟩ u) :=
  ⟨h.os, h.tape, h.output, by simpa [World.setCell] using h.size, fun k hk hn => by rw [heap_setCell_other w' ⟨g, j, none⟩ k u (fun e => by simp at e; omega)]; exact h.block k hk hn, h.fresh⟩
theorem Tr.cell (h : Tr O O' w w') {g j : Nat} {u : Value} (hc : w.cell? ⟨g, j, none⟩ = some u) (hn : ¬ O g) : w'.cell? ⟨g, j, none⟩ = some u :=
  (World.cell?_of_block (a := ⟨g, j, none⟩) (h.block g (World.block_lt_of_cell? w _ hc) hn)).trans hc
theorem Tr.frozen (h : Tr O O' w w') {g j : Nat} (hg : g < w.heap.size) (hn : ¬ O g) : w'.frozen? ⟨g, j, none⟩ = w.frozen? ⟨g, j, none⟩ :=
  World.frozen?_of_block (a := ⟨g, j, none⟩) (h.block g hg hn)
theorem Tr.apart (h : Tr O O' w w') {g : Nat} (hg : g < w.heap.size) (hn : ¬ O g) : ¬ O' g := fun ho => by
  rcases h.fresh g ho with h1 | h1
  · exact hn h1
  · omega
end
end Go.Proofs.YtadcklijdbbkjaaGreatDoor
