/- What code.check and grafteryref.exprFault answer of an expression's tree. -/
import Derived.Test.YtlgnaopaeapbfaaDoorClone
namespace Go.Proofs.YtlgnaopaeapbfaaDoor
open Go.RowKit Go.ChangeShapes Go.WideShapes Go.Deep Go.ChangeAt
set_option linter.unusedVariables false

/-- Is an argument within the expression's own names? -/
def inB2 (k : Int) (i n : Nat) : Bool := decide (k = 6) || (decide (k = 5) && decide (i + 1 = n))

/-- What is wrong with an expression, within a scope. -/
def exprF : (n : Nat) → Tr n → List ByteArray → Int → Int
  | 0, _, _, _ => 0
  | n + 1, x, sc, o =>
    if x.1.kind < 1 ∨ 15 < x.1.kind then 3
    else if countB x.1.kind x.2.length x.1.S x.1.names = false then 10
    else if namedB x.1.kind x.1.N x.1.S x.1.names sc = false then 6
    else if (x.1.kind = 1 ∧ x.1.df ≠ 0) ∨ (x.1.kind = 15 ∧ (x.1.N < 0 ∨ o ≤ x.1.N)) then 4
    else if 0 ≤ o ∧ x.1.kind ≠ 1 ∧ x.1.kind ≠ 4 ∧ x.1.kind ≠ 10 ∧ x.1.kind ≠ 15 then 15
    else firstErr (x.2.zipIdx.map fun p => if inB2 x.1.kind p.2 x.2.length then (if 40 < sc.length + x.1.names.length then 1 else exprF n p.1 (sc ++ x.1.names) o) else exprF n p.1 sc o)

/-- The same of one argument. -/
def argF {n : Nat} (x : Tr (n + 1)) (sc : List ByteArray) (o : Int) (i : Nat) (hi : i < x.2.length) : Int :=
  if inB2 x.1.kind i x.2.length then (if 40 < sc.length + x.1.names.length then 1 else exprF n x.2[i] (sc ++ x.1.names) o) else exprF n x.2[i] sc o

section
variable {n : Nat} {x : Tr (n + 1)} {sc : List ByteArray} {o : Int}
theorem exprF_kind (h : x.1.kind < 1 ∨ 15 < x.1.kind) : exprF (n + 1) x sc o = 3 := by
  unfold exprF; rw [if_pos h]
theorem exprF_count (h : ¬ (x.1.kind < 1 ∨ 15 < x.1.kind)) (hc : countB x.1.kind x.2.length x.1.S x.1.names = false) : exprF (n + 1) x sc o = 10 := by
  unfold exprF; rw [if_neg h, if_pos hc]
/-- It is of a kind, of so many arguments, with such names. -/
structure Fine (x : Tr (n + 1)) (sc : List ByteArray) : Prop where
  kind : ¬ (x.1.kind < 1 ∨ 15 < x.1.kind)
  count : countB x.1.kind x.2.length x.1.S x.1.names = true
  named : namedB x.1.kind x.1.N x.1.S x.1.names sc = true
theorem exprF_named (h : ¬ (x.1.kind < 1 ∨ 15 < x.1.kind)) (hc : countB x.1.kind x.2.length x.1.S x.1.names = true) (hn : namedB x.1.kind x.1.N x.1.S x.1.names sc = false) : exprF (n + 1) x sc o = 6 := by
  unfold exprF; rw [if_neg h, if_neg (by rw [hc]; simp), if_pos hn]
theorem exprF_form (f : Fine x sc) (h : (x.1.kind = 1 ∧ x.1.df ≠ 0) ∨ (x.1.kind = 15 ∧ (x.1.N < 0 ∨ o ≤ x.1.N))) : exprF (n + 1) x sc o = 4 := by
  unfold exprF; rw [if_neg f.kind, if_neg (by rw [f.count]; simp), if_neg (by rw [f.named]; simp), if_pos h]
theorem exprF_pure (f : Fine x sc) (h : 0 ≤ o ∧ x.1.kind ≠ 1 ∧ x.1.kind ≠ 4 ∧ x.1.kind ≠ 10 ∧ x.1.kind ≠ 15) : exprF (n + 1) x sc o = 15 := by
  unfold exprF; rw [if_neg f.kind, if_neg (by rw [f.count]; simp), if_neg (by rw [f.named]; simp), if_neg (by omega), if_pos h]
/-- Nothing is wrong with what is its own. -/
structure Own (x : Tr (n + 1)) (sc : List ByteArray) (o : Int) : Prop extends Fine x sc where
  form : ¬ ((x.1.kind = 1 ∧ x.1.df ≠ 0) ∨ (x.1.kind = 15 ∧ (x.1.N < 0 ∨ o ≤ x.1.N)))
  pure_ : ¬ (0 ≤ o ∧ x.1.kind ≠ 1 ∧ x.1.kind ≠ 4 ∧ x.1.kind ≠ 10 ∧ x.1.kind ≠ 15)
theorem exprF_args (f : Own x sc o) : exprF (n + 1) x sc o = firstErr (x.2.zipIdx.map fun p => if inB2 x.1.kind p.2 x.2.length then (if 40 < sc.length + x.1.names.length then 1 else exprF n p.1 (sc ++ x.1.names) o) else exprF n p.1 sc o) := by
  rw [exprF, if_neg f.kind, if_neg (by rw [f.count]; simp), if_neg (by rw [f.named]; simp), if_neg f.form, if_neg f.pure_]
theorem exprF_zero (f : Own x sc o) (h : ∀ i, (hi : i < x.2.length) → argF x sc o i hi = 0) : exprF (n + 1) x sc o = 0 := by
  rw [exprF_args f]
  refine firstErr_zero fun e he => ?_
  obtain ⟨p, hp, rfl⟩ := List.mem_map.1 he
  obtain ⟨i, hi, rfl⟩ := List.mem_iff_getElem.1 hp
  have hi' : i < x.2.length := by simpa using hi
  have := h i hi'
  unfold argF at this
  simpa using this
theorem exprF_at (f : Own x sc o) {i : Nat} (hi : i < x.2.length) (h : ∀ j, (hj : j < i) → argF x sc o j (Nat.lt_trans hj hi) = 0) (hn : argF x sc o i hi ≠ 0) : exprF (n + 1) x sc o = argF x sc o i hi := by
  rw [exprF_args f]
  have hg : ∀ j, (hj : j < (x.2.zipIdx.map fun p => if inB2 x.1.kind p.2 x.2.length then (if 40 < sc.length + x.1.names.length then 1 else exprF n p.1 (sc ++ x.1.names) o) else exprF n p.1 sc o).length) → (hj' : j < x.2.length) → (x.2.zipIdx.map fun p => if inB2 x.1.kind p.2 x.2.length then (if 40 < sc.length + x.1.names.length then 1 else exprF n p.1 (sc ++ x.1.names) o) else exprF n p.1 sc o)[j] = argF x sc o j hj' := by
    intro j hj hj'
    unfold argF
    simp
  rw [firstErr_at (i := i) (by simpa using hi) (fun j hj => by rw [hg j _ (Nat.lt_trans hj hi)]; exact h j hj) (by rw [hg i _ hi]; exact hn)]
  exact hg i _ hi
end
end Go.Proofs.YtlgnaopaeapbfaaDoor
