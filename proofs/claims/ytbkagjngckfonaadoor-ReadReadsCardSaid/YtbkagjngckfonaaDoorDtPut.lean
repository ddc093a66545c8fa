/- Trees, where a result's cells are written; a quote's tree. -/
import Derived.Test.YtbkagjngckfonaaDoorPdl
namespace Go.Proofs.YtbkagjngckfonaaDoor
open Go.RowKit Go.ChangeShapes Go.WideShapes Go.Deep
set_option linter.unusedVariables false

theorem leaf_tree (w : World) (lo hi : Nat) (k n : Int) (t : ByteArray) : DtIn w lo hi [.int .i64 k, .int .i64 n, .string t, .slice none 0 0] (.mk k n t []) :=
  .mk k n t none 0 [] [] rfl (Nat.le_refl _) (by unfold maxLen; omega) (fun h => absurd h (by simp)) (fun i h => absurd h (by simp))
theorem keep_set {w : World} {lo hi p j : Nat} {u : Value} (hp : p < lo) : Keep lo hi w (w.setCell ⟨p, j, none⟩ u) := fun b h1 _ _ => heap_setCell_other w ⟨p, j, none⟩ b u (fun e => by subst e; exact absurd hp (by simpa using h1))
theorem Keep.trans {x y z : World} {lo hi : Nat} (h : Keep lo hi x y) (k : Keep lo hi y z) (hs : x.heap.size ≤ y.heap.size) : Keep lo hi x z := fun b h1 h2 h3 => (k b h1 h2 (Nat.lt_of_lt_of_le h3 hs)).trans (h b h1 h2 h3)
/-- A tree stays where a parser moves, and a result's cells are written. -/
theorem tree_only {x y : World} {b lo lo' : Nat} {c : List Value} {t : Dt} (h : DtIn x lo x.heap.size c t) (ho : Only b x y) (hb : b < lo) (hl : lo' ≤ lo) : DtIn y lo' y.heap.size c t :=
  h.mono (fun k h1 _ h3 => World.grownBy.block ho k h3 (fun e => by have := Option.some.inj e; omega)) (World.grownBy.size ho) hl (World.grownBy.size ho)
theorem tree_put4 {x : World} {p lo lo' : Nat} {c : List Value} {t : Dt} (h : DtIn x lo x.heap.size c t) (hp : p < lo) (hl : lo' ≤ lo) (u0 u1 u2 u3 : Value) :
    DtIn ((((x.setCell ⟨p, 0, none⟩ u0).setCell ⟨p, 1, none⟩ u1).setCell ⟨p, 2, none⟩ u2).setCell ⟨p, 3, none⟩ u3) lo' ((((x.setCell ⟨p, 0, none⟩ u0).setCell ⟨p, 1, none⟩ u1).setCell ⟨p, 2, none⟩ u2).setCell ⟨p, 3, none⟩ u3).heap.size c t :=
  h.mono (((keep_set hp).trans (keep_set hp) (by simp)).trans ((keep_set hp).trans (keep_set hp) (by simp)) (by simp)) (by simp) hl (by simp)
/-- 'quote' and a datum, in a row of two that lies new. -/
theorem quote_tree {x : World} {lo : Nat} {k n : Int} {t : ByteArray} {A : Option Addr} {len cap : Nat} {d : Dt} (T : TypeId) (h : DtIn x lo x.heap.size [.int .i64 k, .int .i64 n, .string t, .slice A len cap] d) (hl : lo ≤ x.heap.size) (N : Nat) (hN : x.heap.size = N) :
    DtIn (x.alloc (.cells #[.int .i64 3, .int .i64 0, .string quoteS, .slice none 0 0, .int .i64 k, .int .i64 n, .string t, .slice A len cap] T)) lo (x.alloc (.cells #[.int .i64 3, .int .i64 0, .string quoteS, .slice none 0 0, .int .i64 k, .int .i64 n, .string t, .slice A len cap] T)).heap.size
      [.int .i64 4, .int .i64 0, .string ⟨#[]⟩, .slice (some ⟨N, 0, none⟩) 2 2] (.mk 4 0 ⟨#[]⟩ [.mk 3 0 quoteS [], d]) := by
  subst hN
  refine .mk 4 0 ⟨#[]⟩ (some ⟨x.heap.size, 0, none⟩) 2 [.mk 3 0 quoteS [], d] [[.int .i64 3, .int .i64 0, .string quoteS, .slice none 0 0], [.int .i64 k, .int .i64 n, .string t, .slice A len cap]] rfl (Nat.le_refl _) (by unfold maxLen; omega) ?_ ?_
  · intro _
    refine ⟨x.heap.size, 0, rfl, hl, by simp, by simp, ?_⟩
    intro i hi j hj
    rw [cell_new]
    match i, hi with
    | 0, _ =>
      match j, hj with
      | 0, _ => rfl
      | 1, _ => rfl
      | 2, _ => rfl
      | 3, _ => rfl
      | n + 4, hj => exact absurd hj (by simp)
    | 1, _ =>
      match j, hj with
      | 0, _ => rfl
      | 1, _ => rfl
      | 2, _ => rfl
      | 3, _ => rfl
      | n + 4, hj => exact absurd hj (by simp)
    | n + 2, hi => exact absurd hi (by simp)
  · intro i hi hi'
    match i, hi with
    | 0, _ => exact leaf_tree _ _ _ _ _ _
    | 1, _ => exact h.mono (keep_new ((Below.refl _ _).alloc (Nat.le_refl _) _)) (by simp) (Nat.le_refl _) (by simp)
    | n + 2, hi => exact absurd hi (by simp)
theorem St.row {w w' : World} {b : Nat} {s : ByteArray} {k : Nat} {R : List Value} {row : Option Nat} (h : St w b s k R) (hg : w.grownBy w' row) (hne : row ≠ some b) : St w' b s k R := by
  have hb : w'.heap[b]? = w.heap[b]? := hg.block b h.lt (fun e => hne e.symm)
  exact ⟨(World.cell?_of_block (a := ⟨b, 0, none⟩) hb).trans h.c0, (World.cell?_of_block (a := ⟨b, 1, none⟩) hb).trans h.c1, fun j u hj => (World.cell?_of_block (a := ⟨b, 2 + j, none⟩) hb).trans (h.rest j u hj), fun o => (World.frozen?_of_block (a := ⟨b, o, none⟩) hb).trans (h.frz o)⟩
theorem Lp.far {B b pr p : Nat} {w wr : World} {v : Value} {Y : List DV} (h : Lp B b pr p w wr v Y) {g : Nat} (hg : g < B) : v.ownBlock ≠ some g := fun e => by have := (h.own.row.lt g e).1; omega
theorem Lp.cell7 {B b pr p : Nat} {w wr w7 : World} {v : Value} {Y : List DV} (h : Lp B b pr p w wr v Y) (hg : wr.grownBy w7 v.ownBlock) (hp : p < B) : w7.cell? ⟨p, 3, none⟩ = some v ∧ w7.frozen? ⟨p, 3, none⟩ = false := by
  have hb : w7.heap[p]? = wr.heap[p]? := hg.block p (World.block_lt_of_cell? wr _ h.p0) (fun e => h.far hp e.symm)
  exact ⟨(World.cell?_of_block (a := ⟨p, 3, none⟩) hb).trans h.p3, (World.frozen?_of_block (a := ⟨p, 3, none⟩) hb).trans (h.pf 3)⟩
theorem Lp.tree {B b pr p lo : Nat} {w wr : World} {v : Value} {Y : List DV} (h : Lp B b pr p w wr v Y) (hl : lo ≤ B) : DtIn wr lo wr.heap.size [.int .i64 4, .int .i64 0, .string ⟨#[]⟩, v] (.mk 4 0 ⟨#[]⟩ (Y.map (·.t))) := h.own.tree hl 4 0 ⟨#[]⟩
theorem DtIn.new {x y : World} {lo lo' : Nat} {c : List Value} {t : Dt} (h : DtIn x lo x.heap.size c t) (hb : Below x.heap.size x y) (hl : lo' ≤ lo) : DtIn y lo' y.heap.size c t := h.mono (keep_new hb) hb.size hl hb.size
end Go.Proofs.YtbkagjngckfonaaDoor
