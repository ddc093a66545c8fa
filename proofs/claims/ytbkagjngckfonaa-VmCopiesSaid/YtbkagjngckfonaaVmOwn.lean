/- Rows of the call's own that hold structs with memory of their own: appended to through a field. -/
import Derived.Test.YtbkagjngckfonaaVmClone
namespace Go.Proofs.Ytbkagjngckfonaa
open Go.RowKit Go.ChangeShapes Go.WideShapes Go.Deep Go.ChangeAt Go.Shelf
set_option linter.unusedVariables false

/-- A kind of element: its type, its cells, what must hold of it, which blocks it lies in. -/
structure Kit (α : Type) where
  k : Nat
  cells : α → List Value
  len : ∀ x, (cells x).length = k
  one : ∀ x, ∀ u ∈ cells x, u.oneCell' = true
  ok : World → α → Prop
  uses : α → Nat → Prop
  lt : ∀ w x b, ok w x → uses x b → b < w.heap.size
  kept : ∀ w w' x row, ok w x → w.grownBy w' row → (∀ b, uses x b → row ≠ some b) → ok w' x

structure OwnAt {α : Type} (K : Kit α) (ty : TypeId) (base : Nat) (w : World) (v : Value) (X : List α) : Prop where
  row : w.ownsRow base ty K.k v X.length (X.map K.cells).flatten
  each : ∀ x ∈ X, K.ok w x
  from_ : ∀ x ∈ X, ∀ b, K.uses x b → base ≤ b
  apart : ∀ x ∈ X, ∀ b, K.uses x b → v.ownBlock ≠ some b
section
variable {α : Type} {K : Kit α} {ty : TypeId} {base : Nat}
theorem OwnAt.start (K : Kit α) (ty : TypeId) (base : Nat) (w : World) : OwnAt K ty base w (.slice none 0 0) [] := ⟨World.ownsRow_nil _ _ _ _, by simp, by simp, by simp⟩
theorem OwnAt.grown {w w' : World} {v : Value} {X : List α} {row : Option Nat} (h : OwnAt K ty base w v X) (hg : w.grownBy w' row) (hv : v.ownBlock = none ∨ v.ownBlock ≠ row) (hx : ∀ x ∈ X, ∀ b, K.uses x b → row ≠ some b) : OwnAt K ty base w' v X :=
  ⟨h.row.kept hg hv, fun x hx' => K.kept _ _ _ _ (h.each x hx') hg (hx x hx'), h.from_, h.apart⟩
theorem OwnAt.new {w w' : World} {v : Value} {X : List α} (h : OwnAt K ty base w v X) (hb : Below w.heap.size w w') : OwnAt K ty base w' v X :=
  h.grown (grown_of_below hb none) (by cases v.ownBlock <;> simp) (fun x hx b hb => by simp)
/-- Another block is written to, below the base. -/
theorem OwnAt.other {w w' : World} {v : Value} {X : List α} {g : Nat} (h : OwnAt K ty base w v X) (hg : w.grownBy w' (some g)) (hlt : g < base) : OwnAt K ty base w' v X := by
  refine h.grown hg ?_ ?_
  · cases hv : v.ownBlock with
    | none => exact Or.inl rfl
    | some b =>
      right
      intro e
      have := (h.row.lt b hv).1
      have := Option.some.inj e
      omega
  · intro x hx b hb e
    have := h.from_ x hx b hb
    have := Option.some.inj e
    omega
theorem OwnAt.free {w : World} {v : Value} {X : List α} (h : OwnAt K ty base w v X) {b : Nat} (hk : w.heap.size ≤ b) : v.ownBlock ≠ some b := by
  intro e
  have := (h.row.lt b e).2
  omega
theorem OwnAt.form {w : World} {v : Value} {X : List α} (h : OwnAt K ty base w v X) : ∃ A cap, v = .slice A X.length cap ∧ X.length ≤ cap ∧ cap ≤ maxLen ∧ RowsF w A X.length K.k (X.map K.cells) ∧ ∀ a, A = some a → base ≤ a.block :=
  ownsRow_form h.row (by simp) (fun c hc => by obtain ⟨x, _, rfl⟩ := List.mem_map.1 hc; exact K.len x)
end

theorem cells_litC {w : World} {e : TypeId} (cs : Array Value) (news : List Value) (hx : cs.toList = news) :
    ∀ j u, news[j]? = some u → (w.alloc (.cells cs e)).cell? (Addr.add ⟨w.heap.size, 0, none⟩ j) = some u := cells_lit cs news hx

/-- 'append(s, x)' of one element onto a row of the call's own. -/
theorem wpList_own {α : Type} {K : Kit α} {ty : TypeId} {base bytes : Nat} {sl : TypeId} {i : TypeInfo} {z : Value} {ops : Array Oper} {rest : List Oper} {o : Oper} {act : Act} {Q : Exit → Act → World → Prop} {w : World} (hgd : o.guard = none) (s y : Operand)
    (ho : o.op = .call { callee := .builtin .append, args := #[s, y], argTypes := #[sl, sl] })
    (ht : Try.prog.underlying sl = some (.slice ty)) (hi : Try.prog.info? ty = some i) (hz : i.zero = some z) (hsize : i.size = K.k) (hby : i.bytes = bytes) (hzs : z.cells.size = K.k) (hsz : 0 < K.k)
    {v : Value} {X : List α} (hO : OwnAt K ty base w v X) (x : α) (cs : Array Value) (hcs : cs.toList = K.cells x) (hx : K.ok w x) (hfrom : ∀ b, K.uses x b → base ≤ b) (hap : ∀ b, K.uses x b → v.ownBlock ≠ some b)
    (hs : act.eval s = v) (hy : act.eval y = .slice (some ⟨w.heap.size, 0, none⟩) 1 1) (hb : (X.length + 1) * bytes ≤ 140737488355328 ∧ X.length + 1 ≤ maxLen) (hbase : base ≤ w.heap.size)
    (h : ∀ v' w', OwnAt K ty base w' v' (X ++ [x]) → w.grownBy w' v.ownBlock → (v'.ownBlock = v.ownBlock ∨ ∃ b, v'.ownBlock = some b ∧ w.heap.size ≤ b) → wpList Try.prog ops Q rest (act.put o.dst v') w') : wpList Try.prog ops Q (o :: rest) act (w.alloc (.cells cs ty)) := by
  have hbl : Below w.heap.size w (w.alloc (.cells cs ty)) := (Below.refl w.heap.size w).alloc (Nat.le_refl _) _
  have hA := hO.new hbl
  have hxA : K.ok (w.alloc (.cells cs ty)) x := K.kept _ _ _ none hx (grown_of_below hbl none) (fun b _ => by simp)
  refine wpList_append_own_at _ hgd s y sl ho base ty i z K.k bytes ht hi hz hsize hby hzs hsz v X.length (X.map K.cells).flatten hs hA.row
    ⟨w.heap.size, 0, none⟩ 1 1 (K.cells x) hy (by rw [K.len]; omega) (cells_lit cs _ hcs) (K.one x) hb.2 hb.1 (Nat.le_trans hbase hbl.size) ?_
  intro v' w' h1 h2 _ h4
  have hga : w.grownBy w' v.ownBlock := (grown_of_below hbl v.ownBlock).trans h2
  have hv' : v'.ownBlock = v.ownBlock ∨ ∃ b, v'.ownBlock = some b ∧ w.heap.size ≤ b := by
    rcases h4 with h4 | h4
    · exact Or.inl h4
    · exact Or.inr ⟨_, h4, by simp⟩
  refine h v' w' ⟨?_, ?_, ?_, ?_⟩ hga hv'
  · rw [List.map_append, List.flatten_append, List.length_append]
    simpa using h1
  · intro y hy
    rcases List.mem_append.1 hy with hy | hy
    · exact K.kept _ _ _ _ (hA.each y hy) h2 (hO.apart y hy)
    · obtain rfl : y = x := by simpa using hy
      exact K.kept _ _ _ _ hxA h2 hap
  · intro y hy
    rcases List.mem_append.1 hy with hy | hy
    · exact hO.from_ y hy
    · obtain rfl : y = x := by simpa using hy
      exact hfrom
  · intro y hy b hb
    have hy2 : K.ok w y ∧ v.ownBlock ≠ some b := by
      rcases List.mem_append.1 hy with hy | hy
      · exact ⟨hO.each y hy, hO.apart y hy b hb⟩
      · obtain rfl : y = x := by simpa using hy
        exact ⟨hx, hap b hb⟩
    rcases hv' with e | ⟨c, e, hc⟩
    · rw [e]; exact hy2.2
    · rw [e]
      intro e'
      have := K.lt _ _ _ hy2.1 hb
      have := Option.some.inj e'
      omega

/-! ### the four kinds -/
def inSl (A : Option Addr) (len : Nat) (b : Nat) : Prop := ∃ a, A = some a ∧ 0 < len ∧ a.block = b
theorem RowsF.grown {w w' : World} {A : Option Addr} {len k : Nat} {C : List (List Value)} {row : Option Nat} (h : RowsF w A len k C) (hg : w.grownBy w' row) (hne : ∀ b, inSl A len b → row ≠ some b) : RowsF w' A len k C :=
  ⟨h.size, fun h0 => by
    obtain ⟨b, o, rfl, hl, hc⟩ := h.at_ h0
    have hb : w'.heap[b]? = w.heap[b]? := hg.block b hl (fun e => hne b ⟨_, rfl, h0, rfl⟩ e.symm)
    exact ⟨b, o, rfl, Nat.lt_of_lt_of_le hl hg.size, fun i hi => ⟨(hc i hi).1, fun j hj => by rw [World.cell?_of_block (a := ⟨b, _, none⟩) hb]; exact (hc i hi).2 j hj⟩⟩⟩
theorem RowsF.lt {w : World} {A : Option Addr} {len k : Nat} {C : List (List Value)} (h : RowsF w A len k C) {b : Nat} (hb : inSl A len b) : b < w.heap.size := by
  obtain ⟨a, rfl, h0, rfl⟩ := hb
  obtain ⟨b, o, e, hl, _⟩ := h.at_ h0
  cases e
  exact hl
theorem Sl.Ok.grown {w w' : World} {k : Nat} {P : List Value → Prop} {x : Sl} {row : Option Nat} (h : x.Ok w k P) (hg : w.grownBy w' row) (hne : ∀ b, inSl x.A x.len b → row ≠ some b) : x.Ok w' k P := ⟨h.le, h.wide, h.rows.grown hg hne, h.each⟩
theorem Shp.At.grown' {w w' : World} {x : Shp} {row : Option Nat} (h : x.At w) (hg : w.grownBy w' row) (hne : ∀ b, inSl x.A x.len b → row ≠ some b) : x.At w' :=
  h.grown hg (fun a ha h0 => hne a.block ⟨a, ha, h0, rfl⟩)
theorem Shp.At.lt {w : World} {x : Shp} (h : x.At w) {b : Nat} (hb : inSl x.A x.len b) : b < w.heap.size := by
  obtain ⟨a, ha, h0, rfl⟩ := hb
  exact h.strs.lt ha h0
theorem ShapesAt.grown {w w' : World} {A : Option Addr} {n : Nat} {X : List Shp} {row : Option Nat} (h : ShapesAt w A n X) (hg : w.grownBy w' row) (hA : ∀ b, inSl A n b → row ≠ some b) (hX : ∀ x ∈ X, ∀ b, inSl x.A x.len b → row ≠ some b) : ShapesAt w' A n X :=
  ⟨h.size, fun h0 => by
    obtain ⟨b, o, rfl, hl, hc⟩ := h.at_ h0
    have hb : w'.heap[b]? = w.heap[b]? := hg.block b hl (fun e => hA b ⟨_, rfl, h0, rfl⟩ e.symm)
    exact ⟨b, o, rfl, Nat.lt_of_lt_of_le hl hg.size, fun i hi => by
      rw [World.cell?_of_block (a := ⟨b, o + i * 2, none⟩) hb, World.cell?_of_block (a := ⟨b, o + i * 2 + 1, none⟩) hb]
      exact hc i hi⟩, fun x hx => (h.each x hx).grown' hg (hX x hx)⟩
theorem SlsAt.grown {w w' : World} {k : Nat} {P : List Value → Prop} {A : Option Addr} {n : Nat} {M : List Sl} {row : Option Nat} (h : SlsAt w k P A n M) (hg : w.grownBy w' row) (hA : ∀ b, inSl A n b → row ≠ some b) (hX : ∀ x ∈ M, ∀ b, inSl x.A x.len b → row ≠ some b) : SlsAt w' k P A n M :=
  ⟨h.size, fun h0 => by
    obtain ⟨b, o, rfl, hl, hc⟩ := h.at_ h0
    have hb : w'.heap[b]? = w.heap[b]? := hg.block b hl (fun e => hA b ⟨_, rfl, h0, rfl⟩ e.symm)
    exact ⟨b, o, rfl, Nat.lt_of_lt_of_le hl hg.size, fun i hi => by
      rw [World.cell?_of_block (a := ⟨b, o + i, none⟩) hb]
      exact hc i hi⟩, fun x hx => (h.each x hx).grown hg (hX x hx)⟩

def kitSl : Kit Sl where
  k := 1
  cells x := [.slice x.A x.len x.cap]
  len x := rfl
  one x u hu := by
    simp only [List.mem_cons, List.not_mem_nil, or_false] at hu
    subst hu
    rfl
  ok w x := x.Ok w 1 IsInt
  uses x b := inSl x.A x.len b
  lt w x b h hb := h.rows.lt hb
  kept w w' x row h hg hn := h.grown hg hn
def kitShp : Kit Shp where
  k := 2
  cells x := [.string x.name, .slice x.A x.len x.cap]
  len x := rfl
  one x u hu := by
    simp only [List.mem_cons, List.not_mem_nil, or_false] at hu
    rcases hu with rfl | rfl <;> rfl
  ok w x := x.At w
  uses x b := inSl x.A x.len b
  lt w x b h hb := Shp.At.lt h hb
  kept w w' x row h hg hn := Shp.At.grown' h hg hn
def FnV.cells (x : FnV) : List Value := [.int .i64 x.p, .int .i64 x.l, .int .i64 x.c, .slice x.code.A x.code.len x.code.cap]
def kitFn : Kit FnV where
  k := 4
  cells := FnV.cells
  len x := rfl
  one x u hu := by
    simp only [FnV.cells, List.mem_cons, List.not_mem_nil, or_false] at hu
    rcases hu with rfl | rfl | rfl | rfl <;> rfl
  ok w x := x.code.Ok w 8 IsInstr
  uses x b := inSl x.code.A x.code.len b
  lt w x b h hb := h.rows.lt hb
  kept w w' x row h hg hn := h.grown hg hn
def RcV.cells (x : RcV) : List Value := [.string x.nm, .slice x.A1 x.n1 x.c1, .slice x.A3 x.n3 x.c3]
def RcV.uses (x : RcV) (b : Nat) : Prop := inSl x.A1 x.n1 b ∨ (∃ s ∈ x.X, inSl s.A s.len b) ∨ inSl x.A3 x.n3 b ∨ ∃ s ∈ x.M, inSl s.A s.len b
theorem ShapesAt.lt' {w : World} {A : Option Addr} {n : Nat} {X : List Shp} (h : ShapesAt w A n X) {b : Nat} (hb : inSl A n b) : b < w.heap.size := by
  obtain ⟨a, rfl, h0, rfl⟩ := hb
  obtain ⟨b, o, e, hl, _⟩ := h.at_ h0
  cases e
  exact hl
theorem SlsAt.lt' {w : World} {k : Nat} {P : List Value → Prop} {A : Option Addr} {n : Nat} {M : List Sl} (h : SlsAt w k P A n M) {b : Nat} (hb : inSl A n b) : b < w.heap.size := by
  obtain ⟨a, rfl, h0, rfl⟩ := hb
  obtain ⟨b, o, e, hl, _⟩ := h.at_ h0
  cases e
  exact hl
def kitRc : Kit RcV where
  k := 3
  cells := RcV.cells
  len x := rfl
  one x u hu := by
    simp only [RcV.cells, List.mem_cons, List.not_mem_nil, or_false] at hu
    rcases hu with rfl | rfl | rfl <;> rfl
  ok w x := x.Ok w
  uses := RcV.uses
  lt w x b h hb := by
    rcases hb with hb | ⟨s, hs, hb⟩ | hb | ⟨s, hs, hb⟩
    · exact h.vers.lt' hb
    · exact Shp.At.lt (h.vers.each s hs) hb
    · exact h.moves.lt' hb
    · exact (h.moves.each s hs).rows.lt hb
  kept w w' x row h hg hn := ⟨h.le1, h.wide1, h.vers.grown hg (fun b hb => hn b (Or.inl hb)) (fun s hs b hb => hn b (Or.inr (Or.inl ⟨s, hs, hb⟩))), h.le3, h.wide3,
    h.moves.grown hg (fun b hb => hn b (Or.inr (Or.inr (Or.inl hb)))) (fun s hs b hb => hn b (Or.inr (Or.inr (Or.inr ⟨s, hs, hb⟩))))⟩
end Go.Proofs.Ytbkagjngckfonaa
