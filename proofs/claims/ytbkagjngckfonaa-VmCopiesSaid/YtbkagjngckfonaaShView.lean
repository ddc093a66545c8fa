/- Views of texts and shapes in memory (printed by gen_shview.py). -/
import Derived.Test.YtbkagjngckfonaaLaw
import Derived.Test.YtbkagjngckfonaaDatum
import Derived.Test.YtbkagjngckfonaaShelf
import Derived.Deep.LoopGhost
import Derived.BigQuiet
import Derived.WalkSpells
import Derived.Lib.Hide
namespace Go.Proofs.Ytbkagjngckfonaa
open Go.RowKit Go.ChangeShapes Go.WideShapes Go.Deep Go.ChangeAt
set_option linter.unusedVariables false

theorem ret_bool {a b : Bool} (h : a = b) : Ending.returned (.bool a) = .returned (.bool b) := by rw [h]
theorem below_drewN {B : Nat} {a w : World} (h : Below B a w) (n : Nat) : Below B a (w.drewN n) := ⟨h.os, h.tape, h.output, h.size, h.block⟩
/-- A slice of strings in memory. -/
structure StrsAt (w : World) (A : Option Addr) (len : Nat) (ss : List ByteArray) : Prop where
  size : ss.length = len
  at_ : 0 < len → ∃ b o, A = some ⟨b, o, none⟩ ∧ b < w.heap.size ∧ ∀ i, (h : i < ss.length) → w.cell? ⟨b, o + i, none⟩ = some (.string ss[i])
theorem StrsAt.below {w w' : World} {A : Option Addr} {len : Nat} {ss : List ByteArray} (h : StrsAt w A len ss) (hb : Below w.heap.size w w') : StrsAt w' A len ss :=
  ⟨h.size, fun h0 => by
    obtain ⟨b, o, rfl, hl, hc⟩ := h.at_ h0
    exact ⟨b, o, rfl, Nat.lt_of_lt_of_le hl hb.size, fun i hi => (hb.cell (p := ⟨b, o + i, none⟩) hl).trans (hc i hi)⟩⟩
/-- Is a text among some? -/
def inL (ss : List ByteArray) (s : ByteArray) : Bool := ss.any fun x => x.toList == s.toList
theorem inL_yes {ss : List ByteArray} {s : ByteArray} {k : Nat} (hk : k < ss.length) (h : (ss[k].toList == s.toList) = true) : inL ss s = true :=
  List.any_eq_true.2 ⟨ss[k], List.getElem_mem hk, h⟩
theorem inL_no {ss : List ByteArray} {s : ByteArray} (h : ∀ j, (hj : j < ss.length) → (ss[j].toList == s.toList) = false) : inL ss s = false := by
  rw [inL, List.any_eq_false]
  intro x hx
  obtain ⟨i, hi, rfl⟩ := List.getElem_of_mem hx
  rw [h i hi]; simp

theorem cell_new (w : World) (cs : Array Value) (t : TypeId) (j : Nat) : (w.alloc (.cells cs t)).cell? ⟨w.heap.size, j, none⟩ = cs[j]? := by
  have : (w.alloc (.cells cs t)).heap[w.heap.size]? = some (.cells cs t) := (MapKept.heap_alloc w _).1
  unfold World.cell?
  rw [this]
  simp
theorem strsAt_new (w : World) (t : TypeId) (ss : List ByteArray) : StrsAt (w.alloc (.cells (ss.map Value.string).toArray t)) (some ⟨w.heap.size, 0, none⟩) ss.length ss :=
  ⟨rfl, fun _ => ⟨w.heap.size, 0, rfl, by simp, fun i hi => by rw [Nat.zero_add, cell_new]; simp [hi]⟩⟩

def idxL (ss : List ByteArray) (s : ByteArray) : Int := if inL ss s then ((ss.findIdx fun x => x.toList == s.toList : Nat) : Int) else -1
theorem idxL_at {ss : List ByteArray} {s : ByteArray} {k : Nat} (hk : k < ss.length) (h : (ss[k].toList == s.toList) = true) (hb : ∀ j, j < k → (hj : j < ss.length) → (ss[j].toList == s.toList) = false) : idxL ss s = k := by
  have h1 : ss.findIdx (fun x => x.toList == s.toList) = k := (List.findIdx_eq hk).2 ⟨h, fun j hj => hb j hj (by omega)⟩
  unfold idxL
  rw [inL_yes hk h, h1]
  rfl
theorem idxL_no {ss : List ByteArray} {s : ByteArray} (h : ∀ j, (hj : j < ss.length) → (ss[j].toList == s.toList) = false) : idxL ss s = -1 := by
  unfold idxL
  rw [inL_no h]
  rfl
theorem idxL_in (ss : List ByteArray) (s : ByteArray) : decide (0 ≤ idxL ss s) = inL ss s := by
  unfold idxL
  cases inL ss s
  · rfl
  · simp

theorem readableShape : Try.prog.readableRec 69 = true := by kernel_rfl
theorem rowShape : 69 < Try.prog.types.size := of_decide_eq_true (by kernel_rfl)
theorem cellsShape : Try.prog.cellsOf 69 = 2 := by kernel_rfl
theorem cellsSlString : Try.prog.cellsOf 42 = 1 := by kernel_rfl

section
variable {H : Type} {enc : TypeId × Value → H}
theorem slAt_strs {w : World} {A : Option Addr} {len cap : Nat} {it : DataW H} (h : SlAt enc w 9 1 A len cap it) : ∃ ss : List ByteArray, StrsAt w A len ss ∧ ∀ s ∈ ss, s.size ≤ maxLen := by
  rcases Nat.eq_zero_or_pos len with h0 | h0
  · subst h0
    exact ⟨[], ⟨rfl, fun h => absurd h (by omega)⟩, by simp⟩
  · obtain ⟨b, o, rfl, hb, hrow⟩ := h.at_ h0
    have hx : ∀ i : Fin len, ∃ s : ByteArray, w.cell? ⟨b, o + i.1, none⟩ = some (.string s) ∧ s.size ≤ maxLen := by
      intro i
      obtain ⟨cs', hl, hr, hrd⟩ := hrow i.1 (by rw [h.size]; exact i.2)
      obtain ⟨s, rfl, _, hs⟩ := hrd.string Try.underlying9
      have := hr 0 (by simp)
      simp at this
      exact ⟨s, this, hs⟩
    obtain ⟨f, hf⟩ := Classical.axiomOfChoice hx
    refine ⟨List.ofFn f, ⟨by simp, fun _ => ⟨b, o, rfl, hb, fun i hi => ?_⟩⟩, ?_⟩
    · have hi' : i < len := by simpa using hi
      rw [List.getElem_ofFn]
      exact (hf ⟨i, hi'⟩).1
    · intro s hs
      obtain ⟨i, rfl⟩ := List.mem_ofFn.1 hs
      exact (hf i).2

/-- A shape's two cells: its name, its fields. -/
structure ShapeAt (w : World) (cs : List Value) (name : ByteArray) (A : Option Addr) (len cap : Nat) (ss : List ByteArray) : Prop where
  cells : cs = [.string name, .slice A len cap]
  wide : name.size ≤ maxLen
  strs : StrsAt w A len ss
  each : ∀ s ∈ ss, s.size ≤ maxLen
  le : len ≤ cap
  cap_ : cap ≤ maxLen

theorem ShapeAt.below {w w' : World} {cs : List Value} {name : ByteArray} {A : Option Addr} {len cap : Nat} {ss : List ByteArray} (h : ShapeAt w cs name A len cap ss) (hb : Below w.heap.size w w') : ShapeAt w' cs name A len cap ss :=
  ⟨h.cells, h.wide, h.strs.below hb, h.each, h.le, h.cap_⟩

theorem Rd.shape {w : World} {cs : List Value} {d : DataW H} (h : Rd enc w 69 cs d) : ∃ name A len cap ss, ShapeAt w cs name A len cap ss := by
  obtain ⟨f, ps, h⟩ := h
  obtain ⟨xs, m, _, hx, hl, hlen, hf⟩ := DataW.trod_struct Try.underlying69 h
  rw [cellsShape] at hl
  match cs, hl, xs, hlen with
  | [c0, c1], _, [y0, y1], _ =>
    have h0 : Rd enc w 9 [c0] y0.1 := ⟨m, y0.2, by simpa [cellsString] using hf 0 _ rfl⟩
    have h1 : Rd enc w 42 [c1] y1.1 := ⟨m, y1.2, by simpa [cellsSlString] using hf 1 _ rfl⟩
    obtain ⟨s, e2, d2, s1⟩ := h0.string Try.underlying9
    obtain ⟨A, len, cap, e3, hs⟩ := h1.slAt Try.underlying42 cellsString (by decide)
    simp only [List.cons.injEq, and_true] at e2 e3
    subst e2 e3
    obtain ⟨ss, hss, hev⟩ := slAt_strs hs
    exact ⟨s, A, len, cap, ss, rfl, s1, hss, hev, hs.le, hs.wide⟩
end

theorem StrsAt.take {w : World} {A : Option Addr} {len : Nat} {ss : List ByteArray} (h : StrsAt w A len ss) {k : Nat} (hk : k ≤ len) : StrsAt w A k (ss.take k) :=
  ⟨by rw [List.length_take, h.size]; omega, fun h0 => by
    obtain ⟨b, o, rfl, hb, hc⟩ := h.at_ (by omega)
    exact ⟨b, o, rfl, hb, fun i hi => by rw [List.getElem_take]; exact hc i (by rw [List.length_take] at hi; omega)⟩⟩

theorem StrsAt.drewN {w : World} {A : Option Addr} {len : Nat} {ss : List ByteArray} (h : StrsAt w A len ss) (n : Nat) : StrsAt (w.drewN n) A len ss := h.below (below_drewN (Below.refl _ _) n)

/-- A shape that lies in memory. -/
structure Shp where
  name : ByteArray
  A : Option Addr
  len : Nat
  cap : Nat
  ss : List ByteArray

def Shp.cells (x : Shp) : List Value := [.string x.name, .slice x.A x.len x.cap]
def Shp.At (w : World) (x : Shp) : Prop := ShapeAt w [.string x.name, .slice x.A x.len x.cap] x.name x.A x.len x.cap x.ss

structure ShapesAt (w : World) (A : Option Addr) (len : Nat) (L : List Shp) : Prop where
  size : L.length = len
  at_ : 0 < len → ∃ b o, A = some ⟨b, o, none⟩ ∧ b < w.heap.size ∧ ∀ i, (h : i < L.length) → w.cell? ⟨b, o + i * 2, none⟩ = some (.string L[i].name) ∧ w.cell? ⟨b, o + i * 2 + 1, none⟩ = some (.slice L[i].A L[i].len L[i].cap)
  each : ∀ x ∈ L, x.At w

theorem ShapesAt.below {w w' : World} {A : Option Addr} {len : Nat} {L : List Shp} (h : ShapesAt w A len L) (hb : Below w.heap.size w w') : ShapesAt w' A len L :=
  ⟨h.size, fun h0 => by
    obtain ⟨b, o, rfl, hl, hc⟩ := h.at_ h0
    exact ⟨b, o, rfl, Nat.lt_of_lt_of_le hl hb.size, fun i hi => ⟨(hb.cell (p := ⟨b, o + i * 2, none⟩) hl).trans (hc i hi).1, (hb.cell (p := ⟨b, o + i * 2 + 1, none⟩) hl).trans (hc i hi).2⟩⟩,
   fun x hx => ShapeAt.below (h.each x hx) hb⟩
theorem ShapesAt.take {w : World} {A : Option Addr} {len : Nat} {L : List Shp} (h : ShapesAt w A len L) {k : Nat} (hk : k ≤ len) : ShapesAt w A k (L.take k) :=
  ⟨by rw [List.length_take, h.size]; omega, fun h0 => by
    obtain ⟨b, o, rfl, hb, hc⟩ := h.at_ (by omega)
    exact ⟨b, o, rfl, hb, fun i hi => by rw [List.getElem_take]; exact hc i (by rw [List.length_take] at hi; omega)⟩,
   fun x hx => h.each x (List.mem_of_mem_take hx)⟩

section
variable {H : Type} {enc : TypeId × Value → H}
theorem slAt_shapes {w : World} {A : Option Addr} {len cap : Nat} {it : DataW H} (h : SlAt enc w 69 2 A len cap it) : ∃ L : List Shp, ShapesAt w A len L := by
  rcases Nat.eq_zero_or_pos len with h0 | h0
  · subst h0
    exact ⟨[], ⟨rfl, fun h => absurd h (by omega), by simp⟩⟩
  · obtain ⟨b, o, rfl, hb, hrow⟩ := h.at_ h0
    have hx : ∀ i : Fin len, ∃ x : Shp, (w.cell? ⟨b, o + i.1 * 2, none⟩ = some (.string x.name) ∧ w.cell? ⟨b, o + i.1 * 2 + 1, none⟩ = some (.slice x.A x.len x.cap)) ∧ x.At w := by
      intro i
      obtain ⟨cs', hl, hr, hrd⟩ := hrow i.1 (by rw [h.size]; exact i.2)
      obtain ⟨name, A', len', cap', ss, hS⟩ := hrd.shape
      obtain rfl := hS.cells
      exact ⟨⟨name, A', len', cap', ss⟩, ⟨hr 0 (by simp), hr 1 (by simp)⟩, hS⟩
    obtain ⟨f, hf⟩ := Classical.axiomOfChoice hx
    refine ⟨List.ofFn f, ⟨by simp, fun _ => ⟨b, o, rfl, hb, fun i hi => ?_⟩, ?_⟩⟩
    · have hi' : i < len := by simpa using hi
      rw [List.getElem_ofFn]
      exact (hf ⟨i, hi'⟩).1
    · intro s hs
      obtain ⟨i, rfl⟩ := List.mem_ofFn.1 hs
      exact (hf i).2
end

def names (L : List Shp) : List ByteArray := L.map Shp.name

theorem infoString : (Try.prog.info? 9).map (fun i => (i.zero, i.size, i.bytes)) = some (some (.string ByteArray.empty), 1, 16) := by kernel_rfl

/-- A slice value that a call made: it owns just these texts. -/
theorem strsAt_owned {w : World} {base e : Nat} {v : Value} {n : Nat} {ss : List ByteArray} (h : w.ownsRow base e 1 v n (ss.map Value.string)) :
    ∃ A cap, v = .slice A n cap ∧ StrsAt w A n ss ∧ n ≤ cap ∧ cap ≤ maxLen := by
  have hl : ss.length = n := by have := h.1; simpa using this
  rcases h.2 with ⟨rfl, hx⟩ | ⟨g, cap, cur, rfl, hg, hh, hr⟩
  · subst hx
    have hn : ss = [] := List.length_eq_zero_iff.1 hl
    subst hn
    exact ⟨none, 0, rfl, ⟨rfl, fun h => absurd h (by omega)⟩, by omega, by unfold maxLen; omega⟩
  · refine ⟨some ⟨g, 0, none⟩, cap, rfl, ⟨hl, fun _ => ⟨g, 0, rfl, ?_, fun i hi => ?_⟩⟩, ?_, ?_⟩
    · exact (Array.getElem?_eq_some_iff.1 hh).1
    · have := h.cellAt i (by omega)
      rw [Nat.zero_add, this]
      simp [hi]
    · exact hr.1
    · exact hr.2.1

theorem own_from {w : World} {base : Nat} {e : TypeId} {size : Nat} {v : Value} {n : Nat} {xs : List Value} (h : w.ownsRow base e size v n xs) : ∀ k, v.ownBlock = some k → base ≤ k := by
  intro k hk
  rcases h.2 with ⟨rfl, _⟩ | ⟨g, cap, cur, rfl, hg, _⟩
  · cases hk
  · cases hk; exact hg

/-- Rows of texts in memory: a slice of slices. -/
structure RowsAt (w : World) (A : Option Addr) (len : Nat) (R : List (List ByteArray)) : Prop where
  size : R.length = len
  at_ : 0 < len → ∃ b o, A = some ⟨b, o, none⟩ ∧ b < w.heap.size ∧ ∀ i, (h : i < R.length) → ∃ A' c', w.cell? ⟨b, o + i, none⟩ = some (.slice A' R[i].length c') ∧ R[i].length ≤ c' ∧ c' ≤ maxLen ∧ StrsAt w A' R[i].length R[i]

end Go.Proofs.Ytbkagjngckfonaa
