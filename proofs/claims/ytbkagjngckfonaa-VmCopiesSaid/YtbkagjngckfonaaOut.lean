/- Rows of shapes of the call's own: appended to, overwritten, read. -/
import Derived.Test.YtbkagjngckfonaaShView
import Derived.Maps.AppendAt
namespace Go.Proofs.Ytbkagjngckfonaa
open Go.RowKit Go.ChangeShapes Go.WideShapes Go.Deep Go.ChangeAt
set_option linter.unusedVariables false

theorem infoShape : (Try.prog.info? 69).map (fun i => (i.zero, i.size, i.bytes)) = some (some (.agg #[.string ByteArray.empty, .slice none 0 0]), 2, 40) := by kernel_rfl

def cellsL (X : List Shp) : List Value := X.flatMap Shp.cells
theorem cellsL_append (X Y : List Shp) : cellsL (X ++ Y) = cellsL X ++ cellsL Y := List.flatMap_append
theorem cellsL_length : (X : List Shp) → (cellsL X).length = X.length * 2
  | [] => rfl
  | x :: X => by
    have h := cellsL_length X
    unfold cellsL at h ⊢
    rw [List.flatMap_cons, List.length_append, h, List.length_cons]
    show 2 + _ = _
    omega
theorem cellsL_at : (X : List Shp) → (i : Nat) → (hi : i < X.length) → (cellsL X)[i * 2]? = some (.string X[i].name) ∧ (cellsL X)[i * 2 + 1]? = some (.slice X[i].A X[i].len X[i].cap)
  | x :: X, 0, _ => ⟨rfl, rfl⟩
  | x :: X, i + 1, hi => by
    have h := cellsL_at X i (by simpa using hi)
    have e : cellsL (x :: X) = [.string x.name, .slice x.A x.len x.cap] ++ cellsL X := rfl
    rw [e, List.getElem?_append_right (by simp; omega), List.getElem?_append_right (by simp; omega)]
    have e1 : (i + 1) * 2 - ([Value.string x.name, .slice x.A x.len x.cap]).length = i * 2 := by simp; omega
    have e2 : (i + 1) * 2 + 1 - ([Value.string x.name, .slice x.A x.len x.cap]).length = i * 2 + 1 := by simp; omega
    rw [e1, e2]
    simpa using h
theorem cellsL_one (X : List Shp) : ∀ u ∈ cellsL X, u.oneCell' = true := by
  intro u hu
  obtain ⟨x, _, hx⟩ := List.mem_flatMap.1 hu
  simp only [Shp.cells, List.mem_cons, List.not_mem_nil, or_false] at hx
  rcases hx with rfl | rfl <;> rfl
theorem cellsL_set : (X : List Shp) → (i : Nat) → (x : Shp) → ((cellsL X).set (i * 2) (.string x.name)).set (i * 2 + 1) (.slice x.A x.len x.cap) = cellsL (X.set i x)
  | [], i, x => by simp [cellsL]
  | y :: X, 0, x => rfl
  | y :: X, i + 1, x => by
    have h := cellsL_set X i x
    have e : cellsL (y :: X) = .string y.name :: .slice y.A y.len y.cap :: cellsL X := rfl
    have e1 : (i + 1) * 2 = i * 2 + 1 + 1 := by omega
    rw [e, e1, List.set_cons_succ, List.set_cons_succ, List.set_cons_succ, List.set_cons_succ, h]
    rfl

theorem StrsAt.grown {w w' : World} {A : Option Addr} {len : Nat} {ss : List ByteArray} {row : Option Nat} (h : StrsAt w A len ss) (hg : w.grownBy w' row) (hne : ∀ a, A = some a → 0 < len → row ≠ some a.block) : StrsAt w' A len ss :=
  ⟨h.size, fun h0 => by
    obtain ⟨b, o, rfl, hl, hc⟩ := h.at_ h0
    refine ⟨b, o, rfl, Nat.lt_of_lt_of_le hl hg.size, fun i hi => ?_⟩
    have : w'.heap[b]? = w.heap[b]? := hg.block b hl (fun e => hne _ rfl h0 e.symm)
    rw [World.cell?_of_block (a := ⟨b, o + i, none⟩) this]
    exact hc i hi⟩
theorem StrsAt.lt {w : World} {A : Option Addr} {len : Nat} {ss : List ByteArray} (h : StrsAt w A len ss) {a : Addr} (ha : A = some a) (h0 : 0 < len) : a.block < w.heap.size := by
  obtain ⟨b, o, rfl, hl, _⟩ := h.at_ h0
  cases ha
  exact hl
theorem Shp.At.grown {w w' : World} {x : Shp} {row : Option Nat} (h : x.At w) (hg : w.grownBy w' row) (hne : ∀ a, x.A = some a → 0 < x.len → row ≠ some a.block) : x.At w' :=
  ⟨h.cells, h.wide, h.strs.grown hg hne, h.each, h.le, h.cap_⟩
theorem grown_of_below {w w' : World} (hb : Below w.heap.size w w') (row : Option Nat) : w.grownBy w' row := ⟨hb.os, hb.tape, hb.output, hb.size, fun i hi _ => hb.block i hi⟩

/-- A row of shapes that the call itself has made since w0. -/
structure OutAt (w0 w : World) (v : Value) (X : List Shp) : Prop where
  row : w.ownsRow w0.heap.size 69 2 v X.length (cellsL X)
  each : ∀ x ∈ X, x.At w
  apart : ∀ x ∈ X, ∀ a, x.A = some a → 0 < x.len → v.ownBlock ≠ some a.block
  below : Below w0.heap.size w0 w
theorem OutAt.start (w : World) : OutAt w w (.slice none 0 0) [] := ⟨World.ownsRow_nil _ _ _ _, by simp, by simp, Below.refl _ _⟩
theorem OutAt.later {w0 w w' : World} {v : Value} {X : List Shp} (h : OutAt w0 w v X) (hb : Below w.heap.size w w') : OutAt w0 w' v X :=
  ⟨h.row.kept (grown_of_below hb none) (by cases hv : v.ownBlock <;> simp), fun x hx => ShapeAt.below (h.each x hx) hb, h.apart, h.below.trans (hb.mono h.below.size)⟩
theorem OutAt.form {w0 w : World} {v : Value} {X : List Shp} (h : OutAt w0 w v X) : ∃ A cap, v = .slice A X.length cap ∧ X.length ≤ cap ∧ cap ≤ maxLen ∧ ShapesAt w A X.length X ∧ (0 < X.length → ∃ g, A = some ⟨g, 0, none⟩ ∧ w0.heap.size ≤ g) := by
  rcases h.row.2 with ⟨rfl, hn⟩ | ⟨g, cap, cur, hv, hg, hh, h1, h2, _⟩
  · have hX : X = [] := List.length_eq_zero_iff.1 hn
    subst hX
    exact ⟨none, 0, rfl, by simp, by unfold maxLen; omega, ⟨rfl, fun h => absurd h (by simp), by simp⟩, fun h => absurd h (by simp)⟩
  · have hrow := h.row
    rw [hv] at hrow
    refine ⟨some ⟨g, 0, none⟩, cap, hv, h1, h2, ⟨rfl, fun h0 => ⟨g, 0, rfl, (Array.getElem?_eq_some_iff.1 hh).1, fun i hi => ?_⟩, h.each⟩, fun _ => ⟨g, rfl, hg⟩⟩
    have hc := cellsL_at X i hi
    have c0 := hrow.cellAt (i * 2) (by omega)
    have c1 := hrow.cellAt (i * 2 + 1) (by omega)
    rw [Nat.zero_add]
    exact ⟨c0.trans hc.1, c1.trans hc.2⟩
/-- Where a shape's fields may lie beside the row. -/
theorem OutAt.free {w0 w : World} {v : Value} {X : List Shp} (h : OutAt w0 w v X) {k : Nat} (hk : w.heap.size ≤ k) : v.ownBlock ≠ some k := by
  intro e
  have := (h.row.lt k e).2
  omega

theorem cells_lit {w : World} {e : TypeId} (cs : Array Value) (news : List Value) (hx : cs.toList = news) :
    ∀ j u, news[j]? = some u → (w.alloc (.cells cs e)).cell? (Addr.add ⟨w.heap.size, 0, none⟩ j) = some u := by
  intro j u hj
  have h1 : (Addr.add ⟨w.heap.size, 0, none⟩ j) = ⟨w.heap.size, j, none⟩ := by unfold Addr.add; by_cases h0 : j = 0 <;> simp [h0]
  rw [h1, cell_new]
  subst hx
  simpa using hj

theorem wpList_out {w0 w : World} {ops : Array Oper} {rest : List Oper} {o : Oper} {act : Act} {Q : Exit → Act → World → Prop} (hgd : o.guard = none) (s y : Operand)
    (ho : o.op = .call { callee := .builtin .append, args := #[s, y], argTypes := #[43, 43] }) {v : Value} {X : List Shp} (hO : OutAt w0 w v X) (x : Shp) (hx : x.At w) (hap : ∀ a, x.A = some a → 0 < x.len → v.ownBlock ≠ some a.block)
    (hs : act.eval s = v) (hy : act.eval y = .slice (some ⟨w.heap.size, 0, none⟩) 1 1) (hb : X.length < 1099511627776)
    (h : ∀ v' w', OutAt w0 w' v' (X ++ [x]) → wpList Try.prog ops Q rest (act.put o.dst v') w') : wpList Try.prog ops Q (o :: rest) act (w.alloc (.cells #[.string x.name, .slice x.A x.len x.cap] 69)) := by
  obtain ⟨i0, hi, hz0, hz1, hz2⟩ := info_parts infoShape
  have hA := hO.later ((Below.refl w.heap.size w).alloc (Nat.le_refl _) (.cells #[.string x.name, .slice x.A x.len x.cap] 69))
  have hxA : x.At (w.alloc (.cells #[.string x.name, .slice x.A x.len x.cap] 69)) := ShapeAt.below hx ((Below.refl _ _).alloc (Nat.le_refl _) _)
  refine wpList_append_own_at _ hgd s y 43 ho w0.heap.size 69 i0 _ 2 40 Try.underlying43 hi hz0 hz1 hz2 rfl (by decide) v X.length (cellsL X) hs hA.row
    ⟨w.heap.size, 0, none⟩ 1 1 (cellsL [x]) hy (by rfl) (cells_lit _ _ rfl) (cellsL_one _) (by unfold maxLen; omega) (by omega) hA.below.size ?_
  intro v' w' h1 h2 _ h4
  have hfrom : ∀ k, v.ownBlock = some k → w0.heap.size ≤ k := fun k hk => (hO.row.lt k hk).1
  refine h v' w' ⟨?_, ?_, ?_, hA.below.grown h2 (Nat.le_trans hA.below.size (Nat.le_refl _)) hfrom⟩
  · rw [cellsL_append, List.length_append]; exact h1
  · intro z hz
    rcases List.mem_append.1 hz with hz | hz
    · exact (hA.each z hz).grown h2 (hO.apart z hz)
    · obtain rfl : z = x := by simpa using hz
      exact hxA.grown h2 hap
  · have hlt : ∀ z : Shp, z.At w → ∀ a, z.A = some a → 0 < z.len → a.block < w.heap.size := fun z hz a ha h0 => hz.strs.lt ha h0
    intro z hz a ha h0
    have hz2 : z.At w ∧ (v.ownBlock ≠ some a.block) := by
      rcases List.mem_append.1 hz with hz | hz
      · exact ⟨hO.each z hz, hO.apart z hz a ha h0⟩
      · obtain rfl : z = x := by simpa using hz
        exact ⟨hx, hap a ha h0⟩
    rcases h4 with h4 | h4
    · rw [h4]; exact hz2.2
    · rw [h4]
      intro e
      have h5 := hlt z hz2.1 a ha h0
      simp at e
      omega

/-- One element written anew. -/
theorem OutAt.put {w0 w : World} {g cap : Nat} {X : List Shp} (hO : OutAt w0 w (.slice (some ⟨g, 0, none⟩) X.length cap) X) (i : Nat) (x : Shp) (hx : x.At w) (hap : ∀ a, x.A = some a → 0 < x.len → g ≠ a.block) :
    OutAt w0 ((w.setCell ⟨g, i * 2, none⟩ (.string x.name)).setCell ⟨g, i * 2 + 1, none⟩ (.slice x.A x.len x.cap)) (.slice (some ⟨g, 0, none⟩) (X.set i x).length cap) (X.set i x) := by
  obtain ⟨h1, g1⟩ := hO.row.stored (i * 2) (.string x.name)
  obtain ⟨h2, g2⟩ := h1.stored (i * 2 + 1) (.slice x.A x.len x.cap)
  rw [cellsL_set] at h2
  have hg0 : w0.heap.size ≤ g := (hO.row.lt g rfl).1
  have hbl := (hO.below.setCell (p := ⟨g, i * 2, none⟩) hg0 (.string x.name)).setCell (p := ⟨g, i * 2 + 1, none⟩) hg0 (.slice x.A x.len x.cap)
  refine ⟨by rw [List.length_set]; exact h2, ?_, ?_, hbl⟩
  · intro z hz
    rcases List.mem_or_eq_of_mem_set hz with hz | rfl
    · have hne := hO.apart z hz
      exact ((hO.each z hz).grown g1 hne).grown g2 hne
    · have hne : ∀ a, z.A = some a → 0 < z.len → some g ≠ some a.block := fun a ha h0 e => hap a ha h0 (Option.some.inj e)
      exact (hx.grown g1 hne).grown g2 hne
  · intro z hz a ha h0
    rcases List.mem_or_eq_of_mem_set hz with hz | rfl
    · exact hO.apart z hz a ha h0
    · intro e
      exact hap a ha h0 (Option.some.inj e)

/-! ### what the shapes are behind others -/
def Shp.sh (x : Shp) : ByteArray × List ByteArray := (x.name, x.ss)
def mergeC (Y : List (ByteArray × List ByteArray)) (y : ByteArray × List ByteArray) : List (ByteArray × List ByteArray) :=
  if idxL (Y.map (·.1)) y.1 < 0 then Y ++ [y] else Y.set (idxL (Y.map (·.1)) y.1).toNat y
def behindC (L : List (ByteArray × List ByteArray)) : List (ByteArray × List ByteArray) := L.foldl mergeC []
theorem names_sh (X : List Shp) : (X.map Shp.sh).map (·.1) = names X := by rw [List.map_map]; rfl
theorem merge_app {X : List Shp} {x : Shp} (h : idxL (names X) x.name < 0) : mergeC (X.map Shp.sh) x.sh = (X ++ [x]).map Shp.sh := by
  unfold mergeC
  rw [names_sh]
  rw [if_pos (show idxL (names X) x.sh.1 < 0 from h), List.map_append]
  rfl
theorem merge_set {X : List Shp} {x : Shp} {k : Nat} (h : idxL (names X) x.name = k) : mergeC (X.map Shp.sh) x.sh = (X.set k x).map Shp.sh := by
  unfold mergeC
  rw [names_sh]
  have h' : idxL (names X) x.sh.1 = k := h
  rw [h', if_neg (by omega), Int.toNat_natCast, List.map_set]
theorem behind_take (L : List (ByteArray × List ByteArray)) (k : Nat) (h : k < L.length) : behindC (L.take (k + 1)) = mergeC (behindC (L.take k)) L[k] := by
  unfold behindC
  rw [List.take_succ_eq_append_getElem h, List.foldl_append]
  rfl
theorem mergeC_len (Y : List (ByteArray × List ByteArray)) (y : ByteArray × List ByteArray) : (mergeC Y y).length ≤ Y.length + 1 := by
  unfold mergeC
  split
  · simp
  · simp
theorem foldl_len : (L Y : List (ByteArray × List ByteArray)) → (L.foldl mergeC Y).length ≤ Y.length + L.length
  | [], Y => by simp
  | y :: L, Y => by
    have h1 := foldl_len L (mergeC Y y)
    have h2 := mergeC_len Y y
    simp only [List.foldl_cons, List.length_cons]
    omega
theorem behind_len (L : List (ByteArray × List ByteArray)) : (behindC L).length ≤ L.length := by
  have := foldl_len L []
  simpa [behindC] using this
theorem idxL_lt {ss : List ByteArray} {s : ByteArray} (h : ¬ idxL ss s < 0) : ∃ k : Nat, idxL ss s = k ∧ k < ss.length := by
  unfold idxL at h ⊢
  by_cases hi : inL ss s = true
  · rw [if_pos hi]
    refine ⟨_, rfl, ?_⟩
    rw [List.findIdx_lt_length]
    obtain ⟨x, hx, he⟩ := List.any_eq_true.1 hi
    exact ⟨x, hx, he⟩
  · rw [if_neg hi] at h
    exact absurd h (by simp)
end Go.Proofs.Ytbkagjngckfonaa
