/- A bard in memory: what is left of raw things, and the locals (short texts in a row of the call's own). -/
import Derived.Test.YtadcklijdbbkjaaGreatDoorTr
import Derived.Test.YtadcklijdbbkjaaGreatDoorItoa
namespace Go.Proofs.YtadcklijdbbkjaaGreatDoor
open Go.RowKit Go.ChangeShapes Go.WideShapes Go.Deep
set_option linter.unusedVariables false

def isI (n : Int) : Prop := -9223372036854775808 ≤ n ∧ n ≤ 9223372036854775807
/-- A slice of raw things below 'base'. -/
structure Raws (base : Nat) (w : World) (A : Option Addr) (len cap : Nat) : Prop where
  le : len ≤ cap
  wide : cap ≤ maxLen
  at_ : 0 < len → ∃ g o, A = some ⟨g, o, none⟩ ∧ g < base ∧ ∀ i, i < len → ∃ k a b c : Int, isI k ∧ isI a ∧ isI b ∧ isI c ∧ w.cell? ⟨g, o + i * 4, none⟩ = some (.int .i64 k) ∧ w.cell? ⟨g, o + i * 4 + 1, none⟩ = some (.int .i64 a) ∧ w.cell? ⟨g, o + i * 4 + 2, none⟩ = some (.int .i64 b) ∧ w.cell? ⟨g, o + i * 4 + 3, none⟩ = some (.int .i64 c)
theorem Raws.below {base : Nat} {w w' : World} {A : Option Addr} {len cap : Nat} (h : Raws base w A len cap) (hb : Below base w w') : Raws base w' A len cap :=
  ⟨h.le, h.wide, fun h0 => by
    obtain ⟨g, o, rfl, hg, hc⟩ := h.at_ h0
    refine ⟨g, o, rfl, hg, fun i hi => ?_⟩
    obtain ⟨k, a, b, c, k1, a1, b1, c1, e0, e1, e2, e3⟩ := hc i hi
    exact ⟨k, a, b, c, k1, a1, b1, c1, (hb.cell (p := ⟨g, _, none⟩) hg).trans e0, (hb.cell (p := ⟨g, _, none⟩) hg).trans e1, (hb.cell (p := ⟨g, _, none⟩) hg).trans e2, (hb.cell (p := ⟨g, _, none⟩) hg).trans e3⟩⟩
/-- A part of such a slice: from k on, up to m; the address as the model has it where there is something. -/
theorem Raws.part {base : Nat} {w : World} {g o len cap : Nat} (h : Raws base w (some ⟨g, o, none⟩) len cap) {k m c : Nat} (hm : m ≤ len) (hc : m - k ≤ c) (hw : c ≤ maxLen) (hg : g < base) {A : Option Addr} (hA : k < m → A = some ⟨g, o + k * 4, none⟩) : Raws base w A (m - k) c :=
  ⟨hc, hw, fun h0 => by
    obtain ⟨g', o', e, _, hcs⟩ := h.at_ (by omega)
    cases e
    refine ⟨g, o + k * 4, hA (by omega), hg, fun i hi => ?_⟩
    obtain ⟨k', a, b, c, k1, a1, b1, c1, e0, e1, e2, e3⟩ := hcs (k + i) (by omega)
    have e : o + k * 4 + i * 4 = o + (k + i) * 4 := by omega
    rw [e]
    exact ⟨k', a, b, c, k1, a1, b1, c1, e0, e1, e2, e3⟩⟩

/-- Short texts. -/
def kitTx : Kit ByteArray where
  k := 1
  cells s := [.string s]
  len _ := rfl
  one s u hu := by
    simp only [List.mem_cons, List.not_mem_nil, or_false] at hu
    subst hu
    rfl
  ok _ s := s.size ≤ 20
  uses _ _ := False
  lt _ _ _ _ h := h.elim
  kept _ _ _ _ h _ _ := h

def bO (b : Nat) (v : Value) (k : Nat) : Prop := k = b ∨ v.ownBlock = some k
structure Bard (ty base : Nat) (w : World) (b : Nat) (v : Value) (n : Nat) : Prop where
  from_ : base ≤ b
  lt : b < w.heap.size
  raw : ∃ A len cap, w.cell? ⟨b, 0, none⟩ = some (.slice A len cap) ∧ Raws base w A len cap
  loc : w.cell? ⟨b, 1, none⟩ = some v
  frz : ∀ o, w.frozen? ⟨b, o, none⟩ = false
  own : ∃ X, X.length = n ∧ OwnAt kitTx ty base w v X
  apart : v.ownBlock ≠ some b
  tab : TabB base w
  pos : 0 < n
section
variable {ty base : Nat} {w w' : World} {b : Nat} {v : Value} {n : Nat}
theorem Bard.base_le (h : Bard ty base w b v n) : base ≤ w.heap.size := Nat.le_trans h.from_ (Nat.le_of_lt h.lt)
theorem Bard.from' (h : Bard ty base w b v n) : ∀ k, bO b v k → base ≤ k := fun k hk => by
  rcases hk with rfl | hk
  · exact h.from_
  · obtain ⟨X, _, ho⟩ := h.own
    exact (ho.row.lt k hk).1
theorem Bard.lt' (h : Bard ty base w b v n) : ∀ k, bO b v k → k < w.heap.size := fun k hk => by
  rcases hk with rfl | hk
  · exact h.lt
  · obtain ⟨X, _, ho⟩ := h.own
    exact (ho.row.lt k hk).2
/-- What does not touch the bard's blocks leaves it. -/
theorem Bard.kept (h : Bard ty base w b v n) (hs : w.heap.size ≤ w'.heap.size) (ho : w'.os = w.os) (ht : w'.tape = w.tape) (hp : w'.output = w.output) (hk : ∀ k, k < base ∨ bO b v k → k < w.heap.size → w'.heap[k]? = w.heap[k]?) : Bard ty base w' b v n := by
  have hb : w'.heap[b]? = w.heap[b]? := hk b (Or.inr (Or.inl rfl)) h.lt
  refine ⟨h.from_, Nat.lt_of_lt_of_le h.lt hs, ?_, (World.cell?_of_block (a := ⟨b, 1, none⟩) hb).trans h.loc, fun o => (World.frozen?_of_block (a := ⟨b, o, none⟩) hb).trans (h.frz o), ?_, h.apart, h.tab.below ⟨ho, ht, hp, hs, fun k hk' => hk k (Or.inl hk') (Nat.lt_of_lt_of_le hk' h.base_le)⟩, h.pos⟩
  · obtain ⟨A, len, cap, hc, hr⟩ := h.raw
    exact ⟨A, len, cap, (World.cell?_of_block (a := ⟨b, 0, none⟩) hb).trans hc, hr.below ⟨ho, ht, hp, hs, fun k hk' => hk k (Or.inl hk') (Nat.lt_of_lt_of_le hk' h.base_le)⟩⟩
  · obtain ⟨X, hX, hO⟩ := h.own
    refine ⟨X, hX, ⟨?_, fun x hx => hO.each x hx, hO.from_, hO.apart⟩⟩
    obtain ⟨h1, h2⟩ := hO.row
    refine ⟨h1, ?_⟩
    rcases h2 with h2 | ⟨g, cap, cur, hv, hg, hh, r⟩
    · exact Or.inl h2
    · refine Or.inr ⟨g, cap, cur, hv, hg, ?_, r⟩
      rw [hk g (Or.inr (Or.inr (by rw [hv]; rfl))) (Array.getElem?_eq_some_iff.1 hh).1]
      exact hh
theorem Bard.new (h : Bard ty base w b v n) (hb : Below w.heap.size w w') : Bard ty base w' b v n := h.kept hb.size hb.os hb.tape hb.output (fun k _ hk => hb.block k hk)
theorem Bard.tr {O O' : Nat → Prop} (h : Bard ty base w b v n) (ht : Tr O O' w w') (hO : ∀ k, O k → base ≤ k ∧ ¬ bO b v k) : Bard ty base w' b v n :=
  h.kept ht.size ht.os ht.tape ht.output (fun k hk hl => ht.block k hl (fun ho => by
    obtain ⟨h1, h2⟩ := hO k ho
    rcases hk with hk | hk
    · omega
    · exact h2 hk))
end
/-- What a bard's method does: only the bard's blocks turn. -/
def BardPost (ty base : Nat) (w : World) (b : Nat) (v : Value) (n L : Nat) (e : Ending) (w' : World) : Prop :=
  ∃ (s : ByteArray) (v' : Value), e = .returned (.string s) ∧ s.size ≤ L ∧ Bard ty base w' b v' n ∧ Tr (bO b v) (bO b v') w w'
/-- How long a text of so many levels may be. -/
def Lb : Nat → Nat
  | 0 => 20
  | d + 1 => 3 * Lb d + 100
/-- A block that is not the bard's. -/
structure Fix (b : Nat) (w : World) (v : Value) (g : Nat) (cs : List Value) : Prop where
  lt : g < w.heap.size
  ne : ¬ bO b v g
  at_ : ∀ j, j < cs.length → w.cell? ⟨g, j, none⟩ = cs[j]?
section
variable {ty base : Nat} {w w' : World} {b g : Nat} {v v' : Value} {n : Nat} {cs : List Value}
theorem Fix.new (h : Fix b w v g cs) (hb : Below w.heap.size w w') : Fix b w' v g cs :=
  ⟨Nat.lt_of_lt_of_le h.lt hb.size, h.ne, fun j hj => (hb.cell (p := ⟨g, j, none⟩) h.lt).trans (h.at_ j hj)⟩
theorem Fix.tr (h : Fix b w v g cs) (ht : Tr (bO b v) (bO b v') w w') : Fix b w' v' g cs :=
  ⟨Nat.lt_of_lt_of_le h.lt ht.size, ht.apart h.lt h.ne, fun j hj => (World.cell?_of_block (a := ⟨g, j, none⟩) (ht.block g h.lt h.ne)).trans (h.at_ j hj)⟩
theorem Fix.alloc (h : Bard ty base w b v n) (cs : Array Value) (T : TypeId) : Fix b (w.alloc (.cells cs T)) v w.heap.size cs.toList :=
  ⟨by simp, fun hO => by have := h.lt' _ hO; omega, fun j _ => by rw [cell_new]; simp⟩
end
theorem flat_tx (X : List ByteArray) : (X.map kitTx.cells).flatten = X.map Value.string := by
  induction X with
  | nil => rfl
  | cons x X ih => rw [List.map_cons, List.flatten_cons, ih]; rfl
section
variable {ty base : Nat} {w w' : World} {b : Nat} {v v' : Value} {n : Nat}
/-- The locals, opened. -/
theorem Bard.open_ (h : Bard ty base w b v n) : ∃ (X : List ByteArray) (g cap : Nat), X.length = n ∧ v = .slice (some ⟨g, 0, none⟩) n cap ∧ n ≤ cap ∧ cap ≤ maxLen ∧ g < w.heap.size ∧ g ≠ b ∧ OwnAt kitTx ty base w v X ∧ ∀ i, (hi : i < X.length) → w.cell? ⟨g, i, none⟩ = some (.string X[i]) ∧ X[i].size ≤ 20 := by
  obtain ⟨X, hX, hO⟩ := h.own
  have hp := h.pos
  rcases hO.row.2 with ⟨hv, h0⟩ | ⟨g, cap, cur, hv, hg, hh, h1, h2, h3, h4⟩
  · omega
  · rw [hX] at hv h1
    refine ⟨X, g, cap, hX, hv, h1, h2, (Array.getElem?_eq_some_iff.1 hh).1, ?_, hO, fun i hi => ⟨?_, hO.each _ (List.getElem_mem hi)⟩⟩
    · intro e
      exact h.apart (by rw [hv, e]; rfl)
    · have hc := hO.row.cells (g := g) (by rw [hv]; rfl) i (.string X[i]) (by rw [flat_tx]; simp)
      have ha : (Addr.add ⟨g, 0, none⟩ i) = ⟨g, i, none⟩ := by unfold Addr.add; by_cases h0 : i = 0 <;> simp [h0]
      rwa [ha] at hc
/-- Behind an append to the locals and its store. -/
theorem Bard.push (h : Bard ty base w b v n) {X : List ByteArray} (hX : X.length = n) {x : ByteArray} (hO : OwnAt kitTx ty base w' v' (X ++ [x])) (hg : w.grownBy w' v.ownBlock) (hv : v'.ownBlock = v.ownBlock ∨ ∃ k, v'.ownBlock = some k ∧ w.heap.size ≤ k) :
    Bard ty base (w'.setCell ⟨b, 1, none⟩ v') b v' (n + 1) ∧ Tr (bO b v) (bO b v') w (w'.setCell ⟨b, 1, none⟩ v') := by
  have hvb : v'.ownBlock ≠ some b := by
    rcases hv with e | ⟨k, e, hk⟩
    · rw [e]; exact h.apart
    · rw [e]; intro e'; have := Option.some.inj e'; have := h.lt; omega
  have hbw : w'.heap[b]? = w.heap[b]? := hg.block b h.lt (fun e => h.apart e.symm)
  have hcell : ∀ o, w'.cell? ⟨b, o, none⟩ = w.cell? ⟨b, o, none⟩ := fun o => World.cell?_of_block (a := ⟨b, o, none⟩) hbw
  have hfrz : ∀ o, w'.frozen? ⟨b, o, none⟩ = false := fun o => (World.frozen?_of_block (a := ⟨b, o, none⟩) hbw).trans (h.frz o)
  have htr1 : Tr (bO b v) (bO b v') w w' := (Tr.of_grown (O := bO b v) hg (fun k e => Or.inr e)).less (fun k hk => by
    rcases hk with rfl | hk
    · exact Or.inl (Or.inl rfl)
    · rcases hv with e | ⟨k', e, hk'⟩
      · exact Or.inl (Or.inr (by rw [← e]; exact hk))
      · rw [e] at hk
        have := Option.some.inj hk
        exact Or.inr (by omega))
  have htr : Tr (bO b v) (bO b v') w (w'.setCell ⟨b, 1, none⟩ v') := htr1.set (Or.inl rfl) v'
  have hbel : Below base w (w'.setCell ⟨b, 1, none⟩ v') := htr.below h.from' h.base_le
  refine ⟨⟨h.from_, Nat.lt_of_lt_of_le h.lt htr.size, ?_, set_same ((hcell 1).trans h.loc), ?_, ⟨X ++ [x], by simp [hX], ?_⟩, hvb, h.tab.below hbel, Nat.succ_pos n⟩, htr⟩
  · obtain ⟨A, len, cap, hc, hr⟩ := h.raw
    exact ⟨A, len, cap, set_other ((hcell 0).trans hc) (by omega), hr.below hbel⟩
  · intro o
    simpa using hfrz o
  · exact hO.grown (grown_set w' b 1 v') (Or.inr (fun e => hvb e)) (fun _ _ _ hu => hu.elim)
/-- Behind the locals' last one is cut off. -/
theorem Bard.cut {g cap : Nat} (h : Bard ty base w b (.slice (some ⟨g, 0, none⟩) (n + 1) cap) (n + 1)) (hn : 0 < n) :
    Bard ty base (w.setCell ⟨b, 1, none⟩ (.slice (some ⟨g, 0, none⟩) n cap)) b (.slice (some ⟨g, 0, none⟩) n cap) n ∧ Tr (bO b (.slice (some ⟨g, 0, none⟩) (n + 1) cap)) (bO b (.slice (some ⟨g, 0, none⟩) n cap)) w (w.setCell ⟨b, 1, none⟩ (.slice (some ⟨g, 0, none⟩) n cap)) := by
  have htr : Tr (bO b (.slice (some ⟨g, 0, none⟩) (n + 1) cap)) (bO b (.slice (some ⟨g, 0, none⟩) n cap)) w (w.setCell ⟨b, 1, none⟩ (.slice (some ⟨g, 0, none⟩) n cap)) :=
    ((Tr.refl (bO b (.slice (some ⟨g, 0, none⟩) (n + 1) cap)) w).less (O'' := bO b (.slice (some ⟨g, 0, none⟩) n cap)) (fun k hk => Or.inl hk)).set (Or.inl rfl) _
  have hbel := htr.below h.from' h.base_le
  refine ⟨⟨h.from_, Nat.lt_of_lt_of_le h.lt htr.size, ?_, set_same h.loc, ?_, ?_, h.apart, h.tab.below hbel, hn⟩, htr⟩
  · obtain ⟨A, len, cap, hc, hr⟩ := h.raw
    exact ⟨A, len, cap, set_other hc (by omega), hr.below hbel⟩
  · intro o
    simpa using h.frz o
  · obtain ⟨X, hX, hO⟩ := h.own
    have hcut : OwnAt kitTx ty base w (.slice (some ⟨g, 0, none⟩) n cap) (X.take n) := by
      refine ⟨⟨?_, ?_⟩, fun x hx => hO.each x (List.mem_of_mem_take hx), fun _ _ _ hu => hu.elim, fun _ _ _ hu => hu.elim⟩
      · rw [flat_tx, List.length_map]; show _ = _ * 1; omega
      · rcases hO.row.2 with ⟨hv, _⟩ | ⟨g', cap', cur, hv, hg, hh, h1, h2, h3, h4⟩
        · cases hv
        · simp only [Value.slice.injEq, Option.some.injEq, Addr.mk.injEq] at hv
          obtain ⟨⟨rfl, _, _⟩, _, rfl⟩ := hv
          have hl : (X.take n).length = n := by rw [List.length_take]; omega
          refine Or.inr ⟨g, cap, cur, by rw [hl], hg, hh, by rw [hl]; omega, h2, h3, ?_⟩
          rw [flat_tx] at h4 ⊢
          rw [hl, List.map_take, ← h4, List.take_take]
          show cur.toList.take (n * 1) = _
          congr 1
          show _ = min n (X.length * 1)
          omega
    refine ⟨X.take n, by rw [List.length_take]; omega, hcut.grown (grown_set w b 1 _) (Or.inr h.apart) (fun _ _ _ hu => hu.elim)⟩
end
end Go.Proofs.YtadcklijdbbkjaaGreatDoor
