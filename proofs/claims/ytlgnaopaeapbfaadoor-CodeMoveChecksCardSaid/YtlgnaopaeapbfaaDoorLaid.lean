/- What the listed package-level maps (unit.keywords, unit.arity, code.arity) answer, in the world at the call and in every later one. -/
import Derived.Test.YtlgnaopaeapbfaaDoorPrims
import Derived.ProofKit
import Derived.LaidMore
import Derived.OpenShut
import Derived.Stop.Joined
namespace Go.Proofs.YtlgnaopaeapbfaaDoor
open Go.ChangeShapes Go.WideShapes Go.ChangeAt Go.WideMaps Go.WideElems Go.RowKit
set_option linter.unusedVariables false

theorem keyLaw : KeyLaw Tryd.prog 9 := string_law Tryd.underlying9

/-- The map m of the variable g answers as keywords does. -/
def KwAt (w : World) : Prop := ∃ bm, w.cell? ⟨1, 0, none⟩ = some (.map (some bm)) ∧ bm < w.heap.size ∧ 1 < w.heap.size ∧
  ∀ w' : World, w'.heap[bm]? = w.heap[bm]? → ∀ s : ByteArray, s.size ≤ maxLen → (Instr.lookup 61 (.map (some bm)) (.string s) false).run Tryd.prog w' = .ok (.bool (isKw s.toList)) w'

def ArAt (g : Nat) (w : World) : Prop := ∃ bm, w.cell? ⟨g, 0, none⟩ = some (.map (some bm)) ∧ bm < w.heap.size ∧ g < w.heap.size ∧
  ∀ w' : World, w'.heap[bm]? = w.heap[bm]? → ∀ s : ByteArray, s.size ≤ maxLen → (Instr.lookup 60 (.map (some bm)) (.string s) true).run Tryd.prog w' = .ok (.tuple #[.int .i64 (if primN s.toList < 0 then 0 else primN s.toList), .bool (decide (0 ≤ primN s.toList))]) w'

theorem KwAt.below {w w' : World} (h : KwAt w) (hb : Below w.heap.size w w') : KwAt w' := by
  obtain ⟨bm, h1, h2, h3, h4⟩ := h
  exact ⟨bm, (hb.cell (p := ⟨_, 0, none⟩) h3).trans h1, Nat.lt_of_lt_of_le h2 hb.size, Nat.lt_of_lt_of_le h3 hb.size, fun v hv s hs => h4 v (hv.trans (hb.block bm h2)) s hs⟩
theorem ArAt.below {g : Nat} {w w' : World} (h : ArAt g w) (hb : Below w.heap.size w w') : ArAt g w' := by
  obtain ⟨bm, h1, h2, h3, h4⟩ := h
  exact ⟨bm, (hb.cell (p := ⟨_, 0, none⟩) h3).trans h1, Nat.lt_of_lt_of_le h2 hb.size, Nat.lt_of_lt_of_le h3 hb.size, fun v hv s hs => h4 v (hv.trans (hb.block bm h2)) s hs⟩

theorem find_none {H : Type} (l : List UInt8) : ∀ (es : List (Lit × DataW H)), (∀ p ∈ es, ∃ k : List UInt8, p.1 = .string k ∧ k ≠ l) → es.find? (fun p => p.1.sameKey (.string l)) = none
  | [], _ => rfl
  | p :: es, h => by
    obtain ⟨k, hk, hne⟩ := h p (by simp)
    rw [List.find?_cons, find_none l es (fun q hq => h q (by simp [hq]))]
    have : p.1.sameKey (.string l) = false := by rw [hk]; simpa [Lit.sameKey] using hne
    rw [this]

theorem kw_datum (l : List UInt8) (z : DataW Unit) : (Rows.laid_graftery_unit_keywords (H := Unit)).atKey (.string l) z = if isKw l then .lit (.bool true) else z := by
  by_cases h : isKw l = true
  · rw [if_pos h]
    have hm : l ∈ kws := by simpa [isKw] using h
    simp only [kws, List.mem_cons, List.not_mem_nil, or_false] at hm
    rcases hm with rfl | rfl | rfl | rfl | rfl | rfl | rfl | rfl | rfl | rfl <;> rfl
  · rw [if_neg h]
    have hm : ∀ k ∈ kws, k ≠ l := by
      rintro k hk rfl
      exact h (by simpa [isKw] using hk)
    unfold Rows.laid_graftery_unit_keywords DataW.atKey
    dsimp only
    rw [find_none]
    intro p hp
    simp only [List.mem_cons, List.not_mem_nil, or_false] at hp
    rcases hp with rfl | rfl | rfl | rfl | rfl | rfl | rfl | rfl | rfl | rfl <;> exact ⟨_, rfl, hm _ (by decide)⟩
theorem ar_datum (l : List UInt8) (z : DataW Unit) : (Rows.laid_graftery_unit_arity (H := Unit)).atKey (.string l) z = if primN l < 0 then z else .lit (.int .i64 (primN l)) := by
  by_cases h : l ∈ prims2 ++ prims1
  · rw [if_neg (by
      unfold primN
      rcases List.mem_append.1 h with h2 | h1
      · rw [if_pos h2]; decide
      · by_cases h2 : l ∈ prims2
        · rw [if_pos h2]; decide
        · rw [if_neg h2, if_pos h1]; decide)]
    simp only [prims2, prims1, List.cons_append, List.nil_append, List.mem_cons, List.not_mem_nil, or_false] at h
    rcases h with rfl | rfl | rfl | rfl | rfl | rfl | rfl | rfl | rfl | rfl | rfl | rfl | rfl | rfl | rfl <;> rfl
  · have h2 : l ∉ prims2 := fun hm => h (List.mem_append_left _ hm)
    have h1 : l ∉ prims1 := fun hm => h (List.mem_append_right _ hm)
    rw [if_pos (by unfold primN; rw [if_neg h2, if_neg h1]; decide)]
    have hm : ∀ k ∈ prims2 ++ prims1, k ≠ l := by
      rintro k hk rfl
      exact h hk
    unfold Rows.laid_graftery_unit_arity DataW.atKey
    dsimp only
    rw [find_none]
    intro p hp
    simp only [List.mem_cons, List.not_mem_nil, or_false] at hp
    rcases hp with rfl | rfl | rfl | rfl | rfl | rfl | rfl | rfl | rfl | rfl | rfl | rfl | rfl | rfl | rfl <;> exact ⟨_, rfl, hm _ (by decide)⟩

theorem zeroBool (w : World) : (zeroValue 4).run Tryd.prog w = .ok (.bool false) w := by kernel_rfl
theorem zeroInt (w : World) : (zeroValue 3).run Tryd.prog w = .ok (.int .i64 0) w := by kernel_rfl

/-- What the listed map of keywords gives. -/
theorem kw_of {W : World} {g : Nat} {t : TypeId} {cs : Array Value} {f : Nat} {p : List MemPlace} {enc : TypeId × Value → Unit} {sp : Nat → Bool} {hd : Bool} (hg : Tryd.prog.globalNamed "graftery/unit.keywords" = some g) (ht : (Tryd.prog.globals[g]?).map (·.type) = some t)
    (hv : W.var? Tryd.prog "graftery/unit.keywords" = some cs) (hr : DataW.trod enc Tryd.prog W 0 sp hd f t cs.toList = some (Rows.laid_graftery_unit_keywords, p)) : KwAt W := by
  obtain rfl : 1 = g := Option.some.inj ((show Tryd.prog.globalNamed "graftery/unit.keywords" = some 1 by kernel_rfl).symm.trans hg)
  obtain rfl : 61 = t := Option.some.inj ((show (Tryd.prog.globals[1]?).map (·.type) = some 61 by kernel_rfl).symm.trans ht)
  rcases open_map Tryd.underlying61 hr with ⟨_, hx⟩ | ⟨bm, es, clock, m, rfl, hcs, hb, _, F, hx⟩
  · simp [Rows.laid_graftery_unit_keywords] at hx
  simp only [Prod.mk.injEq] at hx
  have hcell : W.cell? ⟨1, 0, none⟩ = some (.map (some bm)) := by
    have := World.var?_cell hg hv 0
    rw [Array.eq_one_of_toList hcs] at this
    simpa using this
  have hlt : ∀ {k : Nat} {v : Value}, W.cell? ⟨k, 0, none⟩ = some v → k < W.heap.size := by
    intro k v h
    unfold World.cell? at h
    split at h
    · rename_i e; exact (Array.getElem?_eq_some_iff.1 e).1
    · cases h
  refine ⟨bm, hcell, (Array.getElem?_eq_some_iff.1 hb).1, hlt hcell, fun w' hw' s hs => ?_⟩
  have hb' := hw'.trans hb
  have hdat := kw_datum s.data.toList
  rw [ByteArray.toList_eq]
  rcases fit_lookup (w := w') keyLaw Tryd.underlying61 (zeroBool w') hb' F (keyOf_string_mk (s := s) Tryd.underlying9 hs) with ⟨hrun, hat⟩ | ⟨v, y, hrun, hRv, hat, _⟩
  · have h1 := hat (.lit (.bool false))
    rw [← hx.1, hdat] at h1
    cases hk : isKw s.data.toList
    · exact hrun
    · rw [hk] at h1; simp at h1
  · obtain ⟨r, rfl, rfl⟩ := elemAt_bool Tryd.underlying4 hRv
    have h1 := hat .nil
    rw [← hx.1, hdat] at h1
    cases hk : isKw s.data.toList
    · rw [hk] at h1; simp at h1
    · rw [hk] at h1; simp at h1; subst h1; exact hrun

theorem ar_of {W : World} {n : String} {g0 g : Nat} {t : TypeId} {cs : Array Value} {f : Nat} {p : List MemPlace} {enc : TypeId × Value → Unit} {sp : Nat → Bool} {hd : Bool} (hg0 : Tryd.prog.globalNamed n = some g0) (ht0 : (Tryd.prog.globals[g0]?).map (·.type) = some 60)
    (hg : Tryd.prog.globalNamed n = some g) (ht : (Tryd.prog.globals[g]?).map (·.type) = some t)
    (hv : W.var? Tryd.prog n = some cs) (hr : DataW.trod enc Tryd.prog W 0 sp hd f t cs.toList = some (Rows.laid_graftery_unit_arity, p)) : ArAt g0 W := by
  obtain rfl : g0 = g := Option.some.inj (hg0.symm.trans hg)
  obtain rfl : 60 = t := Option.some.inj (ht0.symm.trans ht)
  rcases open_map Tryd.underlying60 hr with ⟨_, hx⟩ | ⟨bm, es, clock, m, rfl, hcs, hb, _, F, hx⟩
  · simp [Rows.laid_graftery_unit_arity] at hx
  simp only [Prod.mk.injEq] at hx
  have hcell : W.cell? ⟨g0, 0, none⟩ = some (.map (some bm)) := by
    have := World.var?_cell hg hv 0
    rw [Array.eq_one_of_toList hcs] at this
    simpa using this
  have hlt : ∀ {k : Nat} {v : Value}, W.cell? ⟨k, 0, none⟩ = some v → k < W.heap.size := by
    intro k v h
    unfold World.cell? at h
    split at h
    · rename_i e; exact (Array.getElem?_eq_some_iff.1 e).1
    · cases h
  refine ⟨bm, hcell, (Array.getElem?_eq_some_iff.1 hb).1, hlt hcell, fun w' hw' s hs => ?_⟩
  have hb' := hw'.trans hb
  have hdat := ar_datum s.data.toList
  rw [ByteArray.toList_eq]
  rcases fit_lookup_ok (w := w') keyLaw Tryd.underlying60 (zeroInt w') hb' F (keyOf_string_mk (s := s) Tryd.underlying9 hs) with ⟨hrun, hat⟩ | ⟨v, y, hrun, hRv, hat, _⟩
  · have h1 := hat .nil
    rw [← hx.1, hdat] at h1
    by_cases hk : primN s.data.toList < 0
    · rw [if_pos hk, decide_eq_false (by omega)]; exact hrun
    · rw [if_neg hk] at h1; cases h1
  · obtain ⟨r, rfl, rfl, _⟩ := elemAt_int Tryd.underlying3 hRv
    have h1 := hat .nil
    rw [← hx.1, hdat] at h1
    by_cases hk : primN s.data.toList < 0
    · rw [if_pos hk] at h1; cases h1
    · rw [if_neg hk] at h1
      rw [if_neg hk, decide_eq_true (by omega)]
      simp only [DataW.lit.injEq, Lit.int.injEq, true_and] at h1
      rw [h1]; exact hrun
end Go.Proofs.YtlgnaopaeapbfaaDoor
