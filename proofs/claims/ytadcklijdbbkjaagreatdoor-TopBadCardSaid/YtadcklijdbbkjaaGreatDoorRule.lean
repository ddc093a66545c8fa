/- A rule for regions that draw their order: what holds of each slot, whatever the order. -/
import Derived.Test.YtadcklijdbbkjaaGreatDoorBard2
import Derived.Orders
namespace Go.Proofs.YtadcklijdbbkjaaGreatDoor
open Go.RowKit
set_option linter.unusedVariables false

def slot (a : Act) (k : Nat) : Value := a.tmps.getD k undef
theorem eval_tmp (a : Act) (k : Nat) : a.eval (.tmp k) = slot a k := rfl
theorem slot_put {a : Act} {d : Nat} {v : Value} (h : d < a.tmps.size) : slot (a.put (some d) v) d = v := by
  unfold slot Act.put
  simp [h]
theorem slot_put_ne {a : Act} {d k : Nat} {v : Value} (h : k ≠ d) : slot (a.put (some d) v) k = slot a k := by
  unfold slot Act.put
  simp [Array.getElem?_setIfInBounds_ne (Ne.symm h)]
/-- An operation and what holds of what it yields. -/
abbrev Told := Oper × (Value → World → Prop)
section
variable {P : Program} {C : World → Prop} {R : World → World → Prop} {F : List (Nat × Value)} {L : List Told} {sz : Nat}
/-- What is known of what an operation leans on. -/
def Known (L : List Told) (o : Oper) (a : Act) (w : World) : Prop :=
  ∀ e ∈ o.after, Region.binds .any e = true → ∀ (t : Told) (d : Nat), L[e.on]? = some t → t.1.dst = some d → t.2 (slot a d) w
def OpOk (P : Program) (C : World → Prop) (R : World → World → Prop) (F : List (Nat × Value)) (L : List Told) (t : Told) : Prop :=
  ∀ (a : Act) (w : World) (K : Act → World → Prop) (Q : Exit → Act → World → Prop), C w → (∀ p ∈ F, slot a p.1 = p.2) → Known L t.1 a w →
    (∀ v w', C w' → R w w' → t.2 v w' → K (a.put t.1.dst v) w') → t.1.wp P a w K Q
structure RInv (C : World → Prop) (F : List (Nat × Value)) (L : List Told) (sz : Nat) (listed : Array Bool) (a : Act) (w : World) : Prop where
  cls : C w
  lsz : listed.size = L.length
  size : a.tmps.size = sz
  defs : a.defers = []
  fixed : ∀ p ∈ F, slot a p.1 = p.2
  done : ∀ (i : Nat) (t : Told) (d : Nat), L[i]? = some t → t.1.dst = some d → listed.getD i false = true → t.2 (slot a d) w
/-- The form of the region. -/
structure RForm (F : List (Nat × Value)) (L : List Told) (sz : Nat) : Prop where
  guard : ∀ t ∈ L, t.1.guard = none
  bound : ∀ t ∈ L, ∀ d, t.1.dst = some d → d < sz ∧ ∀ p ∈ F, p.1 ≠ d
  apart : ∀ (i j : Nat) (ti tj : Told) (d : Nat), L[i]? = some ti → L[j]? = some tj → ti.1.dst = some d → tj.1.dst = some d → i = j
  back : ∀ (i : Nat) (t : Told), L[i]? = some t → ∀ e ∈ t.1.after, e.on < i
theorem rule_run (hF : RForm F L sz) (hs : ∀ t ∈ L, ∀ v w w', t.2 v w → R w w' → t.2 v w') (hop : ∀ t ∈ L, OpOk P C R F L t) {Q : Exit → Act → World → Prop}
    (hend : ∀ a w, C w → a.tmps.size = sz → a.defers = [] → (∀ p ∈ F, slot a p.1 = p.2) → (∀ (i : Nat) (t : Told) (d : Nat), L[i]? = some t → t.1.dst = some d → t.2 (slot a d) w) → Q .normal a w) :
    ∀ (fuel : Nat) (listed : Array Bool) (a : Act) (w : World), listed.toList.count false ≤ fuel → RInv C F L sz listed a w → wpAny P .any (L.map (·.1)).toArray Q fuel listed a w := by
  have hops : ∀ i : Nat, ((L.map (·.1)).toArray)[i]? = (L[i]?).map (·.1) := fun i => by simp
  -- nothing is ready: all have come up
  have hall : ∀ (listed : Array Bool), listed.size = L.length → Region.ready .any (L.map (·.1)).toArray listed = [] → ∀ i, i < L.length → listed.getD i false = true := by
    intro listed hl hr i
    induction i using Nat.strongRecOn with
    | _ i ih =>
      intro hi
      cases hb : listed.getD i false with
      | true => rfl
      | false =>
        exfalso
        have hm : i ∈ Region.ready .any (L.map (·.1)).toArray listed := by
          refine mem_ready.2 ⟨?_, L[i].1, by rw [hops]; simp [hi], fun e he _ => ?_⟩
          · have hi' : i < listed.size := by omega
            simp [hi'] at hb ⊢
            exact hb
          · have := hF.back i L[i] (by simp [hi]) e he
            exact ih e.on this (by omega)
        rw [hr] at hm
        cases hm
  have hfin : ∀ (listed : Array Bool) (a : Act) (w : World), RInv C F L sz listed a w → Region.ready .any (L.map (·.1)).toArray listed = [] → Q .normal a w := fun listed a w h hr =>
    hend a w h.cls h.size h.defs h.fixed (fun i t d hi hd => h.done i t d hi hd (hall listed h.lsz hr i (List.getElem?_eq_some_iff.1 hi).1))
  intro fuel
  induction fuel with
  | zero =>
    intro listed a w hc h
    have hr : Region.ready .any (L.map (·.1)).toArray listed = [] := by
      refine List.eq_nil_iff_forall_not_mem.2 fun i hi => ?_
      obtain ⟨h0, o, ho, _⟩ := mem_ready.1 hi
      have hi1 : i < L.length := by
        have := (Array.getElem?_eq_some_iff.1 ho).1
        simpa using this
      have hi2 : i < listed.size := by rw [h.lsz]; exact hi1
      have : false ∈ listed.toList := by
        have e : listed[i] = false := by simpa [hi2] using h0
        rw [← e]
        simp
      have := List.count_pos_iff.2 this
      omega
    exact ⟨hr, hfin listed a w h hr⟩
  | succ fuel ih =>
    intro listed a w hc h
    refine ⟨hfin listed a w h, fun i hi => ?_⟩
    obtain ⟨h0, o, ho, hall'⟩ := mem_ready.1 hi
    have hi1 : i < L.length := by
      have := (Array.getElem?_eq_some_iff.1 ho).1
      simpa using this
    have hi2 : i < listed.size := by rw [h.lsz]; exact hi1
    obtain ⟨t, ht⟩ : ∃ t, L[i]? = some t := ⟨L[i], by simp [hi1]⟩
    have htm : t ∈ L := List.mem_of_getElem? ht
    have hot : o = t.1 := by
      rw [hops, ht] at ho
      exact (Option.some.inj ho).symm
    subst hot
    have hw : Region.wanted t.1 (yielded (L.map (·.1)).toArray a.tmps) = true := by simp [Region.wanted, hF.guard t htm]
    unfold wpOp
    rw [ho]
    simp only [hw, if_true]
    left
    refine hop t htm a w _ Q h.cls h.fixed ?_ ?_
    · intro e he hb t' d hL hd
      exact h.done e.on t' d hL hd (hall' e he hb)
    · intro v w' hC' hR hψ
      refine ih _ _ _ ?_ ⟨hC', by simpa using h.lsz, ?_, ?_, ?_, ?_⟩
      · have e0 : listed.toList[i]'(by simpa using hi2) = false := by
          simpa [hi2] using h0
        rw [Array.toList_setIfInBounds, List.count_set (by simpa using hi2), e0, if_pos (show (false == false) = true from rfl), if_neg (show ¬ (true == false) = true by decide)]
        omega
      · cases hd : t.1.dst <;> simp [Act.put, h.size]
      · cases hd : t.1.dst <;> simp [Act.put, h.defs]
      · intro p hp
        cases hd : t.1.dst with
        | none => exact h.fixed p hp
        | some d => rw [slot_put_ne ((hF.bound t htm d hd).2 p hp)]; exact h.fixed p hp
      · intro j tj d hj hdj hlj
        by_cases hij : i = j
        · subst hij
          have : tj = t := Option.some.inj (hj.symm.trans ht)
          subst this
          rw [hdj, slot_put (by rw [h.size]; exact (hF.bound tj htm d hdj).1)]
          exact hψ
        · have hlj' : listed.getD j false = true := by rwa [getD_set_ne false hij] at hlj
          have hold := h.done j tj d hj hdj hlj'
          cases hd : t.1.dst with
          | none => exact hs tj (List.mem_of_getElem? hj) _ _ _ hold hR
          | some d' =>
            rw [slot_put_ne (fun e => hij (hF.apart i j t tj d ht hj (by rw [hd, e]) hdj))]
            exact hs tj (List.mem_of_getElem? hj) _ _ _ hold hR
theorem region_rule {id : Nat} {a : Act} {w : World} {Q : Exit → Act → World → Prop} (hm : P.follows .mixedOrders = true) (hF : RForm F L sz) (hs : ∀ t ∈ L, ∀ v w w', t.2 v w → R w w' → t.2 v w') (hop : ∀ t ∈ L, OpOk P C R F L t)
    (hC : C w.drew) (hsz : a.tmps.size = sz) (hdf : a.defers = []) (hfx : ∀ p ∈ F, slot a p.1 = p.2)
    (hend : ∀ a w, C w → a.tmps.size = sz → a.defers = [] → (∀ p ∈ F, slot a p.1 = p.2) → (∀ (i : Nat) (t : Told) (d : Nat), L[i]? = some t → t.1.dst = some d → t.2 (slot a d) w) → Q .normal a w) :
    (Code.region id (L.map (·.1)).toArray true).wp P Q a w := by
  refine wp_region_any hm (rule_run hF hs hop hend _ _ _ _ ?_ ⟨hC, by simp, hsz, hdf, hfx, ?_⟩)
  · simp
  · intro i t d _ _ hl
    exfalso
    have : ∀ m, (Array.replicate m false).getD i false = false := fun m => by
      rcases Nat.lt_or_ge i m with h | h <;> simp [h]
    rw [this] at hl
    cases hl
end
end Go.Proofs.YtadcklijdbbkjaaGreatDoor
