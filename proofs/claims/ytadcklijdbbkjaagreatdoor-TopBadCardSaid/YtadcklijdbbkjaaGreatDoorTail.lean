/- The rule at a region whose last operations come in one order. -/
import Derived.Test.YtadcklijdbbkjaaGreatDoorZip
import Derived.StillTail
namespace Go.Proofs.YtadcklijdbbkjaaGreatDoor
open Go.RowKit
set_option linter.unusedVariables false

section
variable {P : Program} {C : World → Prop} {R : World → World → Prop} {F : List (Nat × Value)} {L : List Told} {sz : Nat}
structure RInvT (C : World → Prop) (F : List (Nat × Value)) (L : List Told) (sz : Nat) (listed : Array Bool) (a : Act) (w : World) : Prop where
  cls : C w
  size : a.tmps.size = sz
  defs : a.defers = []
  fixed : ∀ p ∈ F, slot a p.1 = p.2
  done : ∀ (i : Nat) (t : Told) (d : Nat), L[i]? = some t → t.1.dst = some d → listed.getD i false = true → t.2 (slot a d) w
theorem rule_tail {l : List Oper} {n g : Nat} (hlen : l.length = n + g) (hL : L.map (·.1) = l.take n) (hg : 0 < g) (hF : RForm F L sz) (hs : ∀ t ∈ L, ∀ v w w', t.2 v w → R w w' → t.2 v w') (hop : ∀ t ∈ L, OpOk P C R F L t)
    (hsink : Region.sinkB .any l.toArray n = true) (hchain : Region.chainB .any l.toArray n = true) (hseq : Region.seqB .any l.toArray g n (Array.replicate n true ++ Array.replicate g false) = true) {Q : Exit → Act → World → Prop}
    (htail : ∀ a w, C w → a.tmps.size = sz → a.defers = [] → (∀ p ∈ F, slot a p.1 = p.2) → (∀ (i : Nat) (t : Told) (d : Nat), L[i]? = some t → t.1.dst = some d → t.2 (slot a d) w) → wpList P l.toArray Q (l.drop n) a w) :
    ∀ (f : Nat) (listed : Array Bool) (a : Act) (w : World), (listed.toList.take n).count false = f → HeadInv .any l.toArray n listed → RInvT C F L sz listed a w → wpAny P .any l.toArray Q (f + g) listed a w := by
  have hLn : L.length = n := by
    have := congrArg List.length hL
    rw [List.length_map, List.length_take] at this
    omega
  have hops : ∀ i : Nat, i < n → (l.toArray)[i]? = (L[i]?).map (·.1) := fun i hi => by
    have h1 : (l.take n)[i]? = l[i]? := by rw [List.getElem?_take]; simp [hi]
    have h2 : (L.map (·.1))[i]? = (L[i]?).map (·.1) := by simp
    rw [List.getElem?_toArray, ← h1, ← hL, h2]
  have hsz : l.toArray.size = n + g := by simpa using hlen
  intro f
  induction f with
  | zero =>
    intro listed a w hc hH h
    have hls : listed.size = n + g := by rw [hH.size, hsz]
    have hall : ∀ i, i < n → listed.getD i false = true := by
      intro i hi
      cases hb : listed.getD i false with
      | true => rfl
      | false =>
        exfalso
        have hi' : i < listed.size := by omega
        have e : listed[i] = false := by simpa [hi'] using hb
        have hm : false ∈ listed.toList.take n := by
          rw [List.mem_take_iff_getElem]
          exact ⟨i, by simp; omega, by simpa using e⟩
        have := List.count_pos_iff.2 hm
        omega
    have hle : listed = Array.replicate n true ++ Array.replicate g false := by
      refine Array.ext (by simp [hls]) fun i h1 h2 => ?_
      by_cases hi : i < n
      · have := hall i hi
        rw [Array.getElem_append_left (by simpa using hi)]
        simpa [h1] using this
      · have := hH.tail i (by omega) (by omega)
        rw [Array.getElem_append_right (by simp; omega)]
        simpa [h1] using this
    have := wpAny_of_seq (P := P) (md := .any) (ops := l.toArray) (Q' := Q) (l.drop n) n listed a w (fun j => by simp) (by rw [hle]; simpa [hlen] using hseq)
      (htail a w h.cls h.size h.defs h.fixed (fun i t d hi hd => h.done i t d hi hd (hall i (by rw [← hLn]; exact (List.getElem?_eq_some_iff.1 hi).1))))
    rw [Nat.zero_add]
    have e : (l.drop n).length = g := by simp [hlen]
    rwa [e] at this
  | succ f ih =>
    intro listed a w hc hH h
    have hls : listed.size = n + g := by rw [hH.size, hsz]
    -- some of the head has not come up
    obtain ⟨i0, hi0, hu0⟩ : ∃ i0, i0 < n ∧ listed.getD i0 true = false := by
      have hm : false ∈ listed.toList.take n := List.count_pos_iff.1 (by omega)
      obtain ⟨i, hi, e⟩ := List.mem_take_iff_getElem.1 hm
      have hi' : i < listed.size := by simp at hi; omega
      exact ⟨i, by simp at hi; omega, by simpa [hi'] using e⟩
    have hhead : ∀ j, j ∈ Region.ready .any l.toArray listed → j < n := fun j hj => by
      rcases Nat.lt_or_ge j n with h' | h'
      · exact h'
      · exact absurd hj (tail_waits hsink hchain (by omega) hH _ i0 rfl hi0 hu0 j h')
    rw [show f + 1 + g = (f + g) + 1 by omega]
    refine ⟨fun hr => ?_, fun i hi => ?_⟩
    · exfalso
      have hall : ∀ i, i < n → listed.getD i false = true := by
        intro i
        induction i using Nat.strongRecOn with
        | _ i ih' =>
          intro hi
          cases hb : listed.getD i false with
          | true => rfl
          | false =>
            exfalso
            have hm : i ∈ Region.ready .any l.toArray listed := by
              have hiL : i < L.length := by omega
              refine mem_ready.2 ⟨?_, L[i].1, by rw [hops i hi]; simp [hiL], fun e he _ => ?_⟩
              · have hi' : i < listed.size := by omega
                simp [hi'] at hb ⊢
                exact hb
              · have := hF.back i L[i] (by simp [hiL]) e he
                exact ih' e.on this (by omega)
            rw [hr] at hm
            cases hm
      have h1 := hall i0 hi0
      have hi' : i0 < listed.size := by omega
      simp [hi'] at h1 hu0
      rw [h1] at hu0
      cases hu0
    · have hin := hhead i hi
      obtain ⟨h0, o, ho, hall'⟩ := mem_ready.1 hi
      have hi2 : i < listed.size := by omega
      have hiL : i < L.length := by omega
      obtain ⟨t, ht⟩ : ∃ t, L[i]? = some t := ⟨L[i], by simp [hiL]⟩
      have htm : t ∈ L := List.mem_of_getElem? ht
      have hot : o = t.1 := by
        rw [hops i hin, ht] at ho
        exact (Option.some.inj ho).symm
      subst hot
      have hw : Region.wanted t.1 (yielded l.toArray a.tmps) = true := by simp [Region.wanted, hF.guard t htm]
      unfold wpOp
      rw [ho]
      simp only [hw, if_true]
      left
      refine hop t htm a w _ Q h.cls h.fixed ?_ ?_
      · intro e he hb t' d hL' hd
        exact h.done e.on t' d hL' hd (hall' e he hb)
      · intro v w' hC' hR hψ
        refine ih _ _ _ ?_ (hH.set hi hin) ⟨hC', ?_, ?_, ?_, ?_⟩
        · have e0 : (listed.toList.take n)[i]'(by simp; omega) = false := by
            simpa [hi2] using h0
          rw [Array.toList_setIfInBounds, List.take_set, List.count_set (by simp; omega), e0, if_pos (show (false == false) = true from rfl), if_neg (show ¬ (true == false) = true by decide)]
          omega
        · cases hd : t.1.dst <;> simp [Act.put, h.size]
        · cases hd : t.1.dst <;> simp [Act.put, h.defs]
        · intro p hp
          cases hd : t.1.dst with
          | none => exact h.fixed p hp
          | some d => rw [slot_put_ne ((hF.bound t htm d hd).2 p hp)]; exact h.fixed p hp
        · intro j tj d hj hdj hlj
          by_cases hij : i = j
          · subst hij
            have : tj = t := Option.some.inj (hj.symm.trans ht)
            subst this
            rw [hdj, slot_put (by rw [h.size]; exact (hF.bound tj htm d hdj).1)]
            exact hψ
          · have hlj' : listed.getD j false = true := by rwa [getD_set_ne false hij] at hlj
            have hold := h.done j tj d hj hdj hlj'
            cases hd : t.1.dst with
            | none => exact hs tj (List.mem_of_getElem? hj) _ _ _ hold hR
            | some d' =>
              rw [slot_put_ne (fun e => hij (hF.apart i j t tj d ht hj (by rw [hd, e]) hdj))]
              exact hs tj (List.mem_of_getElem? hj) _ _ _ hold hR
variable {FX : List (Nat × Value)}
theorem region_tail {id : Nat} {l : List Oper} (n : Nat) {g : Nat} (ψs : List (Value → World → Prop)) {sz : Nat} {a : Act} {w : World} {Q : Exit → Act → World → Prop} (hm : P.follows .mixedOrders = true) (hlen : l.length = n + g) (hg : 0 < g)
    (hB : formB (FX.map (·.1)) (l.take n) sz = true) (hsink : Region.sinkB .any l.toArray n = true) (hchain : Region.chainB .any l.toArray n = true) (hseq : Region.seqB .any l.toArray g n (Array.replicate n true ++ Array.replicate g false) = true)
    (hst : AllSt R ψs) (hok : AllOk P C R FX ((l.take n).zip ψs) (l.take n) ψs) (hC : C w.drew) (hsz : a.tmps.size = sz) (hdf : a.defers = []) (hfx : ∀ p ∈ FX, slot a p.1 = p.2)
    (hend : ∀ (f : Nat → Value) w, C w → (∀ (i : Nat) (o : Oper) (ψ : Value → World → Prop) (d : Nat), (l.take n)[i]? = some o → ψs[i]? = some ψ → o.dst = some d → ψ (f d) w) → wpList P l.toArray Q (l.drop n) (putAll a f ((l.take n).filterMap (·.dst))) w) :
    (Code.region id l.toArray true).wp P Q a w := by
  have hF := form_of (FX := FX) (ψs := ψs) hB
  let os := l.take n
  let Y : List (Nat × Value) := ((List.range sz).filter fun k => !(os.filterMap (·.dst)).contains k).map fun k => (k, slot a k)
  have hY : ∀ p ∈ Y, p.1 ∉ os.filterMap (·.dst) ∧ p.2 = slot a p.1 := by
    intro p hp
    obtain ⟨k, hk, rfl⟩ := List.mem_map.1 hp
    have := (List.mem_filter.1 hk).2
    exact ⟨by simpa using this, rfl⟩
  have hl : os.length = ψs.length := hok.length
  have e : (os.zip ψs).map (·.1) = os := by rw [List.map_fst_zip]; omega
  have hsz' : l.toArray.size = n + g := by simpa using hlen
  have hF2 : RForm (FX ++ Y) (os.zip ψs) sz := ⟨hF.guard, fun t ht d hd => ⟨(hF.bound t ht d hd).1, fun p hp => by
      rcases List.mem_append.1 hp with hp | hp
      · exact (hF.bound t ht d hd).2 p hp
      · intro e'
        exact (hY p hp).1 (e' ▸ List.mem_filterMap.2 ⟨t.1, (List.of_mem_zip (a := t.1) (b := t.2) ht).1, hd⟩)⟩, hF.apart, hF.back⟩
  have hrun := rule_tail (P := P) (C := C) (R := R) (F := FX ++ Y) (L := os.zip ψs) (sz := sz) (l := l) (n := n) (g := g) (Q := Q) hlen e hg hF2
    (fun t ht => hst.all t.2 (List.of_mem_zip (a := t.1) (b := t.2) ht).2) (hok.more Y).all hsink hchain hseq
    (fun a' w' h1 h2 h3 h4 h5 => by
      have ea : a' = putAll a (slot a') (os.filterMap (·.dst)) := by
        refine act_ext (by rw [putAll_size, h2, hsz]) (by rw [putAll_defers, h3, hdf]) (fun k hk => ?_)
        rw [putAll_slot _ _ _ _ (by omega)]
        by_cases hm : k ∈ os.filterMap (·.dst)
        · rw [if_pos hm]
        · rw [if_neg hm]
          exact h4 (k, slot a k) (List.mem_append_right _ (List.mem_map.2 ⟨k, List.mem_filter.2 ⟨List.mem_range.2 (by omega), by simpa using hm⟩, rfl⟩))
      have := hend (slot a') w' h1 (fun i o ψ d ho hψ hd => h5 i (o, ψ) d (List.getElem?_zip_eq_some.2 ⟨ho, hψ⟩) hd)
      rwa [← ea] at this)
  refine wp_region_any hm ?_
  rw [hsz']
  have hz : ∀ m i : Nat, (Array.replicate m false).getD i false = false := fun m i => by
    rcases Nat.lt_or_ge i m with h | h <;> simp [h]
  have hH : HeadInv .any l.toArray n (Array.replicate (n + g) false) := by
    refine ⟨by simp [hlen], ?_, ?_⟩
    · intro j oj _ hl
      rw [hz] at hl
      cases hl
    · intro t h1 h2
      have h3 : t < n + g := by omega
      simp [h3]
  refine hrun n _ a _ ?_ hH ⟨hC, hsz, hdf, ?_, fun i t d _ _ hl => by rw [hz] at hl; cases hl⟩
  · simp [List.take_replicate]
  · intro p hp
    rcases List.mem_append.1 hp with hp | hp
    · exact hfx p hp
    · exact (hY p hp).2.symm
end
end Go.Proofs.YtadcklijdbbkjaaGreatDoor
