/- The rule at a region that is written out. -/
import Derived.Test.YtadcklijdbbkjaaGreatDoorOks
namespace Go.Proofs.YtadcklijdbbkjaaGreatDoor
open Go.RowKit
set_option linter.unusedVariables false

section
variable {P : Program} {C : World → Prop} {R : World → World → Prop} {FX : List (Nat × Value)}
inductive AllOk (P : Program) (C : World → Prop) (R : World → World → Prop) (FX : List (Nat × Value)) (L : List Told) : List Oper → List (Value → World → Prop) → Prop
  | nil : AllOk P C R FX L [] []
  | cons {o : Oper} {ψ : Value → World → Prop} {os : List Oper} {ψs : List (Value → World → Prop)} : OpOk P C R FX L (o, ψ) → AllOk P C R FX L os ψs → AllOk P C R FX L (o :: os) (ψ :: ψs)
inductive AllSt (R : World → World → Prop) : List (Value → World → Prop) → Prop
  | nil : AllSt R []
  | cons {ψ : Value → World → Prop} {ψs : List (Value → World → Prop)} : (∀ v w w', ψ v w → R w w' → ψ v w') → AllSt R ψs → AllSt R (ψ :: ψs)
theorem AllOk.length {L : List Told} {os : List Oper} {ψs : List (Value → World → Prop)} (h : AllOk P C R FX L os ψs) : os.length = ψs.length := by
  induction h with
  | nil => rfl
  | cons _ _ ih => simp [ih]
theorem AllOk.all {L : List Told} {os : List Oper} {ψs : List (Value → World → Prop)} (h : AllOk P C R FX L os ψs) : ∀ t ∈ os.zip ψs, OpOk P C R FX L t := by
  induction h with
  | nil => intro t ht; cases ht
  | cons h _ ih =>
    intro t ht
    rcases List.mem_cons.1 ht with rfl | ht
    · exact h
    · exact ih t ht
theorem AllSt.all {ψs : List (Value → World → Prop)} (h : AllSt R ψs) : ∀ ψ ∈ ψs, ∀ v w w', ψ v w → R w w' → ψ v w' := by
  induction h with
  | nil => intro t ht; cases ht
  | cons h _ ih =>
    intro t ht
    rcases List.mem_cons.1 ht with rfl | ht
    · exact h
    · exact ih t ht
/-- The region's form, reckoned. -/
def formB (ks : List Nat) (os : List Oper) (sz : Nat) : Bool :=
  os.all (fun o => o.guard.isNone && (match o.dst with | none => true | some d => decide (d < sz) && ks.all (fun k => k != d))) &&
  (List.range os.length).all (fun i => (List.range os.length).all fun j => i == j || (match (os[i]?).bind (·.dst), (os[j]?).bind (·.dst) with | some x, some y => x != y | _, _ => true)) &&
  (List.range os.length).all (fun i => match os[i]? with | some o => o.after.all fun e => decide (e.on < i) | none => true)
theorem form_of {os : List Oper} {ψs : List (Value → World → Prop)} {sz : Nat} (h : formB (FX.map (·.1)) os sz = true) : RForm FX (os.zip ψs) sz := by
  unfold formB at h
  simp only [Bool.and_eq_true, List.all_eq_true] at h
  obtain ⟨⟨h1, h2⟩, h3⟩ := h
  have hi : ∀ (i : Nat) (t : Told), (os.zip ψs)[i]? = some t → os[i]? = some t.1 := by
    intro i t ht
    rw [List.getElem?_zip_eq_some] at ht
    exact ht.1
  refine ⟨?_, ?_, ?_, ?_⟩
  · intro t ht
    have := h1 t.1 (List.of_mem_zip (a := t.1) (b := t.2) ht).1
    cases hg : t.1.guard with
    | none => rfl
    | some x => simp [hg] at this
  · intro t ht d hd
    have := h1 t.1 (List.of_mem_zip (a := t.1) (b := t.2) ht).1
    rw [hd] at this
    simp only [Bool.and_eq_true, decide_eq_true_eq, List.all_eq_true, bne_iff_ne] at this
    exact ⟨this.2.1, fun p hp => this.2.2 p.1 (List.mem_map.2 ⟨p, hp, rfl⟩)⟩
  · intro i j ti tj d hti htj hdi hdj
    have a1 := hi i ti hti
    have a2 := hi j tj htj
    have := h2 i (List.mem_range.2 (List.getElem?_eq_some_iff.1 a1).1) j (List.mem_range.2 (List.getElem?_eq_some_iff.1 a2).1)
    rw [a1, a2] at this
    simp only [Option.bind_some, hdi, hdj] at this
    simpa using this
  · intro i t hti e he
    have a1 := hi i t hti
    have := h3 i (List.mem_range.2 (List.getElem?_eq_some_iff.1 a1).1)
    rw [a1] at this
    simp only [Array.all_eq_true_iff_forall_mem, decide_eq_true_eq] at this
    exact this e he
theorem region_zip {id : Nat} {os : List Oper} (ψs : List (Value → World → Prop)) {sz : Nat} {a : Act} {w : World} {Q : Exit → Act → World → Prop} (hm : P.follows .mixedOrders = true) (hB : formB (FX.map (·.1)) os sz = true)
    (hst : AllSt R ψs) (hok : AllOk P C R FX (os.zip ψs) os ψs) (hC : C w.drew) (hsz : a.tmps.size = sz) (hdf : a.defers = []) (hfx : ∀ p ∈ FX, slot a p.1 = p.2)
    (hend : ∀ a w, C w → a.tmps.size = sz → a.defers = [] → (∀ p ∈ FX, slot a p.1 = p.2) → (∀ (i : Nat) (o : Oper) (ψ : Value → World → Prop) (d : Nat), os[i]? = some o → ψs[i]? = some ψ → o.dst = some d → ψ (slot a d) w) → Q .normal a w) :
    (Code.region id os.toArray true).wp P Q a w := by
  have hl := hok.length
  have e : (os.zip ψs).map (·.1) = os := by rw [List.map_fst_zip]; omega
  have := region_rule (P := P) (C := C) (R := R) (F := FX) (L := os.zip ψs) (sz := sz) (id := id) (a := a) (w := w) (Q := Q) hm (form_of hB) (fun t ht => hst.all t.2 (List.of_mem_zip (a := t.1) (b := t.2) ht).2) hok.all hC hsz hdf hfx
    (fun a w h1 h2 h3 h4 h5 => hend a w h1 h2 h3 h4 (fun i o ψ d ho hψ hd => h5 i (o, ψ) d (List.getElem?_zip_eq_some.2 ⟨ho, hψ⟩) hd))
  rwa [e] at this
/-- The frame behind a region: what its operations have put, all else as it was. -/
def putAll (a : Act) (f : Nat → Value) : List Nat → Act
  | [] => a
  | d :: r => putAll (a.put (some d) (f d)) f r
theorem putAll_size (f : Nat → Value) : ∀ (ds : List Nat) (a : Act), (putAll a f ds).tmps.size = a.tmps.size
  | [], a => rfl
  | d :: r, a => by rw [putAll, putAll_size f r]; simp [Act.put]
theorem putAll_defers (f : Nat → Value) : ∀ (ds : List Nat) (a : Act), (putAll a f ds).defers = a.defers
  | [], a => rfl
  | d :: r, a => by rw [putAll, putAll_defers f r]; rfl
theorem putAll_slot (f : Nat → Value) : ∀ (ds : List Nat) (a : Act) (k : Nat), k < a.tmps.size → slot (putAll a f ds) k = if k ∈ ds then f k else slot a k
  | [], a, k, _ => by simp [putAll]
  | d :: r, a, k, hk => by
    rw [putAll, putAll_slot f r _ k (by simpa [Act.put] using hk)]
    by_cases h : k ∈ r
    · simp [h]
    · by_cases hd : k = d
      · subst hd; simp [h, slot_put hk]
      · simp [h, hd, slot_put_ne hd]
theorem act_ext {a b : Act} (h1 : a.tmps.size = b.tmps.size) (h2 : a.defers = b.defers) (h3 : ∀ k, k < a.tmps.size → slot a k = slot b k) : a = b := by
  obtain ⟨x, y⟩ := a
  obtain ⟨x', y'⟩ := b
  have : x = x' := Array.ext h1 (fun i hi hi' => by
    have := h3 i hi
    unfold slot at this
    simpa [show i < x.size from hi, show i < x'.size from hi'] using this)
  subst this
  simp only at h2
  rw [h2]
theorem OpOk.more {L : List Told} {t : Told} (h : OpOk P C R FX L t) (Y : List (Nat × Value)) : OpOk P C R (FX ++ Y) L t := fun a w K Q h1 h2 h3 h4 => h a w K Q h1 (fun p hp => h2 p (List.mem_append_left _ hp)) h3 h4
theorem AllOk.more {L : List Told} {os : List Oper} {ψs : List (Value → World → Prop)} (h : AllOk P C R FX L os ψs) (Y : List (Nat × Value)) : AllOk P C R (FX ++ Y) L os ψs := by
  induction h with
  | nil => exact .nil
  | cons h _ ih => exact .cons (h.more Y) ih
theorem region_all {id : Nat} {os : List Oper} (ψs : List (Value → World → Prop)) {sz : Nat} {a : Act} {w : World} {Q : Exit → Act → World → Prop} (hm : P.follows .mixedOrders = true) (hB : formB (FX.map (·.1)) os sz = true)
    (hst : AllSt R ψs) (hok : AllOk P C R FX (os.zip ψs) os ψs) (hC : C w.drew) (hsz : a.tmps.size = sz) (hdf : a.defers = []) (hfx : ∀ p ∈ FX, slot a p.1 = p.2)
    (hend : ∀ (f : Nat → Value) w, C w → (∀ (i : Nat) (o : Oper) (ψ : Value → World → Prop) (d : Nat), os[i]? = some o → ψs[i]? = some ψ → o.dst = some d → ψ (f d) w) → Q .normal (putAll a f (os.filterMap (·.dst))) w) :
    (Code.region id os.toArray true).wp P Q a w := by
  have hF := form_of (FX := FX) (ψs := ψs) hB
  let Y : List (Nat × Value) := ((List.range sz).filter fun k => !(os.filterMap (·.dst)).contains k).map fun k => (k, slot a k)
  have hY : ∀ p ∈ Y, p.1 ∉ os.filterMap (·.dst) ∧ p.2 = slot a p.1 := by
    intro p hp
    obtain ⟨k, hk, rfl⟩ := List.mem_map.1 hp
    have := (List.mem_filter.1 hk).2
    exact ⟨by simpa using this, rfl⟩
  have hl := hok.length
  have e : (os.zip ψs).map (·.1) = os := by rw [List.map_fst_zip]; omega
  have := region_rule (P := P) (C := C) (R := R) (F := FX ++ Y) (L := os.zip ψs) (sz := sz) (id := id) (a := a) (w := w) (Q := Q) hm
    ⟨hF.guard, fun t ht d hd => ⟨(hF.bound t ht d hd).1, fun p hp => by
      rcases List.mem_append.1 hp with hp | hp
      · exact (hF.bound t ht d hd).2 p hp
      · intro e'
        exact (hY p hp).1 (e' ▸ List.mem_filterMap.2 ⟨t.1, (List.of_mem_zip (a := t.1) (b := t.2) ht).1, hd⟩)⟩, hF.apart, hF.back⟩
    (fun t ht => hst.all t.2 (List.of_mem_zip (a := t.1) (b := t.2) ht).2) (hok.more Y).all hC hsz hdf
    (fun p hp => by
      rcases List.mem_append.1 hp with hp | hp
      · exact hfx p hp
      · exact (hY p hp).2.symm)
    (fun a' w' h1 h2 h3 h4 h5 => by
      have ea : a' = putAll a (slot a') (os.filterMap (·.dst)) := by
        refine act_ext (by rw [putAll_size, h2, hsz]) (by rw [putAll_defers, h3, hdf]) (fun k hk => ?_)
        rw [putAll_slot _ _ _ _ (by omega)]
        by_cases hm : k ∈ os.filterMap (·.dst)
        · rw [if_pos hm]
        · rw [if_neg hm]
          exact h4 (k, slot a k) (List.mem_append_right _ (List.mem_map.2 ⟨k, List.mem_filter.2 ⟨List.mem_range.2 (by omega), by simpa using hm⟩, rfl⟩))
      have := hend (slot a') w' h1 (fun i o ψ d ho hψ hd => h5 i (o, ψ) d (List.getElem?_zip_eq_some.2 ⟨ho, hψ⟩) hd)
      rwa [← ea] at this)
  rwa [e] at this
theorem fin_str {R : Ending → World → Prop} {a : Act} {w : World} {s : ByteArray} (hs : slot a 4 = .string s) (hd : a.defers = []) (hR : R (.returned (.string s)) w) : bodyPost Tryz.prog Tryz.f27 R .ret a w := by
  have hs' : a.tmps[4]?.getD undef = .string s := by simpa [slot] using hs
  exact bodyPost_ret (v := .string s) (by simp [results, Tryz.results27, go_sem, hs']) hd hR
theorem of_dep' {FX : List (Nat × Value)} {L : List Told} {o : Oper} {k : Nat} {ψ : Value → World → Prop} (e : Edge) (he : e ∈ o.after) (hb : Region.binds .any e = true) (oe : Oper) (ht : L[e.on]? = some (oe, ψ)) (hd : oe.dst = some k) : Of FX L o (.tmp k) ψ := fun _ _ _ hk => hk e he hb (oe, ψ) k ht hd
end
end Go.Proofs.YtadcklijdbbkjaaGreatDoor
