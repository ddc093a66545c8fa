import Derived.Test.YtjmeodadkjcmmaaDoorGBase
import Derived.Orders
import Derived.StillTail
import Derived.Test.YtjmeodadkjcmmaaDoorGTree
namespace Go.Proofs.YtjmeodadkjcmmaaDoor
open Go.RowKit
set_option linter.unusedVariables false
def slot (a : Act) (k : Nat) : Value := a.tmps.getD k undef
theorem slot_put {a : Act} {d : Nat} {v : Value} (h : d < a.tmps.size) : slot (a.put (some d) v) d = v := by
 unfold slot Act.put
 simp [h]
theorem slot_put_ne {a : Act} {d k : Nat} {v : Value} (h : k ≠ d) : slot (a.put (some d) v) k = slot a k := by
 unfold slot Act.put
 simp [Array.getElem?_setIfInBounds_ne (Ne.symm h)]
abbrev Told := Oper × (Value -> World -> Prop)
section
variable {P : Program} {C : World -> Prop} {R : World -> World -> Prop} {F : List (Nat × Value)} {L : List Told} {sz : Nat}
def Known (L : List Told) (o : Oper) (a : Act) (w : World) : Prop :=
 ∀ e ∈ o.after, Region.binds .any e = true -> ∀ (t : Told) (d : Nat), L[e.on]? = some t -> t.1.dst = some d -> t.2 (slot a d) w
def OpOk (P : Program) (C : World -> Prop) (R : World -> World -> Prop) (F : List (Nat × Value)) (L : List Told) (t : Told) : Prop :=
 ∀ (a : Act) (w : World) (K : Act -> World -> Prop) (Q : Exit -> Act -> World -> Prop), C w -> (∀ p ∈ F, slot a p.1 = p.2) -> Known L t.1 a w →
  (∀ v w', C w' -> R w w' -> t.2 v w' -> K (a.put t.1.dst v) w') -> t.1.wp P a w K Q
structure RInv (C : World -> Prop) (F : List (Nat × Value)) (L : List Told) (sz : Nat) (listed : Array Bool) (a : Act) (w : World) : Prop where
 cls : C w
 lsz : listed.size = L.length
 size : a.tmps.size = sz
 defs : a.defers = []
 fixed : ∀ p ∈ F, slot a p.1 = p.2
 done : ∀ (i : Nat) (t : Told) (d : Nat), L[i]? = some t -> t.1.dst = some d -> listed.getD i false = true -> t.2 (slot a d) w
structure RForm (F : List (Nat × Value)) (L : List Told) (sz : Nat) : Prop where
 guard : ∀ t ∈ L, t.1.guard = none
 bound : ∀ t ∈ L, ∀ d, t.1.dst = some d -> d < sz /\ ∀ p ∈ F, p.1 ≠ d
 apart : ∀ (i j : Nat) (ti tj : Told) (d : Nat), L[i]? = some ti -> L[j]? = some tj -> ti.1.dst = some d -> tj.1.dst = some d -> i = j
 back : ∀ (i : Nat) (t : Told), L[i]? = some t -> ∀ e ∈ t.1.after, e.on < i
end
section
variable {FX : List (Nat × Value)} {L : List Told} {o : Oper} {P : Program}
def pVal (u : Value) (v : Value) (_ : World) : Prop := v = u
def Fixed (FX : List (Nat × Value)) (a : Act) : Prop := ∀ p ∈ FX, slot a p.1 = p.2
def Of (FX : List (Nat × Value)) (L : List Told) (o : Oper) (x : Operand) (ψ : Value -> World -> Prop) : Prop := ∀ (a : Act) (w : World), Fixed FX a -> Known L o a w -> ψ (a.eval x) w
theorem of_fixed {k : Nat} {v : Value} (h : (k, v) ∈ FX) : Of FX L o (.tmp k) (pVal v) := fun _ _ hf _ => hf _ h
theorem okv {C : World -> Prop} {R : World -> World -> Prop} (hR : ∀ w, R w w) {ψ : Value -> World -> Prop} (h : ∀ a w, C w -> Fixed FX a -> Known L o a w -> ∃ v, (execOp a.eval o).run P w = .ok (.value v) w /\ ψ v w) : OpOk P C R FX L (o, ψ) := by
 intro a w K Q hC hf hk hK
 obtain ⟨v, hr, hψ⟩ := h a w hC hf hk
 unfold Oper.wp
 rw [hr]
 exact hK v w hC (hR w) hψ
theorem okn {C : World -> Prop} {R : World -> World -> Prop} {ψ : Value -> World -> Prop} (h : ∀ a w, C w -> Fixed FX a -> Known L o a w -> ∃ v w', (execOp a.eval o).run P w = .ok (.value v) w' /\ C w' /\ R w w' /\ ψ v w') : OpOk P C R FX L (o, ψ) := by
 intro a w K Q hC hf hk hK
 obtain ⟨v, w', hr, h1, h2, h3⟩ := h a w hC hf hk
 unfold Oper.wp
 rw [hr]
 exact hK v w' h1 h2 h3
end
section
variable {P : Program} {C : World -> Prop} {R : World -> World -> Prop} {FX : List (Nat × Value)}
inductive AllOk (P : Program) (C : World -> Prop) (R : World -> World -> Prop) (FX : List (Nat × Value)) (L : List Told) : List Oper -> List (Value -> World -> Prop) -> Prop
 | nil : AllOk P C R FX L [] []
 | cons {o : Oper} {ψ : Value -> World -> Prop} {os : List Oper} {ψs : List (Value -> World -> Prop)} : OpOk P C R FX L (o, ψ) -> AllOk P C R FX L os ψs -> AllOk P C R FX L (o :: os) (ψ :: ψs)
inductive AllSt (R : World -> World -> Prop) : List (Value -> World -> Prop) -> Prop
 | nil : AllSt R []
 | cons {ψ : Value -> World -> Prop} {ψs : List (Value -> World -> Prop)} : (∀ v w w', ψ v w -> R w w' -> ψ v w') -> AllSt R ψs -> AllSt R (ψ :: ψs)
theorem AllOk.length {L : List Told} {os : List Oper} {ψs : List (Value -> World -> Prop)} (h : AllOk P C R FX L os ψs) : os.length = ψs.length := by
 induction h with
 | nil => rfl
 | cons _ _ ih => simp [ih]
theorem AllOk.all {L : List Told} {os : List Oper} {ψs : List (Value -> World -> Prop)} (h : AllOk P C R FX L os ψs) : ∀ t ∈ os.zip ψs, OpOk P C R FX L t := by
 induction h with
 | nil => intro t ht; cases ht
 | cons h _ ih =>
  intro t ht
  rcases List.mem_cons.1 ht with rfl | ht
  ·
   exact h
  exact ih t ht
theorem AllSt.all {ψs : List (Value -> World -> Prop)} (h : AllSt R ψs) : ∀ ψ ∈ ψs, ∀ v w w', ψ v w -> R w w' -> ψ v w' := by
 induction h with
 | nil => intro t ht; cases ht
 | cons h _ ih =>
  intro t ht
  rcases List.mem_cons.1 ht with rfl | ht
  ·
   exact h
  exact ih t ht
def formB (ks : List Nat) (os : List Oper) (sz : Nat) : Bool :=
 os.all (fun o => o.guard.isNone && (match o.dst with | none => true | some d => decide (d < sz) && ks.all (fun k => k != d))) &&
 (List.range os.length).all (fun i => (List.range os.length).all fun j => i == j || (match (os[i]?).bind (·.dst), (os[j]?).bind (·.dst) with | some x, some y => x != y | _, _ => true)) &&
 (List.range os.length).all (fun i => match os[i]? with | some o => o.after.all fun e => decide (e.on < i) | none => true)
theorem form_of {os : List Oper} {ψs : List (Value -> World -> Prop)} {sz : Nat} (h : formB (FX.map (·.1)) os sz = true) : RForm FX (os.zip ψs) sz := by
 unfold formB at h
 simp only [Bool.and_eq_true, List.all_eq_true] at h
 obtain ⟨⟨h1, h2⟩, h3⟩ := h
 have hi : ∀ (i : Nat) (t : Told), (os.zip ψs)[i]? = some t -> os[i]? = some t.1 := by
  intro i t ht
  rw [List.getElem?_zip_eq_some] at ht
  exact ht.1
 refine ⟨?_, ?_, ?_, ?_⟩
 ·
  intro t ht
  have := h1 t.1 (List.of_mem_zip (a := t.1) (b := t.2) ht).1
  cases hg : t.1.guard with
  | none => rfl
  | some x => simp [hg] at this
 ·
  intro t ht d hd
  have := h1 t.1 (List.of_mem_zip (a := t.1) (b := t.2) ht).1
  rw [hd] at this
  simp only [Bool.and_eq_true, decide_eq_true_eq, List.all_eq_true, bne_iff_ne] at this
  exact ⟨this.2.1, fun p hp => this.2.2 p.1 (List.mem_map.2 ⟨p, hp, rfl⟩)⟩
 ·
  intro i j ti tj d hti htj hdi hdj
  have a1 := hi i ti hti
  have a2 := hi j tj htj
  have := h2 i (List.mem_range.2 (List.getElem?_eq_some_iff.1 a1).1) j (List.mem_range.2 (List.getElem?_eq_some_iff.1 a2).1)
  rw [a1, a2] at this
  simp only [Option.bind_some, hdi, hdj] at this
  simpa using this
 intro i t hti e he
 have a1 := hi i t hti
 have := h3 i (List.mem_range.2 (List.getElem?_eq_some_iff.1 a1).1)
 rw [a1] at this
 simp only [Array.all_eq_true_iff_forall_mem, decide_eq_true_eq] at this
 exact this e he
def putAll (a : Act) (f : Nat -> Value) : List Nat -> Act
 | [] => a
 | d :: r => putAll (a.put (some d) (f d)) f r
theorem putAll_size (f : Nat -> Value) : ∀ (ds : List Nat) (a : Act), (putAll a f ds).tmps.size = a.tmps.size
 | [], a => rfl
 | d :: r, a => by rw [putAll, putAll_size f r]; simp [Act.put]
theorem putAll_defers (f : Nat -> Value) : ∀ (ds : List Nat) (a : Act), (putAll a f ds).defers = a.defers
 | [], a => rfl
 | d :: r, a => by rw [putAll, putAll_defers f r]; rfl
theorem putAll_slot (f : Nat -> Value) : ∀ (ds : List Nat) (a : Act) (k : Nat), k < a.tmps.size -> slot (putAll a f ds) k = if k ∈ ds then f k else slot a k
 | [], a, k, _ => by simp [putAll]
 | d :: r, a, k, hk => by
  rw [putAll, putAll_slot f r _ k (by simpa [Act.put] using hk)]
  by_cases h : k ∈ r
  ·
   simp [h]
  by_cases hd : k = d
  ·
   subst hd; simp [h, slot_put hk]
  simp [h, hd, slot_put_ne hd]
theorem act_ext {a b : Act} (h1 : a.tmps.size = b.tmps.size) (h2 : a.defers = b.defers) (h3 : ∀ k, k < a.tmps.size -> slot a k = slot b k) : a = b := by
 obtain ⟨x, y⟩ := a
 obtain ⟨x', y'⟩ := b
 have : x = x' := Array.ext h1 (fun i hi hi' => by
  have := h3 i hi
  unfold slot at this
  simpa [show i < x.size from hi, show i < x'.size from hi'] using this)
 subst this
 simp only at h2
 rw [h2]
theorem OpOk.more {L : List Told} {t : Told} (h : OpOk P C R FX L t) (Y : List (Nat × Value)) : OpOk P C R (FX ++ Y) L t := fun a w K Q h1 h2 h3 h4 => h a w K Q h1 (fun p hp => h2 p (List.mem_append_left _ hp)) h3 h4
theorem AllOk.more {L : List Told} {os : List Oper} {ψs : List (Value -> World -> Prop)} (h : AllOk P C R FX L os ψs) (Y : List (Nat × Value)) : AllOk P C R (FX ++ Y) L os ψs := by
 induction h with
 | nil => exact .nil
 | cons h _ ih => exact .cons (h.more Y) ih
theorem of_dep' {FX : List (Nat × Value)} {L : List Told} {o : Oper} {k : Nat} {ψ : Value -> World -> Prop} (e : Edge) (he : e ∈ o.after) (hb : Region.binds .any e = true) (oe : Oper) (ht : L[e.on]? = some (oe, ψ)) (hd : oe.dst = some k) : Of FX L o (.tmp k) ψ := fun _ _ _ hk => hk e he hb (oe, ψ) k ht hd
end
section
variable {P : Program} {C : World -> Prop} {R : World -> World -> Prop} {F : List (Nat × Value)} {L : List Told} {sz : Nat}
structure RInvT (C : World -> Prop) (F : List (Nat × Value)) (L : List Told) (sz : Nat) (listed : Array Bool) (a : Act) (w : World) : Prop where
 cls : C w
 size : a.tmps.size = sz
 defs : a.defers = []
 fixed : ∀ p ∈ F, slot a p.1 = p.2
 done : ∀ (i : Nat) (t : Told) (d : Nat), L[i]? = some t -> t.1.dst = some d -> listed.getD i false = true -> t.2 (slot a d) w
variable {FX : List (Nat × Value)}
end
section
variable {P : Program} {C : World -> Prop} {R : World -> World -> Prop} {F FX : List (Nat × Value)} {L : List Told} {S : Nat -> Nat -> Value -> Value -> Prop} {sz : Nat}
def OpOk2 (P : Program) (C : World -> Prop) (R : World -> World -> Prop) (F : List (Nat × Value)) (L : List Told) (S : Nat -> Nat -> Value -> Value -> Prop) (i : Nat) (t : Told) : Prop :=
 ∀ (a : Act) (w : World) (K : Act -> World -> Prop) (Q : Exit -> Act -> World -> Prop), C w -> (∀ p ∈ F, slot a p.1 = p.2) -> Known L t.1 a w →
  (∀ v w', C w' -> R w w' -> t.2 v w' -> (∀ (j : Nat) (tj : Told) (u : Value), j ≠ i -> L[j]? = some tj -> tj.2 u w -> S i j v u /\ S j i u v) -> K (a.put t.1.dst v) w') -> t.1.wp P a w K Q
theorem OpOk.two {i : Nat} {t : Told} (h : OpOk P C R F L t) (hS : ∀ j v u, S i j v u /\ S j i u v) : OpOk2 P C R F L S i t := fun a w K Q h1 h2 h3 h4 => h a w K Q h1 h2 h3 (fun v w' g1 g2 g3 => h4 v w' g1 g2 g3 (fun j _ u _ _ _ => hS j v u))
inductive AllOk2 (P : Program) (C : World -> Prop) (R : World -> World -> Prop) (FX : List (Nat × Value)) (L : List Told) (S : Nat -> Nat -> Value -> Value -> Prop) : Nat -> List Oper -> List (Value -> World -> Prop) -> Prop
 | nil {k : Nat} : AllOk2 P C R FX L S k [] []
 | cons {k : Nat} {o : Oper} {ψ : Value -> World -> Prop} {os : List Oper} {ψs : List (Value -> World -> Prop)} : OpOk2 P C R FX L S k (o, ψ) -> AllOk2 P C R FX L S (k + 1) os ψs -> AllOk2 P C R FX L S k (o :: os) (ψ :: ψs)
theorem AllOk2.length {k : Nat} {os : List Oper} {ψs : List (Value -> World -> Prop)} (h : AllOk2 P C R FX L S k os ψs) : os.length = ψs.length := by
 induction h with
 | nil => rfl
 | cons _ _ ih => simp [ih]
theorem AllOk2.at_ {k : Nat} {os : List Oper} {ψs : List (Value -> World -> Prop)} (h : AllOk2 P C R FX L S k os ψs) : ∀ (i : Nat) (t : Told), (os.zip ψs)[i]? = some t -> OpOk2 P C R FX L S (k + i) t := by
 induction h with
 | nil => intro i t ht; simp at ht
 | cons h _ ih =>
  intro i t ht
  cases i with
  | zero =>
   simp only [List.zip_cons_cons, List.getElem?_cons_zero, Option.some.injEq] at ht
   subst ht
   exact h
  | succ i =>
   simp only [List.zip_cons_cons, List.getElem?_cons_succ] at ht
   have := ih i t ht
   rwa [show ∀ k : Nat, k + 1 + i = k + (i + 1) from fun k => by omega] at this
theorem OpOk2.more {i : Nat} {t : Told} (h : OpOk2 P C R FX L S i t) (Y : List (Nat × Value)) : OpOk2 P C R (FX ++ Y) L S i t := fun a w K Q h1 h2 h3 h4 => h a w K Q h1 (fun p hp => h2 p (List.mem_append_left _ hp)) h3 h4
structure RInvP (C : World -> Prop) (F : List (Nat × Value)) (L : List Told) (S : Nat -> Nat -> Value -> Value -> Prop) (sz : Nat) (listed : Array Bool) (a : Act) (w : World) : Prop where
 cls : C w
 size : a.tmps.size = sz
 defs : a.defers = []
 fixed : ∀ p ∈ F, slot a p.1 = p.2
 done : ∀ (i : Nat) (t : Told) (d : Nat), L[i]? = some t -> t.1.dst = some d -> listed.getD i false = true -> t.2 (slot a d) w
 pair : ∀ (i j : Nat) (ti tj : Told) (di dj : Nat), i ≠ j -> L[i]? = some ti -> L[j]? = some tj -> ti.1.dst = some di -> tj.1.dst = some dj -> listed.getD i false = true -> listed.getD j false = true -> S i j (slot a di) (slot a dj)
theorem rule_tailP {l : List Oper} {n g : Nat} (hlen : l.length = n + g) (hL : L.map (·.1) = l.take n) (hg : 0 < g) (hF : RForm F L sz) (hs : ∀ t ∈ L, ∀ v w w', t.2 v w -> R w w' -> t.2 v w') (hop : ∀ (i : Nat) (t : Told), L[i]? = some t -> OpOk2 P C R F L S i t)
  (hsink : Region.sinkB .any l.toArray n = true) (hchain : Region.chainB .any l.toArray n = true) (hseq : Region.seqB .any l.toArray g n (Array.replicate n true ++ Array.replicate g false) = true) {Q : Exit -> Act -> World -> Prop}
  (htail : ∀ a w, C w -> a.tmps.size = sz -> a.defers = [] -> (∀ p ∈ F, slot a p.1 = p.2) -> (∀ (i : Nat) (t : Told) (d : Nat), L[i]? = some t -> t.1.dst = some d -> t.2 (slot a d) w) -> (∀ (i j : Nat) (ti tj : Told) (di dj : Nat), i ≠ j -> L[i]? = some ti -> L[j]? = some tj -> ti.1.dst = some di -> tj.1.dst = some dj -> S i j (slot a di) (slot a dj)) -> wpList P l.toArray Q (l.drop n) a w) :
  ∀ (f : Nat) (listed : Array Bool) (a : Act) (w : World), (listed.toList.take n).count false = f -> HeadInv .any l.toArray n listed -> RInvP C F L S sz listed a w -> wpAny P .any l.toArray Q (f + g) listed a w := by
 have hLn : L.length = n := by
  have := congrArg List.length hL
  rw [List.length_map, List.length_take] at this
  omega
 have hops : ∀ i : Nat, i < n -> (l.toArray)[i]? = (L[i]?).map (·.1) := fun i hi => by
  have h1 : (l.take n)[i]? = l[i]? := by rw [List.getElem?_take]; simp [hi]
  have h2 : (L.map (·.1))[i]? = (L[i]?).map (·.1) := by simp
  rw [List.getElem?_toArray, <- h1, <- hL, h2]
 have hsz : l.toArray.size = n + g := by simpa using hlen
 intro f
 induction f with
 | zero =>
  intro listed a w hc hH h
  have hls : listed.size = n + g := by rw [hH.size, hsz]
  have hall : ∀ i, i < n -> listed.getD i false = true := by
   intro i hi
   cases hb : listed.getD i false with
   | true => rfl
   | false =>
    exfalso
    have hi' : i < listed.size := by omega
    have e : listed[i] = false := by simpa [hi'] using hb
    have hm : false ∈ listed.toList.take n := by
     rw [List.mem_take_iff_getElem]
     exact ⟨i, by simp; omega, by simpa using e⟩
    have := List.count_pos_iff.2 hm
    omega
  have hle : listed = Array.replicate n true ++ Array.replicate g false := by
   refine Array.ext (by simp [hls]) fun i h1 h2 => ?_
   by_cases hi : i < n
   ·
    have := hall i hi
    rw [Array.getElem_append_left (by simpa using hi)]
    simpa [h1] using this
   have := hH.tail i (by omega) (by omega)
   rw [Array.getElem_append_right (by simp; omega)]
   simpa [h1] using this
  have := wpAny_of_seq (P := P) (md := .any) (ops := l.toArray) (Q' := Q) (l.drop n) n listed a w (fun j => by simp) (by rw [hle]; simpa [hlen] using hseq)
   (htail a w h.cls h.size h.defs h.fixed (fun i t d hi hd => h.done i t d hi hd (hall i (by rw [<- hLn]; exact (List.getElem?_eq_some_iff.1 hi).1))) (fun i j ti tj di dj hne hi hj hdi hdj => h.pair i j ti tj di dj hne hi hj hdi hdj (hall i (by rw [<- hLn]; exact (List.getElem?_eq_some_iff.1 hi).1)) (hall j (by rw [<- hLn]; exact (List.getElem?_eq_some_iff.1 hj).1))))
  rw [Nat.zero_add]
  have e : (l.drop n).length = g := by simp [hlen]
  rwa [e] at this
 | succ f ih =>
  intro listed a w hc hH h
  have hls : listed.size = n + g := by rw [hH.size, hsz]
  -- some of the head has not come up
  obtain ⟨i0, hi0, hu0⟩ : ∃ i0, i0 < n /\ listed.getD i0 true = false := by
   have hm : false ∈ listed.toList.take n := List.count_pos_iff.1 (by omega)
   obtain ⟨i, hi, e⟩ := List.mem_take_iff_getElem.1 hm
   have hi' : i < listed.size := by simp at hi; omega
   exact ⟨i, by simp at hi; omega, by simpa [hi'] using e⟩
  have hhead : ∀ j, j ∈ Region.ready .any l.toArray listed -> j < n := fun j hj => by
   rcases Nat.lt_or_ge j n with h' | h'
   ·
    exact h'
   exact absurd hj (tail_waits hsink hchain (by omega) hH _ i0 rfl hi0 hu0 j h')
  rw [show f + 1 + g = (f + g) + 1 by omega]
  refine ⟨fun hr => ?_, fun i hi => ?_⟩
  ·
   exfalso
   have hall : ∀ i, i < n -> listed.getD i false = true := by
    intro i
    induction i using Nat.strongRecOn with
    | _ i ih' =>
     intro hi
     cases hb : listed.getD i false with
     | true => rfl
     | false =>
      exfalso
      have hm : i ∈ Region.ready .any l.toArray listed := by
       have hiL : i < L.length := by omega
       refine mem_ready.2 ⟨?_, L[i].1, by rw [hops i hi]; simp [hiL], fun e he _ => ?_⟩
       ·
        have hi' : i < listed.size := by omega
        simp [hi'] at hb ⊢
        exact hb
       have := hF.back i L[i] (by simp [hiL]) e he
       exact ih' e.on this (by omega)
      rw [hr] at hm
      cases hm
   have h1 := hall i0 hi0
   have hi' : i0 < listed.size := by omega
   simp [hi'] at h1 hu0
   rw [h1] at hu0
   cases hu0
  have hin := hhead i hi
  obtain ⟨h0, o, ho, hall'⟩ := mem_ready.1 hi
  have hi2 : i < listed.size := by omega
  have hiL : i < L.length := by omega
  obtain ⟨t, ht⟩ : ∃ t, L[i]? = some t := ⟨L[i], by simp [hiL]⟩
  have htm : t ∈ L := List.mem_of_getElem? ht
  have hot : o = t.1 := by
   rw [hops i hin, ht] at ho
   exact (Option.some.inj ho).symm
  subst hot
  have hw : Region.wanted t.1 (yielded l.toArray a.tmps) = true := by simp [Region.wanted, hF.guard t htm]
  unfold wpOp
  rw [ho]
  simp only [hw, if_true]
  left
  refine hop i t ht a w _ Q h.cls h.fixed ?_ ?_
  ·
   intro e he hb t' d hL' hd
   exact h.done e.on t' d hL' hd (hall' e he hb)
  intro v w' hC' hR hψ hSv
  refine ih _ _ _ ?_ (hH.set hi hin) ⟨hC', ?_, ?_, ?_, ?_, ?_⟩
  ·
   have e0 : (listed.toList.take n)[i]'(by simp; omega) = false := by
    simpa [hi2] using h0
   rw [Array.toList_setIfInBounds, List.take_set, List.count_set (by simp; omega), e0, if_pos (show (false == false) = true from rfl), if_neg (show ¬ (true == false) = true by decide)]
   omega
  ·
   cases hd : t.1.dst <;> simp [Act.put, h.size]
  ·
   cases hd : t.1.dst <;> simp [Act.put, h.defs]
  ·
   intro p hp
   cases hd : t.1.dst with
   | none => exact h.fixed p hp
   | some d => rw [slot_put_ne ((hF.bound t htm d hd).2 p hp)]; exact h.fixed p hp
  ·
   intro j tj d hj hdj hlj
   by_cases hij : i = j
   ·
    subst hij
    have : tj = t := Option.some.inj (hj.symm.trans ht)
    subst this
    rw [hdj, slot_put (by rw [h.size]; exact (hF.bound tj htm d hdj).1)]
    exact hψ
   have hlj' : listed.getD j false = true := by rwa [getD_set_ne false hij] at hlj
   have hold := h.done j tj d hj hdj hlj'
   cases hd : t.1.dst with
   | none => exact hs tj (List.mem_of_getElem? hj) _ _ _ hold hR
   | some d' =>
    rw [slot_put_ne (fun e => hij (hF.apart i j t tj d ht hj (by rw [hd, e]) hdj))]
    exact hs tj (List.mem_of_getElem? hj) _ _ _ hold hR
  intro j k tj tk dj dk hjk hj hk hdj hdk hlj hlk
  have hsl : ∀ (m : Nat) (tm : Told) (dm : Nat), i ≠ m -> L[m]? = some tm -> tm.1.dst = some dm -> slot (a.put t.1.dst v) dm = slot a dm := by
   intro m tm dm hm htm' hdm
   cases hd : t.1.dst with
   | none => rfl
   | some d' => exact slot_put_ne (fun e => hm (hF.apart i m t tm dm ht htm' (by rw [hd, e]) hdm))
  have hself : ∀ dm, t.1.dst = some dm -> slot (a.put t.1.dst v) dm = v := by
   intro dm hd
   rw [hd]
   exact slot_put (by rw [h.size]; exact (hF.bound t htm dm hd).1)
  by_cases hij : i = j
  ·
   subst hij
   have : tj = t := Option.some.inj (hj.symm.trans ht)
   subst this
   have hlk' : listed.getD k false = true := by rwa [getD_set_ne false hjk] at hlk
   rw [hself dj hdj, hsl k tk dk hjk hk hdk]
   exact (hSv k tk _ (Ne.symm hjk) hk (h.done k tk dk hk hdk hlk')).1
  have hlj' : listed.getD j false = true := by rwa [getD_set_ne false hij] at hlj
  by_cases hik : i = k
  ·
   subst hik
   have : tk = t := Option.some.inj (hk.symm.trans ht)
   subst this
   rw [hself dk hdk, hsl j tj dj hij hj hdj]
   exact (hSv j tj _ (Ne.symm hij) hj (h.done j tj dj hj hdj hlj')).2
  have hlk' : listed.getD k false = true := by rwa [getD_set_ne false hik] at hlk
  rw [hsl j tj dj hij hj hdj, hsl k tk dk hik hk hdk]
  exact h.pair j k tj tk dj dk hjk hj hk hdj hdk hlj' hlk'
theorem region_tailP {id : Nat} {l : List Oper} (n : Nat) {g : Nat} (ψs : List (Value -> World -> Prop)) {sz : Nat} {a : Act} {w : World} {Q : Exit -> Act -> World -> Prop} (hm : P.follows .mixedOrders = true) (hlen : l.length = n + g) (hg : 0 < g)
  (hB : formB (FX.map (·.1)) (l.take n) sz = true) (hsink : Region.sinkB .any l.toArray n = true) (hchain : Region.chainB .any l.toArray n = true) (hseq : Region.seqB .any l.toArray g n (Array.replicate n true ++ Array.replicate g false) = true)
  (hst : AllSt R ψs) (hok : AllOk2 P C R FX ((l.take n).zip ψs) S 0 (l.take n) ψs) (hC : C w.drew) (hsz : a.tmps.size = sz) (hdf : a.defers = []) (hfx : ∀ p ∈ FX, slot a p.1 = p.2)
  (hend : ∀ (f : Nat -> Value) w, C w -> (∀ (i : Nat) (o : Oper) (ψ : Value -> World -> Prop) (d : Nat), (l.take n)[i]? = some o -> ψs[i]? = some ψ -> o.dst = some d -> ψ (f d) w) -> (∀ (i j : Nat) (oi oj : Oper) (di dj : Nat), i ≠ j -> (l.take n)[i]? = some oi -> (l.take n)[j]? = some oj -> oi.dst = some di -> oj.dst = some dj -> S i j (f di) (f dj)) -> wpList P l.toArray Q (l.drop n) (putAll a f ((l.take n).filterMap (·.dst))) w) :
  (Code.region id l.toArray true).wp P Q a w := by
 have hF := form_of (FX := FX) (ψs := ψs) hB
 let os := l.take n
 let Y : List (Nat × Value) := ((List.range sz).filter fun k => !(os.filterMap (·.dst)).contains k).map fun k => (k, slot a k)
 have hY : ∀ p ∈ Y, p.1 ∉ os.filterMap (·.dst) /\ p.2 = slot a p.1 := by
  intro p hp
  obtain ⟨k, hk, rfl⟩ := List.mem_map.1 hp
  have := (List.mem_filter.1 hk).2
  exact ⟨by simpa using this, rfl⟩
 have hl : os.length = ψs.length := hok.length
 have e : (os.zip ψs).map (·.1) = os := by rw [List.map_fst_zip]; omega
 have hsz' : l.toArray.size = n + g := by simpa using hlen
 have hF2 : RForm (FX ++ Y) (os.zip ψs) sz := ⟨hF.guard, fun t ht d hd => ⟨(hF.bound t ht d hd).1, fun p hp => by
   rcases List.mem_append.1 hp with hp | hp
   ·
    exact (hF.bound t ht d hd).2 p hp
   intro e'
   exact (hY p hp).1 (e' ▸ List.mem_filterMap.2 ⟨t.1, (List.of_mem_zip (a := t.1) (b := t.2) ht).1, hd⟩)⟩, hF.apart, hF.back⟩
 have hrun := rule_tailP (P := P) (C := C) (R := R) (S := S) (F := FX ++ Y) (L := os.zip ψs) (sz := sz) (l := l) (n := n) (g := g) (Q := Q) hlen e hg hF2
  (fun t ht => hst.all t.2 (List.of_mem_zip (a := t.1) (b := t.2) ht).2) (fun i t ht => by have := (hok.at_ i t ht).more Y; rwa [Nat.zero_add] at this) hsink hchain hseq
  (fun a' w' h1 h2 h3 h4 h5 h6 => by
    have ea : a' = putAll a (slot a') (os.filterMap (·.dst)) := by
     refine act_ext (by rw [putAll_size, h2, hsz]) (by rw [putAll_defers, h3, hdf]) (fun k hk => ?_)
     rw [putAll_slot _ _ _ _ (by omega)]
     by_cases hm : k ∈ os.filterMap (·.dst)
     ·
      rw [if_pos hm]
     rw [if_neg hm]
     exact h4 (k, slot a k) (List.mem_append_right _ (List.mem_map.2 ⟨k, List.mem_filter.2 ⟨List.mem_range.2 (by omega), by simpa using hm⟩, rfl⟩))
    have := hend (slot a') w' h1 (fun i o ψ d ho hψ hd => h5 i (o, ψ) d (List.getElem?_zip_eq_some.2 ⟨ho, hψ⟩) hd)
     (fun i j oi oj di dj hne hi hj hdi hdj => by
       have hiψ : ψs[i]? = some (ψs[i]'(by have := (List.getElem?_eq_some_iff.1 hi).1; rw [<- hl]; exact this)) := by simp
       have hjψ : ψs[j]? = some (ψs[j]'(by have := (List.getElem?_eq_some_iff.1 hj).1; rw [<- hl]; exact this)) := by simp
       exact h6 i j (oi, _) (oj, _) di dj hne (List.getElem?_zip_eq_some.2 ⟨hi, hiψ⟩) (List.getElem?_zip_eq_some.2 ⟨hj, hjψ⟩) hdi hdj)
    rwa [<- ea] at this)
 refine wp_region_any hm ?_
 rw [hsz']
 have hz : ∀ m i : Nat, (Array.replicate m false).getD i false = false := fun m i => by
  rcases Nat.lt_or_ge i m with h | h <;> simp [h]
 have hH : HeadInv .any l.toArray n (Array.replicate (n + g) false) := by
  refine ⟨by simp [hlen], ?_, ?_⟩
  ·
   intro j oj _ hl
   rw [hz] at hl
   cases hl
  intro t h1 h2
  have h3 : t < n + g := by omega
  simp [h3]
 refine hrun n _ a _ ?_ hH ⟨hC, hsz, hdf, ?_, fun i t d _ _ hl => (by rw [hz] at hl; cases hl), fun i j ti tj di dj _ _ _ _ _ hl => (by rw [hz] at hl; cases hl)⟩
 ·
  simp [List.take_replicate]
 intro p hp
 rcases List.mem_append.1 hp with hp | hp
 ·
  exact hfx p hp
 exact (hY p hp).2.symm
end
/- Two rows of data of the call's own that one region appends to, whatever the order. -/
open Go.RowKit Go.ChangeShapes Go.WideShapes Go.Deep Go.ChangeAt Go.Shelf
set_option maxRecDepth 20000
theorem grown_nil {w : World} {base : Nat} {e : TypeId} {size n : Nat} {v : Value} {xs : List Value} {w' : World} (h : w.ownsRow base e size v n xs) (hg : ∀ k, k < w.heap.size -> w'.heap[k]? = w.heap[k]?) : w'.ownsRow base e size v n xs := by
 refine ⟨h.1, ?_⟩
 rcases h.2 with hn | ⟨g, cap, cur, rfl, hb, hgg, rest⟩
 ·
  exact .inl hn
 exact .inr ⟨g, cap, cur, rfl, hb, by rw [hg g (Array.getElem?_eq_some_iff.1 hgg).1]; exact hgg, rest⟩
theorem append_keeps {P : Program} {w : World} {base : Nat} {e : TypeId} {size n bytes : Nat} {v : Value} {xs : List Value} {t ty : TypeId} {i : TypeInfo} {z : Value} (ht : P.underlying t = some (.slice e)) (hi : P.info? e = some i) (hz : i.zero = some z) (hsize : i.size = size) (hby : i.bytes = bytes) (hzs : z.cells.size = size) (hsz : 0 < size)
  (hown : w.ownsRow base e size v n xs) {a : Addr} {c : Nat} {news : List Value} (hl : news.length = 1 * size) (hnews : ∀ j u, news[j]? = some u -> w.cell? (a.add j) = some u) (h1 : ∀ u ∈ news, u.oneCell' = true) (h63 : n + 1 <= maxLen) (hbytes : (n + 1) * bytes <= 140737488355328) (hbase : base <= w.heap.size) {v' : Value} {w' : World}
  (hr : (Builtin.append_ #[t, t] ty #[v, .slice (some a) 1 c]).run P w = .ok v' w') :
  w'.ownsRow base e size v n xs /\ ∀ u, u.ownBlock = v.ownBlock -> w.ownsRow base e size u (n + 1) (xs ++ news) -> w'.ownsRow base e size u (n + 1) (xs ++ news) := by
 have hall : (∀ k, k < w.heap.size -> w'.heap[k]? = w.heap[k]?) -> w'.ownsRow base e size v n xs /\ ∀ u, u.ownBlock = v.ownBlock -> w.ownsRow base e size u (n + 1) (xs ++ news) -> w'.ownsRow base e size u (n + 1) (xs ++ news) :=
  fun h => ⟨grown_nil hown h, fun u _ hu => grown_nil hu h⟩
 rcases hown.2 with ⟨rfl, rfl⟩ | ⟨g, cap, cur, rfl, hbg, hg, hnc, hcm, hcs, htake⟩
 ·
  obtain ⟨v2, w2, hr2, _, hg2, _, _⟩ := run_append_own_at (P := P) w base t ty e i z size bytes ht hi hz hsize hby hzs hsz _ _ xs hown a 1 c news hl hnews h1 h63 hbytes hbase
  rw [hr] at hr2
  cases hr2
  exact hall (fun k hk => hg2.block k hk (by simp [Value.ownBlock]))
 ·
  subst hsize
  by_cases hroom : n + 1 <= cap
  ·
   have hfit : n * i.size + news.length <= cur.size := by rw [hl, hcs, <- Nat.add_mul]; exact Nat.mul_le_mul_right _ hroom
   have hr2 := run_append_room (P := P) w t ty e i ht hi g n cap cur hg a 1 c news hl hnews h1 hroom hfit
   rw [hr] at hr2
   cases hr2
   have hx : xs.length = n * i.size := hown.1
   have hnl : news.length = i.size := by rw [hl]; omega
   have hxt : (cur.toList.take (n * i.size)).length = n * i.size := by rw [htake]; exact hx
   refine ⟨⟨hown.1, .inr ⟨g, cap, _, rfl, hbg, setRow_heap w g cur _ e _ hg, hnc, hcm, ?_, ?_⟩⟩, ?_⟩
   ·
    simp only [List.size_toArray, List.length_append, List.length_take, List.length_drop, Array.length_toList]
    omega
   ·
    rw [List.append_assoc]
    show List.take (n * i.size) (List.take (n * i.size) cur.toList ++ _) = xs
    rw [List.take_append_of_le_length (by omega), List.take_of_length_le (by omega)]
    exact htake
   intro u hub hu
   rcases hu.2 with ⟨_, hn0⟩ | ⟨g2, cap2, cur2, rfl, hbg2, hg2, hnc2, hcm2, hcs2, htake2⟩
   ·
    omega
   have : g2 = g := by simpa [Value.ownBlock] using hub
   subst this
   have : cur2 = cur := by
    rw [hg] at hg2
    cases hg2
    rfl
   subst this
   have hl2 : (xs ++ news).length = (n + 1) * i.size := hu.1
   refine ⟨hu.1, .inr ⟨g2, cap2, _, rfl, hbg2, setRow_heap w g2 cur2 _ e _ hg, hnc2, hcm2, ?_, ?_⟩⟩
   ·
    simp only [List.size_toArray, List.length_append, List.length_take, List.length_drop, Array.length_toList]
    omega
   rw [htake, <- hl2]
   exact List.take_left
  have holds : ∀ j u, xs[j]? = some u -> w.cell? ((⟨g, 0, none⟩ : Addr).add j) = some u := hown.cells (g := g) rfl
  subst hby
  have hr2 := run_append_grow (P := P) w t ty e i z ht hi hz ⟨g, 0, none⟩ n cap xs hown.1 holds a 1 c news hl hnews (by omega) (by simp only [maxLen] at h63; omega) (growslice_fits (by omega) hbytes)
  rw [hr] at hr2
  cases hr2
  exact hall (fun k hk => heap_alloc_old w.drew _ hk)
def kitArg (W0 : World) : Kit DV where
 k := 4
 cells := DV.cells
 len x := rfl
 one := kitDt.one
 ok w x := DtIn W0 0 W0.heap.size x.cells x.t
 uses x b := False
 lt w x b h hb := hb.elim
 kept w w' x row h hg hn := h
theorem OwnAt.dsAt {W0 w : World} {ty : TypeId} {base F : Nat} {v : Value} {X : List DV} (h : OwnAt (kitArg W0) ty base w v X) (hF : F < base) : ∃ A cap, v = .slice A X.length cap /\ DsAt W0 w F A cap (X.map (·.t)) := by
 obtain ⟨A, cap, rfl, h1, h2, hr, hA⟩ := h.form
 refine ⟨A, cap, rfl, by simpa using h1, h2, fun h0 => ?_⟩
 obtain ⟨b, o, rfl, hl, hc⟩ := hr.at_ (by simpa using h0)
 have hb := hA _ rfl
 refine ⟨b, o, rfl, hl, by simp only at hb; omega, fun i hi => ?_⟩
 have hx : i < X.length := by simpa using hi
 refine ⟨(X.map DV.cells)[i]'(by simpa using hx), (hc i (by simpa [kitArg] using hx)).2, ?_⟩
 rw [List.getElem_map, List.getElem_map]
 exact h.each _ (List.getElem_mem hx)
theorem kitArg_view {W0 : World} {c : List Value} {d : Dt} (h : DtIn W0 0 W0.heap.size c d) : ∃ x : DV, x.cells = c /\ x.t = d /\ DtIn W0 0 W0.heap.size x.cells x.t := by
 obtain ⟨x, h1, h2, _, _, _⟩ := h.view (Nat.le_refl _)
 exact ⟨x, h1, h2, by rw [h1, h2]; exact h⟩
structure Grown2 (a b : Option Nat) (w w' : World) : Prop where
 os : w'.os = w.os
 tape : w'.tape = w.tape
 output : w'.output = w.output
 size : w.heap.size <= w'.heap.size
 block : ∀ k, k < w.heap.size -> some k ≠ a -> some k ≠ b -> w'.heap[k]? = w.heap[k]?
theorem Grown2.trans {a b : Option Nat} {u v w : World} (h : Grown2 a b u v) (k : Grown2 a b v w) : Grown2 a b u w :=
 ⟨k.os.trans h.os, k.tape.trans h.tape, k.output.trans h.output, Nat.le_trans h.size k.size, fun i hi h1 h2 => (k.block i (Nat.lt_of_lt_of_le hi h.size) h1 h2).trans (h.block i hi h1 h2)⟩
theorem Grown2.left {a b : Option Nat} {w w' : World} (h : w.grownBy w' a) : Grown2 a b w w' := ⟨h.os, h.tape, h.output, h.size, fun k hk h1 _ => h.block k hk h1⟩
theorem Grown2.right {a b : Option Nat} {w w' : World} (h : w.grownBy w' b) : Grown2 a b w w' := ⟨h.os, h.tape, h.output, h.size, fun k hk _ h2 => h.block k hk h2⟩
theorem Grown2.below {a b : Option Nat} {w w' : World} (h : Below w.heap.size w w') : Grown2 a b w w' := .left (zb h a)
structure AB where
 W0 : World
 base : Nat
 W : World
 vA : Value
 vB : Value
 X : List DV
 Y : List DV
 x : DV
 y : DV
abbrev TD : TypeId := 38
namespace AB
def near (s : AB) (o : Option Nat) (u : Value) : Prop := u.ownBlock = o \/ ∃ g, u.ownBlock = some g /\ s.W.heap.size <= g
def pA (s : AB) (u : Value) (w : World) : Prop := w.ownsRow s.base TD 4 u (s.X.length + 1) ((s.X.map DV.cells).flatten ++ s.x.cells) /\ s.near s.vA.ownBlock u
def pB (s : AB) (u : Value) (w : World) : Prop := w.ownsRow s.base TD 4 u (s.Y.length + 1) ((s.Y.map DV.cells).flatten ++ s.y.cells) /\ s.near s.vB.ownBlock u
structure C (s : AB) (w : World) : Prop where
 g : Grown2 s.vA.ownBlock s.vB.ownBlock s.W w
 a : OwnAt (kitArg s.W0) TD s.base w s.vA s.X
 b : OwnAt (kitArg s.W0) TD s.base w s.vB s.Y
structure R (s : AB) (w w' : World) : Prop where
 g : Grown2 s.vA.ownBlock s.vB.ownBlock w w'
 a : ∀ u, s.pA u w -> s.pA u w'
 b : ∀ u, s.pB u w -> s.pB u w'
structure Ok (s : AB) : Prop where
 la : ∀ g, s.vA.ownBlock = some g -> g < s.W.heap.size
 lb : ∀ g, s.vB.ownBlock = some g -> g < s.W.heap.size
 ne : ∀ g, s.vA.ownBlock = some g -> s.vB.ownBlock ≠ some g
 dx : DtIn s.W0 0 s.W0.heap.size s.x.cells s.x.t
 dy : DtIn s.W0 0 s.W0.heap.size s.y.cells s.y.t
 nx : (s.X.length + 1) * 56 <= 140737488355328 /\ s.X.length + 1 <= maxLen
 ny : (s.Y.length + 1) * 56 <= 140737488355328 /\ s.Y.length + 1 <= maxLen
 base_ : s.base <= s.W.heap.size
variable {s : AB} {w w' : World}
theorem R.refl (s : AB) (w : World) : s.R w w := ⟨⟨rfl, rfl, rfl, Nat.le_refl _, fun _ _ _ _ => rfl⟩, fun _ h => h, fun _ h => h⟩
theorem R.new (hb : Below w.heap.size w w') : s.R w w' := ⟨.below hb, fun u h => ⟨grown_nil h.1 hb.block, h.2⟩, fun u h => ⟨grown_nil h.1 hb.block, h.2⟩⟩
theorem C.new (h : s.C w) (hb : Below w.heap.size w w') : s.C w' := ⟨h.g.trans (.below hb), h.a.new hb, h.b.new hb⟩
def pLit (s : AB) (c : List Value) (v : Value) (w : World) : Prop := ∃ g, v = .slice (some ⟨g, 0, none⟩) 1 1 /\ g < w.heap.size /\ some g ≠ s.vA.ownBlock /\ some g ≠ s.vB.ownBlock /\ ∀ j u, c[j]? = some u -> w.cell? (Addr.add ⟨g, 0, none⟩ j) = some u
theorem add0 (g j : Nat) : (⟨g, 0, none⟩ : Addr).add j = ⟨g, j, none⟩ := by unfold Addr.add; by_cases h0 : j = 0 <;> simp [h0]
theorem pLit_st (c : List Value) : ∀ v w w', s.pLit c v w -> s.R w w' -> s.pLit c v w' := by
 rintro v w w' ⟨g, h1, h2, h3, h4, h5⟩ hR
 refine ⟨g, h1, Nat.lt_of_lt_of_le h2 hR.g.size, h3, h4, fun j u hu => ?_⟩
 have := h5 j u hu
 rw [add0] at this ⊢
 rw [World.cell?_of_block (a := ⟨g, j, none⟩) (hR.g.block g h2 h3 h4)]
 exact this
theorem pA_st : ∀ v w w', s.pA v w -> s.R w w' -> s.pA v w' := fun v w w' h hR => hR.a v h
theorem pB_st : ∀ v w w', s.pB v w -> s.R w w' -> s.pB v w' := fun v w w' h hR => hR.b v h
theorem pVal_st (u : Value) : ∀ v w w', pVal u v w -> s.R w w' -> pVal u v w' := fun _ _ _ h _ => h
theorem C.cell (h : s.C w) {g j : Nat} {u : Value} (hg : g < s.W.heap.size) (h1 : some g ≠ s.vA.ownBlock) (h2 : some g ≠ s.vB.ownBlock) (hc : s.W.cell? ⟨g, j, none⟩ = some u) : w.cell? ⟨g, j, none⟩ = some u := by
 rw [World.cell?_of_block (a := ⟨g, j, none⟩) (h.g.block g hg h1 h2)]
 exact hc
def apart (u v : Value) : Prop := ∀ g, u.ownBlock = some g -> v.ownBlock ≠ some g
def S (s : AB) (i j : Nat) (v u : Value) : Prop := (i = 7 /\ j = 14 -> apart v u) /\ (i = 14 /\ j = 7 -> apart u v)
theorem S_else {i : Nat} (h1 : i ≠ 7) (h2 : i ≠ 14) : ∀ j v u, s.S i j v u /\ s.S j i u v := fun j v u => ⟨⟨fun h => absurd h.1 h1, fun h => absurd h.1 h2⟩, ⟨fun h => absurd h.2 h2, fun h => absurd h.2 h1⟩⟩
theorem near.apart_new {u v : Value} {g0 : Nat} (hu : u.ownBlock = some g0) (hv : ∀ g, v.ownBlock = some g -> g < g0) : AB.apart u v := by
 intro g hg e
 have := hv g e
 rw [hu] at hg
 cases hg
 omega
end AB
section
variable {ev : Operand -> Value} {o : Oper} {w : World}
theorem run_movU {x : Operand} {u : Value} (ho : o.op = .move x) (hx : ev x = u) : (execOp ev o).run Tryd.prog w = .ok (.value u) w := by
 unfold execOp
 simp [ho, go_sem, hx]
theorem run_fld3 {x : Operand} {g : Nat} (ho : o.op = .fieldAddr 38 x 3) (hx : ev x = .pointer (some ⟨g, 0, none⟩)) : (execOp ev o).run Tryd.prog w = .ok (.value (.pointer (some ⟨g, 3, none⟩))) w := by
 unfold execOp
 simp [ho, go_sem, hx]
theorem run_ldR {x : Operand} {g j n c : Nat} {A : Option Addr} (ho : o.op = .load 22 x) (hx : ev x = .pointer (some ⟨g, j, none⟩)) (hc : w.cell? ⟨g, j, none⟩ = some (.slice A n c)) : (execOp ev o).run Tryd.prog w = .ok (.value (.slice A n c)) w := by
 unfold execOp
 simp [ho, go_sem, hx, hc]
theorem run_idx0 {x : Operand} {b o' c : Nat} (ho : o.op = .indexAddr 22 x (.const (.int .i64 0))) (hk : ev (.const (.int .i64 0)) = .int .i64 0) (hx : ev x = .slice (some ⟨b, o', none⟩) 2 c) : (execOp ev o).run Tryd.prog w = .ok (.value (.pointer (some ⟨b, o', none⟩))) w := by
 unfold execOp
 simp [ho, go_sem, hx, hk]
theorem run_idx1 {x : Operand} {b o' c : Nat} (ho : o.op = .indexAddr 22 x (.const (.int .i64 1))) (hk : ev (.const (.int .i64 1)) = .int .i64 1) (hx : ev x = .slice (some ⟨b, o', none⟩) 2 c) : (execOp ev o).run Tryd.prog w = .ok (.value (.pointer (some ⟨b, o' + 4, none⟩))) w := by
 unfold execOp
 simp [ho, go_sem, hx, hk]
theorem run_ldD {x : Operand} {b o' : Nat} {u0 u1 u2 u3 : Value} (ho : o.op = .load 38 x) (hx : ev x = .pointer (some ⟨b, o', none⟩)) (c0 : w.cell? ⟨b, o', none⟩ = some u0) (c1 : w.cell? ⟨b, o' + 1, none⟩ = some u1) (c2 : w.cell? ⟨b, o' + 2, none⟩ = some u2) (c3 : w.cell? ⟨b, o' + 3, none⟩ = some u3) : (execOp ev o).run Tryd.prog w = .ok (.value (.agg #[u0, u1, u2, u3])) w := by
 unfold execOp
 simp [ho, go_sem, hx, c0, c1, c2, c3]
theorem run_litD {x : Operand} {u0 u1 u2 u3 : Value} (ho : o.op = .buildSlice 22 1 #[(0, x)]) (hx : ev x = .agg #[u0, u1, u2, u3]) : (execOp ev o).run Tryd.prog w = .ok (.value (.slice (some ⟨w.heap.size, 0, none⟩) 1 1)) (w.alloc (.cells #[u0, u1, u2, u3] 38)) := by
 unfold execOp
 simp [ho, go_sem, hx]
 try rfl
end
theorem infoDatum : (Tryd.prog.info? 38).map (fun i => (i.zero.map (fun z => z.cells.size), i.size, i.bytes)) = some (some 4, 4, 56) := by kernel_rfl
theorem infoDatum_parts : ∃ i z, Tryd.prog.info? 38 = some i /\ i.zero = some z /\ z.cells.size = 4 /\ i.size = 4 /\ i.bytes = 56 := by
 have h := infoDatum
 cases hi : Tryd.prog.info? 38 with
 | none => rw [hi] at h; simp at h
 | some i =>
  rw [hi] at h
  simp only [Option.map_some, Option.some.injEq, Prod.mk.injEq] at h
  obtain ⟨h1, h2, h3⟩ := h
  cases hz : i.zero with
  | none => rw [hz] at h1; simp at h1
  | some z => rw [hz] at h1; exact ⟨i, z, rfl, hz, by simpa using h1, h2, h3⟩
section
variable {s : AB} {FX : List (Nat × Value)} {L : List Told} {o : Oper}
abbrev AB.Okd (s : AB) (FX : List (Nat × Value)) (L : List Told) (o : Oper) (ψ : Value -> World -> Prop) : Prop := OpOk Tryd.prog s.C s.R FX L (o, ψ)
theorem ok_movU {x : Operand} {u : Value} (ho : o.op = .move x) (hx : Of FX L o x (pVal u)) : s.Okd FX L o (pVal u) := okv (AB.R.refl s) fun a w _ hf hk => ⟨_, run_movU ho (hx a w hf hk), rfl⟩
theorem ok_fld3 {x : Operand} {g : Nat} (ho : o.op = .fieldAddr 38 x 3) (hx : Of FX L o x (pVal (.pointer (some ⟨g, 0, none⟩)))) : s.Okd FX L o (pVal (.pointer (some ⟨g, 3, none⟩))) := okv (AB.R.refl s) fun a w _ hf hk => ⟨_, run_fld3 ho (hx a w hf hk), rfl⟩
theorem ok_ldR {x : Operand} {g n c : Nat} {A : Option Addr} (ho : o.op = .load 22 x) (hx : Of FX L o x (pVal (.pointer (some ⟨g, 3, none⟩)))) (hg : g < s.W.heap.size) (h1 : some g ≠ s.vA.ownBlock) (h2 : some g ≠ s.vB.ownBlock) (hc : s.W.cell? ⟨g, 3, none⟩ = some (.slice A n c)) : s.Okd FX L o (pVal (.slice A n c)) :=
 okv (AB.R.refl s) fun a w hC hf hk => ⟨_, run_ldR ho (hx a w hf hk) (hC.cell hg h1 h2 hc), rfl⟩
theorem ok_idx0 {x : Operand} {b o' c : Nat} (ho : o.op = .indexAddr 22 x (.const (.int .i64 0))) (hx : Of FX L o x (pVal (.slice (some ⟨b, o', none⟩) 2 c))) : s.Okd FX L o (pVal (.pointer (some ⟨b, o', none⟩))) := okv (AB.R.refl s) fun a w _ hf hk => ⟨_, run_idx0 ho rfl (hx a w hf hk), rfl⟩
theorem ok_idx1 {x : Operand} {b o' c : Nat} (ho : o.op = .indexAddr 22 x (.const (.int .i64 1))) (hx : Of FX L o x (pVal (.slice (some ⟨b, o', none⟩) 2 c))) : s.Okd FX L o (pVal (.pointer (some ⟨b, o' + 4, none⟩))) := okv (AB.R.refl s) fun a w _ hf hk => ⟨_, run_idx1 ho rfl (hx a w hf hk), rfl⟩
theorem ok_ldD {x : Operand} {b o' : Nat} {u0 u1 u2 u3 : Value} (ho : o.op = .load 38 x) (hx : Of FX L o x (pVal (.pointer (some ⟨b, o', none⟩)))) (hg : b < s.W.heap.size) (h1 : some b ≠ s.vA.ownBlock) (h2 : some b ≠ s.vB.ownBlock) (hr : RowAt s.W b o' [u0, u1, u2, u3]) : s.Okd FX L o (pVal (.agg #[u0, u1, u2, u3])) :=
 okv (AB.R.refl s) fun a w hC hf hk => ⟨_, run_ldD ho (hx a w hf hk) (hC.cell hg h1 h2 (hr 0 (by simp))) (hC.cell hg h1 h2 (hr 1 (by simp))) (hC.cell hg h1 h2 (hr 2 (by simp))) (hC.cell hg h1 h2 (hr 3 (by simp))), rfl⟩
theorem ok_litD {x : Operand} {u0 u1 u2 u3 : Value} (hS : s.Ok) (ho : o.op = .buildSlice 22 1 #[(0, x)]) (hx : Of FX L o x (pVal (.agg #[u0, u1, u2, u3]))) : s.Okd FX L o (s.pLit [u0, u1, u2, u3]) :=
 okn fun a w hC hf hk => by
  have hb : Below w.heap.size w (w.alloc (.cells #[u0, u1, u2, u3] 38)) := (Below.refl _ _).alloc (Nat.le_refl _) _
  refine ⟨_, _, run_litD ho (hx a w hf hk), hC.new hb, AB.R.new hb, w.heap.size, rfl, by simp, ?_, ?_, cells_lit _ _ rfl⟩
  ·
   intro e
   have := hS.la _ e.symm
   have := hC.g.size
   omega
  intro e
  have := hS.lb _ e.symm
  have := hC.g.size
  omega
theorem AB.near.lt {u : Value} {w : World} {n : Nat} {xs : List Value} (h : w.ownsRow s.base TD 4 u n xs) : ∀ g, u.ownBlock = some g -> g < w.heap.size := fun g hg => (h.lt g hg).2
theorem append_run {w : World} {v : Value} {X : List DV} {x : DV} {W0 : World} {base : Nat} {rt : TypeId} (hO : OwnAt (kitArg W0) TD base w v X) (hb : (X.length + 1) * 56 <= 140737488355328 /\ X.length + 1 <= maxLen) (hbase : base <= w.heap.size) {g : Nat} (hc : ∀ j u, x.cells[j]? = some u -> w.cell? (Addr.add ⟨g, 0, none⟩ j) = some u) :
  ∃ v' w', (Builtin.append_ #[22, 22] rt #[v, .slice (some ⟨g, 0, none⟩) 1 1]).run Tryd.prog w = .ok v' w' /\ w'.ownsRow base TD 4 v' (X.length + 1) ((X.map DV.cells).flatten ++ x.cells) /\ w.grownBy w' v.ownBlock /\ (v'.ownBlock = v.ownBlock \/ v'.ownBlock = some w.heap.size) /\ OwnAt (kitArg W0) TD base w' v X ∧
   ∀ u, u.ownBlock = v.ownBlock -> w.ownsRow base TD 4 u (X.length + 1) ((X.map DV.cells).flatten ++ x.cells) -> w'.ownsRow base TD 4 u (X.length + 1) ((X.map DV.cells).flatten ++ x.cells) := by
 obtain ⟨i, z, hi, hz, hzs, hsize, hby⟩ := infoDatum_parts
 have hrow : w.ownsRow base TD 4 v X.length (X.map DV.cells).flatten := hO.row
 obtain ⟨v', w', hr, h1, h2, _, h4⟩ := run_append_own_at (P := Tryd.prog) w base 22 rt TD i z 4 56 Tryd.underlying22 hi hz hsize hby hzs (by decide) v X.length _ hrow
  ⟨g, 0, none⟩ 1 1 x.cells rfl hc (kitDt.one x) hb.2 hb.1 hbase
 obtain ⟨k1, k2⟩ := append_keeps (P := Tryd.prog) (ty := rt) (t := 22) Tryd.underlying22 hi hz hsize hby hzs (by decide) hrow rfl hc (kitDt.one x) hb.2 hb.1 hbase hr
 exact ⟨v', w', hr, h1, h2, h4, ⟨k1, hO.each, fun _ _ _ h => h.elim, fun _ _ _ h => h.elim⟩, k2⟩
theorem ok_appA {x y : Operand} (hS : s.Ok) (hL : ∃ o', L[14]? = some (o', s.pB)) (ho : o.op = .call { callee := .builtin .append, args := #[x, y], argTypes := #[22, 22] }) (hx : Of FX L o x (pVal s.vA)) (hy : Of FX L o y (s.pLit s.x.cells)) :
  OpOk2 Tryd.prog s.C s.R FX L s.S 7 (o, s.pA) := by
 intro a w K Q hC hf hk hK
 obtain ⟨g, hg, hgw, hgA, hgB, hgc⟩ := hy a w hf hk
 have hbase : s.base <= w.heap.size := Nat.le_trans hS.base_ hC.g.size
 obtain ⟨v', w', hr, h1, h2, h4, h5, h6⟩ := append_run (rt := o.type) hC.a hS.nx hbase hgc
 have hxe : a.eval x = s.vA := hx a w hf hk
 unfold Oper.wp execOp
 simp only [ho, resolve, invoke, builtin, Sem.run_bind, Sem.run_pure, Result.andThen_ok, List.map_toArray, List.map_cons, List.map_nil, hxe, hg, hr]
 have hnear : s.near s.vA.ownBlock v' := by
  rcases h4 with h | h
  ·
   exact Or.inl h
  exact Or.inr ⟨_, h, hC.g.size⟩
 have hoff : ∀ u, s.near s.vB.ownBlock u -> u.ownBlock = none \/ u.ownBlock ≠ s.vA.ownBlock := by
  intro u hu
  rcases hu with h | ⟨g', h, hg'⟩
  ·
   cases hv : s.vB.ownBlock with
   | none => exact Or.inl (by rw [h, hv])
   | some b => exact Or.inr (by rw [h, hv]; exact fun e => hS.ne b e.symm hv)
  ·
   exact Or.inr (by
    rw [h]
    intro e
    have := hS.la _ e.symm
    omega)
 refine hK v' w' ⟨hC.g.trans (.left h2), h5, ⟨hC.b.row.kept h2 (hoff _ (Or.inl rfl)), hC.b.each, fun _ _ _ h => h.elim, fun _ _ _ h => h.elim⟩⟩ ⟨.left h2, ?_, ?_⟩ ⟨h1, hnear⟩ ?_
 ·
  rintro u ⟨hu, hn⟩
  refine ⟨?_, hn⟩
  rcases hn with h | ⟨g', h, hg'⟩
  ·
   exact h6 u h hu
  exact hu.kept h2 (Or.inr (by
   rw [h]
   intro e
   have := hS.la _ e.symm
   omega))
 ·
  rintro u ⟨hu, hn⟩
  exact ⟨hu.kept h2 (hoff u hn), hn⟩
 intro j tj u hj hLj hu
 by_cases h14 : j = 14
 ·
  subst h14
  obtain ⟨o', hL'⟩ := hL
  rw [hLj] at hL'
  cases hL'
  obtain ⟨hur, hun⟩ := hu
  have hap : AB.apart v' u := by
   rcases h4 with h | h
   ·
    intro b hb e
    rw [h] at hb
    rcases hoff u hun with h' | h'
    ·
     rw [h'] at e; cases e
    exact h' (by rw [e, hb])
   exact AB.near.apart_new h (AB.near.lt hur)
  exact ⟨⟨fun _ => hap, fun h => by omega⟩, ⟨fun h => by omega, fun _ => hap⟩⟩
 ·
  exact ⟨⟨fun h => absurd h.2 h14, fun h => by omega⟩, ⟨fun h => by omega, fun h => absurd h.1 h14⟩⟩
theorem ok_appB {x y : Operand} (hS : s.Ok) (hL : ∃ o', L[7]? = some (o', s.pA)) (ho : o.op = .call { callee := .builtin .append, args := #[x, y], argTypes := #[22, 22] }) (hx : Of FX L o x (pVal s.vB)) (hy : Of FX L o y (s.pLit s.y.cells)) :
  OpOk2 Tryd.prog s.C s.R FX L s.S 14 (o, s.pB) := by
 intro a w K Q hC hf hk hK
 obtain ⟨g, hg, hgw, hgA, hgB, hgc⟩ := hy a w hf hk
 have hbase : s.base <= w.heap.size := Nat.le_trans hS.base_ hC.g.size
 obtain ⟨v', w', hr, h1, h2, h4, h5, h6⟩ := append_run (rt := o.type) hC.b hS.ny hbase hgc
 have hxe : a.eval x = s.vB := hx a w hf hk
 unfold Oper.wp execOp
 simp only [ho, resolve, invoke, builtin, Sem.run_bind, Sem.run_pure, Result.andThen_ok, List.map_toArray, List.map_cons, List.map_nil, hxe, hg, hr]
 have hnear : s.near s.vB.ownBlock v' := by
  rcases h4 with h | h
  ·
   exact Or.inl h
  exact Or.inr ⟨_, h, hC.g.size⟩
 have hoff : ∀ u, s.near s.vA.ownBlock u -> u.ownBlock = none \/ u.ownBlock ≠ s.vB.ownBlock := by
  intro u hu
  rcases hu with h | ⟨g', h, hg'⟩
  ·
   cases hv : s.vA.ownBlock with
   | none => exact Or.inl (by rw [h, hv])
   | some b => exact Or.inr (by rw [h, hv]; exact fun e => hS.ne b hv e.symm)
  ·
   exact Or.inr (by
    rw [h]
    intro e
    have := hS.lb _ e.symm
    omega)
 refine hK v' w' ⟨hC.g.trans (.right h2), ⟨hC.a.row.kept h2 (hoff _ (Or.inl rfl)), hC.a.each, fun _ _ _ h => h.elim, fun _ _ _ h => h.elim⟩, h5⟩ ⟨.right h2, ?_, ?_⟩ ⟨h1, hnear⟩ ?_
 ·
  rintro u ⟨hu, hn⟩
  exact ⟨hu.kept h2 (hoff u hn), hn⟩
 ·
  rintro u ⟨hu, hn⟩
  refine ⟨?_, hn⟩
  rcases hn with h | ⟨g', h, hg'⟩
  ·
   exact h6 u h hu
  exact hu.kept h2 (Or.inr (by
   rw [h]
   intro e
   have := hS.lb _ e.symm
   omega))
 intro j tj u hj hLj hu
 by_cases h7 : j = 7
 ·
  subst h7
  obtain ⟨o', hL'⟩ := hL
  rw [hLj] at hL'
  cases hL'
  obtain ⟨hur, hun⟩ := hu
  have hap : AB.apart u v' := by
   intro b hb e
   rcases h4 with h | h
   ·
    rw [h] at e
    rcases hoff u hun with h' | h'
    ·
     rw [h'] at hb; cases hb
    exact h' (by rw [e, hb])
   rw [h] at e
   cases e
   have := AB.near.lt hur _ hb
   omega
  exact ⟨⟨fun h => by omega, fun _ => hap⟩, ⟨fun _ => hap, fun h => by omega⟩⟩
 ·
  exact ⟨⟨fun h => by omega, fun h => absurd h.2 h7⟩, ⟨fun h => absurd h.1 h7, fun h => by omega⟩⟩
end
end Go.Proofs.YtjmeodadkjcmmaaDoor
