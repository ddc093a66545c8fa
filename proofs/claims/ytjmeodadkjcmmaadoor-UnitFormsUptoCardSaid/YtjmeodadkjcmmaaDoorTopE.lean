import Derived.Test.YtjmeodadkjcmmaaDoorTopD
namespace Go.Proofs.YtjmeodadkjcmmaaDoor
open Go.RowKit Go.ChangeShapes Go.WideShapes Go.Deep Go.ChangeAt
set_option linter.unusedVariables false
set_option maxRecDepth 20000
structure DfV where
 name : ByteArray
 x : EV
def DfV.cells (d : DfV) : List Value := .string d.name :: d.x.cells
def DfV.pr (d : DfV) : ByteArray × Ex := (d.name, d.x.t)
abbrev TDf : TypeId := 71
theorem DfV.one (d : DfV) : ∀ u ∈ d.cells, u.oneCell' = true := by
 intro u hu
 rcases List.mem_cons.1 hu with rfl | hu
 ·
  rfl
 exact d.x.one u hu
def kitDf (W0 : World) (p : Prop) : Kit DfV where
 k := 10
 cells := DfV.cells
 len x := rfl
 one := DfV.one
 ok w x := p -> (kitEx W0).ok w x.x
 uses x b := p /\ (kitEx W0).uses x.x b
 lt w x b h hb := (kitEx W0).lt w x.x b (h hb.1) hb.2
 kept w w' x row h hg hn := fun hp => (kitEx W0).kept w w' x.x row (h hp) hg (fun b hb => hn b ⟨hp, hb⟩)
structure ArgsIn (W0 w : World) (lo hi : Nat) (A : Option Addr) (cap : Nat) (ts : List Ex) : Prop where
 le : ts.length <= cap
 cap_ : cap <= maxLen
 row : ∃ cs : List (List Value), cs.length = ts.length /\ RowK w lo hi 9 A cs /\ ∀ i, (h : i < ts.length) -> (h' : i < cs.length) -> ExIn W0 w lo hi cs[i] ts[i]
theorem ArgsIn.mono {W0 w w' : World} {lo hi lo' hi' : Nat} {A : Option Addr} {cap : Nat} {ts : List Ex} (h : ArgsIn W0 w lo hi A cap ts) (hk : Keep lo hi w w') (hs : w.heap.size <= w'.heap.size) (h1 : lo' <= lo) (h2 : hi <= hi') : ArgsIn W0 w' lo' hi' A cap ts := by
 obtain ⟨cs, hl, hr, he⟩ := h.row
 exact ⟨h.le, h.cap_, cs, hl, hr.mono hk hs h1 h2, fun i hi hi' => (he i hi hi').mono hk hs h1 h2⟩
theorem OwnAt.argsIn {W0 : World} {ty : TypeId} {base : Nat} {w : World} {v : Value} {X : List EV} (h : OwnAt (kitEx W0) ty base w v X) : ∃ A cap, v = .slice A X.length cap /\ ArgsIn W0 w base w.heap.size A cap (X.map (·.t)) := by
 obtain ⟨A, cap, rfl, h1, h2, hr, he⟩ := h.args
 exact ⟨A, cap, rfl, by simpa using h1, h2, X.map EV.cells, by simp, hr, he⟩
structure UpV where
 name : ByteArray
 A : Option Addr
 n : Nat
 cap : Nat
 ts : List Ex
 lo : Nat
 hi : Nat
def UpV.cells (x : UpV) : List Value := [.string x.name, .slice x.A x.n x.cap]
def UpV.pr (x : UpV) : ByteArray × List Ex := (x.name, x.ts)
def UpV.ne (x : UpV) : NE := ⟨x.name, x.A, x.n, x.cap⟩
abbrev TUp : TypeId := 73
def kitUp (W0 : World) (p : Prop) : Kit UpV where
 k := 2
 cells := UpV.cells
 len x := rfl
 one x u hu := by
  simp only [UpV.cells, List.mem_cons, List.not_mem_nil, or_false] at hu
  rcases hu with rfl | rfl <;> rfl
 ok w x := p -> x.n = x.ts.length /\ ArgsIn W0 w x.lo x.hi x.A x.cap x.ts /\ x.hi <= w.heap.size
 uses x b := p /\ x.lo <= b /\ b < x.hi
 lt w x b h hb := Nat.lt_of_lt_of_le hb.2.2 (h hb.1).2.2
 kept w w' x row h hg hn := fun hp => ⟨(h hp).1, (h hp).2.1.mono (zm hg (fun b h1 h2 => hn b ⟨hp, h1, h2⟩)) hg.size (Nat.le_refl _) (Nat.le_refl _), Nat.le_trans (h hp).2.2 hg.size⟩
theorem OwnAt.nesUp {W0 w : World} {p : Prop} {base : Nat} {v : Value} {X : List UpV} (h : OwnAt (kitUp W0 p) TUp base w v X) : ∃ A cap, v = .slice A X.length cap /\ X.length <= cap /\ cap <= maxLen /\ NEsAt w A X.length (X.map UpV.ne) := by
 obtain ⟨A, cap, rfl, h1, h2, hr, _⟩ := h.form
 refine ⟨A, cap, rfl, h1, h2, by simp, fun h0 => ?_⟩
 obtain ⟨b, o, rfl, hl, hc⟩ := hr.at_ h0
 refine ⟨b, o, rfl, hl, fun i hi => ?_⟩
 have hx : i < X.length := by simpa using hi
 have hrow := (hc i (by simpa [kitUp] using hx)).2
 rw [List.getElem_map] at hrow
 rw [List.getElem_map]
 exact ⟨hrow 0 (by simp [kitUp, UpV.cells]), hrow 1 (by simp [kitUp, UpV.cells])⟩
theorem OwnAt.df {W0 w : World} {p q : Prop} {base : Nat} {v : Value} {X : List DfV} (h : OwnAt (kitDf W0 p) TDf base w v X) (hqp : q -> p) : OwnAt (kitDf W0 q) TDf base w v X :=
 ⟨h.row, fun x hx hq => h.each x hx (hqp hq), fun x hx b hb => h.from_ x hx b ⟨hqp hb.1, hb.2⟩, fun x hx b hb => h.apart x hx b ⟨hqp hb.1, hb.2⟩⟩
theorem OwnAt.up {W0 w : World} {p q : Prop} {base : Nat} {v : Value} {X : List UpV} (h : OwnAt (kitUp W0 p) TUp base w v X) (hqp : q -> p) : OwnAt (kitUp W0 q) TUp base w v X :=
 ⟨h.row, fun x hx hq => h.each x hx (hqp hq), fun x hx b hb => h.from_ x hx b ⟨hqp hb.1, hb.2⟩, fun x hx b hb => h.apart x hx b ⟨hqp hb.1, hb.2⟩⟩
structure FmOff (m : Fm) (base U : Nat) : Prop where
 g : 0 < m.gl -> ∀ a, m.G = some a -> a.block < base /\ a.block ≠ U
 s : 0 < m.sl -> ∀ a, m.S = some a -> a.block < base /\ a.block ≠ U
 f : ∀ x ∈ m.sh, 0 < x.len -> ∀ a, x.A = some a -> a.block < base /\ a.block ≠ U
 o : 0 < m.ol -> ∀ a, m.O = some a -> a.block < base /\ a.block ≠ U
theorem zb1.kept {w w' : World} {A : Option Addr} {len : Nat} {ss : List ByteArray} (h : zb1 w A len ss) (hs : w.heap.size <= w'.heap.size) (hb : 0 < len -> ∀ a, A = some a -> w'.heap[a.block]? = w.heap[a.block]?) : zb1 w' A len ss :=
 ⟨h.size, fun h0 => by
  obtain ⟨b, o, rfl, hl, hc⟩ := h.at_ h0
  refine ⟨b, o, rfl, Nat.lt_of_lt_of_le hl hs, fun i hi => ?_⟩
  rw [World.cell?_of_block (a := ⟨b, o + i, none⟩) (hb h0 ⟨b, o, none⟩ rfl)]
  exact hc i hi⟩
theorem zx.carry {W0 w w' : World} {m : Fm} {e : Int} {base g N : Nat} (h : zx W0 w m e) (ho : FmOff m base g) (hg0 : W0.heap.size <= g) (hb0 : W0.heap.size <= base) (hF : m.F < base) (hgF : g ≠ m.F) (hg : zy base g N w w') (hN : N = g) : zx W0 w' m e := by
 subst hN
 have hk : ∀ k, k < base -> k ≠ N -> w'.heap[k]? = w.heap[k]? := fun k h1 h2 => hg.block k h1 h2 h2
 have hcF : ∀ j, w'.cell? ⟨m.F, j, none⟩ = w.cell? ⟨m.F, j, none⟩ := fun j => World.cell?_of_block (a := ⟨m.F, j, none⟩) (hk m.F hF (fun e => hgF e.symm))
 have hfF : ∀ j, w'.frozen? ⟨m.F, j, none⟩ = w.frozen? ⟨m.F, j, none⟩ := fun j => World.frozen?_of_block (a := ⟨m.F, j, none⟩) (hk m.F hF (fun e => hgF e.symm))
 have hbl : Below W0.heap.size W0 w' := ⟨hg.os.trans h.below.os, hg.tape.trans h.below.tape, hg.output.trans h.below.output, Nat.le_trans h.below.size hg.size, fun k hk' => (hk k (by omega) (by omega)).trans (h.below.block k hk')⟩
 refine ⟨hbl, h.ge, Nat.lt_of_lt_of_le h.lt hg.size, h.maps, (hcF 0).trans h.c0, (hcF 1).trans h.c1, (hcF 2).trans h.c2, (hcF 3).trans h.c3, (hcF 4).trans h.c4, fun j => (hfF j).trans (h.fz j),
  h.g.kept hg.size (fun h0 a ha => hk _ (ho.g h0 a ha).1 (ho.g h0 a ha).2), h.gle, h.gcap, h.goff, ⟨⟨h.s.at_.size, fun h0 => ?_, fun x hx => ?_⟩, h.s.off, h.s.each⟩, h.sle, h.scap,
  h.o.kept hg.size (fun h0 a ha => hk _ (ho.o h0 a ha).1 (ho.o h0 a ha).2), h.ole, h.ocap, h.ooff⟩
 ·
  obtain ⟨b, o, hA, hl, hc⟩ := h.s.at_.at_ h0
  have hb : w'.heap[b]? = w.heap[b]? := hk b (ho.s h0 _ hA).1 (ho.s h0 _ hA).2
  refine ⟨b, o, hA, Nat.lt_of_lt_of_le hl hg.size, fun i hi => ?_⟩
  rw [World.cell?_of_block (a := ⟨b, o + i * 2, none⟩) hb, World.cell?_of_block (a := ⟨b, o + i * 2 + 1, none⟩) hb]
  exact hc i hi
 have hx0 := h.s.at_.each x hx
 exact ⟨hx0.cells, hx0.wide, hx0.strs.kept hg.size (fun h0 a ha => hk _ (ho.f x hx h0 a ha).1 (ho.f x hx h0 a ha).2), hx0.each, hx0.le, hx0.cap_⟩
structure UnAt (W0 w : World) (base : Nat) (m : Fm) (U : Nat) (vS vD vP : Value) (S : List NE) (p : Prop) (D : List DfV) (P : List UpV) : Prop where
 geU : W0.heap.size <= U
 ltU : U < base
 neU : U ≠ m.F
 ltF : m.F < base
 bs : base <= w.heap.size
 off : FmOff m base U
 u0 : w.cell? ⟨U, 0, none⟩ = some vS
 u1 : w.cell? ⟨U, 1, none⟩ = some vD
 u2 : w.cell? ⟨U, 2, none⟩ = some vP
 fu : ∀ j, w.frozen? ⟨U, j, none⟩ = false
 sS : ∃ A cap, vS = .slice A S.length cap /\ S.length <= cap /\ cap <= maxLen /\ NEsAt w A S.length S /\ (0 < S.length -> ∀ a, A = some a -> a.block < base /\ a.block ≠ U /\ a.block ≠ m.F)
 oD : OwnAt (kitDf W0 p) TDf base w vD D
 oP : OwnAt (kitUp W0 p) TUp base w vP P
 ne : AB.apart vD vP
 offD : ∀ x ∈ D, ∀ b, (kitDf W0 p).uses x b -> vP.ownBlock ≠ some b
 offP : ∀ x ∈ P, ∀ b, (kitUp W0 p).uses x b -> vD.ownBlock ≠ some b
theorem NEsAt.kept {w w' : World} {A : Option Addr} {len : Nat} {L : List NE} (h : NEsAt w A len L) (hs : w.heap.size <= w'.heap.size) (hb : 0 < len -> ∀ a, A = some a -> w'.heap[a.block]? = w.heap[a.block]?) : NEsAt w' A len L :=
 ⟨h.size, fun h0 => by
  obtain ⟨b, o, rfl, hl, hc⟩ := h.at_ h0
  refine ⟨b, o, rfl, Nat.lt_of_lt_of_le hl hs, fun i hi => ?_⟩
  rw [World.cell?_of_block (a := ⟨b, o + i * 2, none⟩) (hb h0 ⟨b, o, none⟩ rfl), World.cell?_of_block (a := ⟨b, o + i * 2 + 1, none⟩) (hb h0 ⟨b, o, none⟩ rfl)]
  exact hc i hi⟩
section
variable {W0 w w' : World} {base : Nat} {m : Fm} {U : Nat} {vS vD vP : Value} {S : List NE} {p : Prop} {D : List DfV} {P : List UpV}
theorem UnAt.grownF (h : UnAt W0 w base m U vS vD vP S p D P) (hg : w.grownBy w' (some m.F)) : UnAt W0 w' base m U vS vD vP S p D P := by
 have hs := h.bs
 have hbU : w'.heap[U]? = w.heap[U]? := hg.block U (by have := h.ltU; omega) (fun e => h.neU (Option.some.inj e))
 have hc : ∀ j, w'.cell? ⟨U, j, none⟩ = w.cell? ⟨U, j, none⟩ := fun j => World.cell?_of_block (a := ⟨U, j, none⟩) hbU
 obtain ⟨A, cap, e1, e2, e3, e4, e5⟩ := h.sS
 exact ⟨h.geU, h.ltU, h.neU, h.ltF, Nat.le_trans hs hg.size, h.off, (hc 0).trans h.u0, (hc 1).trans h.u1, (hc 2).trans h.u2, fun j => (World.frozen?_of_block (a := ⟨U, j, none⟩) hbU).trans (h.fu j),
  ⟨A, cap, e1, e2, e3, e4.kept hg.size (fun h0 a ha => hg.block _ (by have := (e5 h0 a ha).1; omega) (fun e => (e5 h0 a ha).2.2 (Option.some.inj e))), e5⟩, h.oD.other hg h.ltF, h.oP.other hg h.ltF, h.ne, h.offD, h.offP⟩
theorem UnAt.next (h : UnAt W0 w base m U vS vD vP S p D P) (hb : Below w.heap.size w w') : UnAt W0 w' base m U vS vD vP S p D P := h.grownF (zb hb _)
theorem UnAt.weak {q : Prop} (h : UnAt W0 w base m U vS vD vP S p D P) (hqp : q -> p) : UnAt W0 w base m U vS vD vP S q D P :=
 ⟨h.geU, h.ltU, h.neU, h.ltF, h.bs, h.off, h.u0, h.u1, h.u2, h.fu, h.sS, h.oD.df hqp, h.oP.up hqp, h.ne, fun x hx b hb => h.offD x hx b ⟨hqp hb.1, hb.2⟩, fun x hx b hb => h.offP x hx b ⟨hqp hb.1, hb.2⟩⟩
theorem zy.ofF {U F : Nat} (hg : w.grownBy w' (some F)) (hb : base <= w.heap.size) : zy base U F w w' := ⟨hg.os, hg.tape, hg.output, hg.size, fun k hk _ h2 => hg.block k (by omega) (fun e => h2 (Option.some.inj e))⟩
theorem zy.wide {U F : Nat} (hg : zy base U U w w') : zy base U F w w' := ⟨hg.os, hg.tape, hg.output, hg.size, fun k hk h1 _ => hg.block k hk h1 h1⟩
theorem UnAt.def_ {w2 : World} {u : Value} {x : DfV} (h : UnAt W0 w base m U vS vD vP S p D P) (hO : OwnAt (kitDf W0 p) TDf base w2 u (D ++ [x])) (hg : w.grownBy w2 vD.ownBlock) (hu : u.ownBlock = vD.ownBlock \/ ∃ b, u.ownBlock = some b /\ w.heap.size <= b) (hx : ∀ b, (kitDf W0 p).uses x b -> vP.ownBlock ≠ some b) :
  UnAt W0 (w2.setCell ⟨U, 1, none⟩ u) base m U vS u vP S p (D ++ [x]) P /\ zy base U U w (w2.setCell ⟨U, 1, none⟩ u) := by
 have hs := h.bs
 have hvD : ∀ k, vD.ownBlock = some k -> base <= k := fun k hk => (h.oD.row.lt k hk).1
 have hvP : ∀ k, vP.ownBlock = some k -> k < w.heap.size := fun k hk => (h.oP.row.lt k hk).2
 have hG : zy base U U w w2 := zy.row hg hvD hs
 have hblk : ∀ b, b < base -> w2.heap[b]? = w.heap[b]? := fun b hb' => hg.block b (by omega) (fun e => by have := hvD b e.symm; omega)
 have hc : ∀ j, w2.cell? ⟨U, j, none⟩ = w.cell? ⟨U, j, none⟩ := fun j => World.cell?_of_block (a := ⟨U, j, none⟩) (hblk U h.ltU)
 have hset := zd w2 U 1 u
 have hP : OwnAt (kitUp W0 p) TUp base w2 vP P := h.oP.grown hg (by
  cases hv : vP.ownBlock with
  | none => exact Or.inl rfl
  | some b => exact Or.inr (fun e => h.ne b e.symm hv)) (fun y hy b hb => h.offP y hy b hb)
 obtain ⟨A, cap, e1, e2, e3, e4, e5⟩ := h.sS
 have hsz : w.heap.size <= (w2.setCell ⟨U, 1, none⟩ u).heap.size := by simpa [World.setCell] using hg.size
 have hblk2 : ∀ b, b < base -> b ≠ U -> (w2.setCell ⟨U, 1, none⟩ u).heap[b]? = w.heap[b]? := fun b h1 h2 => (heap_setCell_other w2 ⟨U, 1, none⟩ b u (fun e => h2 e)).trans (hblk b h1)
 refine ⟨⟨h.geU, h.ltU, h.neU, h.ltF, Nat.le_trans hs hsz, h.off, zj ((hc 0).trans h.u0) (by decide), zk ((hc 1).trans h.u1), zj ((hc 2).trans h.u2) (by decide), fun j => by rw [World.frozen?_setCell]; exact (World.frozen?_of_block (a := ⟨U, j, none⟩) (hblk U h.ltU)).trans (h.fu j),
  ⟨A, cap, e1, e2, e3, e4.kept hsz (fun h0 a ha => hblk2 _ (e5 h0 a ha).1 (e5 h0 a ha).2.1), e5⟩, hO.other hset h.ltU, hP.other hset h.ltU, ?_, ?_, ?_⟩, hG.trans (zy.setU w2 1 u)⟩
 ·
  intro g hg1 hg2
  rcases hu with e | ⟨b, e, hb⟩
  ·
   rw [e] at hg1; exact h.ne g hg1 hg2
  rw [e] at hg1
  cases hg1
  have := hvP g hg2
  omega
 ·
  intro y hy b hb
  rcases List.mem_append.1 hy with hy | hy
  ·
   exact h.offD y hy b hb
  obtain rfl : y = x := by simpa using hy
  exact hx b hb
 intro y hy b hb e
 rcases hu with e' | ⟨b', e', hb'⟩
 ·
  exact h.offP y hy b hb (e' ▸ e)
 rw [e'] at e
 cases e
 have := (kitUp W0 p).lt _ _ _ (h.oP.each y hy) hb
 omega
theorem UnAt.up_ {w2 : World} {u : Value} {x : UpV} (h : UnAt W0 w base m U vS vD vP S p D P) (hO : OwnAt (kitUp W0 p) TUp base w2 u (P ++ [x])) (hg : w.grownBy w2 vP.ownBlock) (hu : u.ownBlock = vP.ownBlock \/ ∃ b, u.ownBlock = some b /\ w.heap.size <= b) (hx : ∀ b, (kitUp W0 p).uses x b -> vD.ownBlock ≠ some b) :
  UnAt W0 (w2.setCell ⟨U, 2, none⟩ u) base m U vS vD u S p D (P ++ [x]) /\ zy base U U w (w2.setCell ⟨U, 2, none⟩ u) := by
 have hs := h.bs
 have hvP : ∀ k, vP.ownBlock = some k -> base <= k := fun k hk => (h.oP.row.lt k hk).1
 have hvD : ∀ k, vD.ownBlock = some k -> k < w.heap.size := fun k hk => (h.oD.row.lt k hk).2
 have hG : zy base U U w w2 := zy.row hg hvP hs
 have hblk : ∀ b, b < base -> w2.heap[b]? = w.heap[b]? := fun b hb' => hg.block b (by omega) (fun e => by have := hvP b e.symm; omega)
 have hc : ∀ j, w2.cell? ⟨U, j, none⟩ = w.cell? ⟨U, j, none⟩ := fun j => World.cell?_of_block (a := ⟨U, j, none⟩) (hblk U h.ltU)
 have hset := zd w2 U 2 u
 have hD : OwnAt (kitDf W0 p) TDf base w2 vD D := h.oD.grown hg (by
  cases hv : vD.ownBlock with
  | none => exact Or.inl rfl
  | some b => exact Or.inr (fun e => h.ne b hv e.symm)) (fun y hy b hb => h.offD y hy b hb)
 obtain ⟨A, cap, e1, e2, e3, e4, e5⟩ := h.sS
 have hsz : w.heap.size <= (w2.setCell ⟨U, 2, none⟩ u).heap.size := by simpa [World.setCell] using hg.size
 have hblk2 : ∀ b, b < base -> b ≠ U -> (w2.setCell ⟨U, 2, none⟩ u).heap[b]? = w.heap[b]? := fun b h1 h2 => (heap_setCell_other w2 ⟨U, 2, none⟩ b u (fun e => h2 e)).trans (hblk b h1)
 refine ⟨⟨h.geU, h.ltU, h.neU, h.ltF, Nat.le_trans hs hsz, h.off, zj ((hc 0).trans h.u0) (by decide), zj ((hc 1).trans h.u1) (by decide), zk ((hc 2).trans h.u2), fun j => by rw [World.frozen?_setCell]; exact (World.frozen?_of_block (a := ⟨U, j, none⟩) (hblk U h.ltU)).trans (h.fu j),
  ⟨A, cap, e1, e2, e3, e4.kept hsz (fun h0 a ha => hblk2 _ (e5 h0 a ha).1 (e5 h0 a ha).2.1), e5⟩, hD.other hset h.ltU, hO.other hset h.ltU, ?_, ?_, ?_⟩, hG.trans (zy.setU w2 2 u)⟩
 ·
  intro g hg1 hg2
  rcases hu with e | ⟨b, e, hb⟩
  ·
   rw [e] at hg2; exact h.ne g hg1 hg2
  rw [e] at hg2
  cases hg2
  have := hvD g hg1
  omega
 ·
  intro y hy b hb e
  rcases hu with e' | ⟨b', e', hb'⟩
  ·
   exact h.offD y hy b hb (e' ▸ e)
  rw [e'] at e
  cases e
  have := (kitDf W0 p).lt _ _ _ (h.oD.each y hy) hb
  omega
 intro y hy b hb
 rcases List.mem_append.1 hy with hy | hy
 ·
  exact h.offP y hy b hb
 obtain rfl : y = x := by simpa using hy
 exact hx b hb
end
theorem upgrade1_says {w : World} {lb p q M c : Nat} {k : Int} {s : ByteArray} (hl : w.cell? ⟨lb, 0, none⟩ = some (.slice (some ⟨p, q, none⟩) M c)) (hlb : lb < w.heap.size) (hM : 0 < M) (h0 : w.cell? ⟨p, q, none⟩ = some (.int .i64 k)) (h2 : w.cell? ⟨p, q + 2, none⟩ = some (.string s)) (hp : p < w.heap.size) :
  PredSays w 70 (.pointer (some ⟨lb, 0, none⟩)) (fun x => k == 3 && (x.toList == s.toList)) := by
 intro w' x hbl
 have l0 : w'.cell? ⟨lb, 0, none⟩ = some (.slice (some ⟨p, q, none⟩) M c) := (hbl.cell (p := ⟨lb, 0, none⟩) hlb).trans hl
 have k0 : w'.cell? ⟨p, q, none⟩ = some (.int .i64 k) := (hbl.cell (p := ⟨p, q, none⟩) hp).trans h0
 have s0 : w'.cell? ⟨p, q + 2, none⟩ = some (.string s) := (hbl.cell (p := ⟨p, q + 2, none⟩) hp).trans h2
 have n1 := World.new_ne w' _ l0
 have n2 := World.new_ne w' _ k0
 have hlb' : lb < w'.heap.size := Nat.lt_of_lt_of_le hlb hbl.size
 have hp' : p < w'.heap.size := Nat.lt_of_lt_of_le hp hbl.size
 have hM1 : (0 : Int) < (M : Int) := by omega
 clear hl h0 h2 hbl
 obtain ⟨nm, xA, xn, xc⟩ := x
 cases hk : (k == 3)
 ·
  have hk2 : (k == 3) = false := hk
  go_enter Tryd.func70, Tryd.ntmps70
  go_upto_region 1 with fail
  go_quiet (fail)
  go_wp2_with fail
  go_ret
  exact ⟨by simp, below_drewN ((Below.refl _ _).alloc (Nat.le_refl _) _) _⟩
 have hk2 : (k == 3) = true := hk
 go_enter Tryd.func70, Tryd.ntmps70
 go_upto_region 1 with fail
 go_quiet (fail)
 go_wp2_with fail
 go_ret
 exact ⟨by simp, below_drewN ((Below.refl _ _).alloc (Nat.le_refl _) _) _⟩
theorem upgrade2_says {w : World} {lb p q M c : Nat} {s : ByteArray} (hl : w.cell? ⟨lb, 0, none⟩ = some (.slice (some ⟨p, q, none⟩) M c)) (hlb : lb < w.heap.size) (hM : 0 < M) (h2 : w.cell? ⟨p, q + 2, none⟩ = some (.string s)) (hp : p < w.heap.size) :
  PredSays w 72 (.pointer (some ⟨lb, 0, none⟩)) (fun x => x.toList == s.toList) := by
 intro w' x hbl
 have l0 : w'.cell? ⟨lb, 0, none⟩ = some (.slice (some ⟨p, q, none⟩) M c) := (hbl.cell (p := ⟨lb, 0, none⟩) hlb).trans hl
 have s0 : w'.cell? ⟨p, q + 2, none⟩ = some (.string s) := (hbl.cell (p := ⟨p, q + 2, none⟩) hp).trans h2
 have n1 := World.new_ne w' _ l0
 have n2 := World.new_ne w' _ s0
 have hlb' : lb < w'.heap.size := Nat.lt_of_lt_of_le hlb hbl.size
 have hp' : p < w'.heap.size := Nat.lt_of_lt_of_le hp hbl.size
 have hM1 : (0 : Int) < (M : Int) := by omega
 clear hl h2 hbl
 obtain ⟨nm, xA, xn, xc⟩ := x
 go_enter Tryd.func72, Tryd.ntmps72
 go_upto_region 1 with fail
 go_quiet (fail)
 go_wp2_with fail
 go_ret
 exact ⟨rfl, below_drewN ((Below.refl _ _).alloc (Nat.le_refl _) _) _⟩
end Go.Proofs.YtjmeodadkjcmmaaDoor
