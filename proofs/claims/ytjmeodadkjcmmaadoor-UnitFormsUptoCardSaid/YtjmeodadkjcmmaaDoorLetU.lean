import Derived.Test.YtjmeodadkjcmmaaDoorWordB
import Derived.Test.YtjmeodadkjcmmaaDoorGFormJ
namespace Go.Proofs.YtjmeodadkjcmmaaDoor
open Go.RowKit Go.ChangeShapes Go.WideShapes Go.Deep Go.ChangeAt
set_option linter.unusedVariables false
set_option maxRecDepth 100000
structure LListAt (w : World) (p : Nat) (k : Int) (v : Value) : Prop where
 lt : p < w.heap.size
 c0 : w.cell? ⟨p, 0, none⟩ = some (.int .i64 k)
 c1 : w.cell? ⟨p, 1, none⟩ = some (.int .i64 0)
 c2 : w.cell? ⟨p, 2, none⟩ = some (.string ⟨#[]⟩)
 c3 : w.cell? ⟨p, 3, none⟩ = some v
 fz : ∀ j, w.frozen? ⟨p, j, none⟩ = false
theorem LListAt.kept {w w' : World} {p : Nat} {k : Int} {v : Value} (h : LListAt w p k v) (hs : w.heap.size <= w'.heap.size) (hb : w'.heap[p]? = w.heap[p]?) : LListAt w' p k v := by
 have hc : ∀ j, w'.cell? ⟨p, j, none⟩ = w.cell? ⟨p, j, none⟩ := fun j => World.cell?_of_block (a := ⟨p, j, none⟩) hb
 exact ⟨Nat.lt_of_lt_of_le h.lt hs, (hc 0).trans h.c0, (hc 1).trans h.c1, (hc 2).trans h.c2, (hc 3).trans h.c3, fun j => (World.frozen?_of_block (a := ⟨p, j, none⟩) hb).trans (h.fz j)⟩
theorem LListAt.set {w : World} {p : Nat} {k : Int} {v : Value} (h : LListAt w p k v) (u : Value) : LListAt (w.setCell ⟨p, 3, none⟩ u) p k u :=
 ⟨by simpa [World.setCell] using h.lt, zj h.c0 (by decide), zj h.c1 (by decide), zj h.c2 (by decide), zk h.c3, fun j => by simpa using h.fz j⟩
structure LRel (W0 : World) (p : Nat) (w2 : World) (k : Int) (l : List Dt) (j : Nat) (vA vB : Value) (X Y : List DV) (wr : World) : Prop where
 mx : X.map (·.t) = (l.take j).map firstD
 my : Y.map (·.t) = (l.take j).map secondD
 two : (l.take j).all twoB = true
 ox : OwnAt (kitArg W0) TD (p + 1) wr vA X
 oy : OwnAt (kitArg W0) TD (p + 1) wr vB Y
 ne : AB.apart vA vB
 bel : Below p w2 wr
 at_ : LListAt wr p k vA
theorem LRel.lx {W0 w2 wr : World} {p : Nat} {k : Int} {l : List Dt} {j : Nat} {vA vB : Value} {X Y : List DV} (h : LRel W0 p w2 k l j vA vB X Y wr) (hj : j <= l.length) : X.length = j /\ Y.length = j := by
 have h1 := congrArg List.length h.mx
 have h2 := congrArg List.length h.my
 simp at h1 h2
 omega
theorem LRel.start {W0 w2 : World} {k : Int} {l : List Dt} : LRel W0 w2.heap.size w2 k l 0 (.slice none 0 0) (.slice none 0 0) [] [] (w2.alloc (.cells #[.int .i64 k, .int .i64 0, .string ⟨#[]⟩, .slice none 0 0] 38)) :=
 ⟨rfl, rfl, rfl, OwnAt.start _ _ _ _, OwnAt.start _ _ _ _, fun g h => by simp [Value.ownBlock] at h, (Below.refl _ _).alloc (Nat.le_refl _) _, ⟨by simp, za _ _ _ 0, za _ _ _ 1, za _ _ _ 2, za _ _ _ 3, fun j => by simp⟩⟩
theorem wpList_dt {W0 : World} {base : Nat} {ops : Array Oper} {rest : List Oper} {o : Oper} {act : Act} {Q : Exit -> Act -> World -> Prop} {w : World} (hgd : o.guard = none) (s y : Operand)
  (ho : o.op = .call { callee := .builtin .append, args := #[s, y], argTypes := #[22, 22] })
  {v : Value} {X : List DV} (hO : OwnAt (kitArg W0) TD base w v X) (x : DV) (cs : Array Value) (hcs : cs.toList = x.cells) (hx : DtIn W0 0 W0.heap.size x.cells x.t)
  (hs : act.eval s = v) (hy : act.eval y = .slice (some ⟨w.heap.size, 0, none⟩) 1 1) (hb : X.length + 1 <= 1048580) (hbase : base <= w.heap.size)
  (h : ∀ v' w', OwnAt (kitArg W0) TD base w' v' (X ++ [x]) -> w.grownBy w' v.ownBlock -> (v'.ownBlock = v.ownBlock \/ ∃ b, v'.ownBlock = some b /\ w.heap.size <= b) -> wpList Tryd.prog ops Q rest (act.put o.dst v') w') : wpList Tryd.prog ops Q (o :: rest) act (w.alloc (.cells cs 38)) := by
 obtain ⟨i0, z, hi, hz0, hzs, hz1, hz2⟩ := infoDatum_parts
 exact wpList_own hgd s y ho Tryd.underlying22 hi hz0 hz1 hz2 hzs (show 0 < 4 by decide) hO x cs hcs hx (fun _ h => h.elim) (fun _ h => h.elim) hs hy (by unfold maxLen; omega) hbase h
theorem step_ownW {α : Type} {K : Kit α} {ty : TypeId} {base bytes : Nat} {sl : TypeId} {i : TypeInfo} {z : Value} {ops : Array Oper} {o : Oper} {act : Act} {KK : Act -> World -> Prop} {Q : Exit -> Act -> World -> Prop} {E : Prop} {w : World} (hgd : o.guard = none) (s y : Operand)
  (ho : o.op = .call { callee := .builtin .append, args := #[s, y], argTypes := #[sl, sl] })
  (ht : Tryd.prog.underlying sl = some (.slice ty)) (hi : Tryd.prog.info? ty = some i) (hz : i.zero = some z) (hsize : i.size = K.k) (hby : i.bytes = bytes) (hzs : z.cells.size = K.k) (hsz : 0 < K.k)
  {v : Value} {X : List α} (hO : OwnAt K ty base w v X) (x : α) (cs : Array Value) (hcs : cs.toList = K.cells x) (hx : K.ok w x) (hfrom : ∀ b, K.uses x b -> base <= b) (hap : ∀ b, K.uses x b -> v.ownBlock ≠ some b)
  (hs : act.eval s = v) (hy : act.eval y = .slice (some ⟨w.heap.size, 0, none⟩) 1 1) (hb : (X.length + 1) * bytes <= 140737488355328 /\ X.length + 1 <= maxLen) (hbase : base <= w.heap.size)
  (h : ∀ v' w', OwnAt K ty base w' v' (X ++ [x]) -> w.grownBy w' v.ownBlock -> (v'.ownBlock = v.ownBlock \/ ∃ b, v'.ownBlock = some b /\ w.heap.size <= b) -> KK (act.put o.dst v') w') :
  if Region.wanted o (yielded ops act.tmps) = true then Oper.wp Tryd.prog o act (w.alloc (.cells cs ty)) KK Q else E := by
 have hw : Region.wanted o (yielded ops act.tmps) = true := by simp [Region.wanted, hgd]
 rw [if_pos hw]
 obtain ⟨v', w', hr, h1, h2, h3⟩ := run_own (rt := o.type) ht hi hz hsize hby hzs hsz hO x cs hcs hx hfrom hap hb hbase
 unfold Oper.wp execOp
 simp only [ho, resolve, invoke, builtin, Sem.run_bind, Sem.run_pure, Result.andThen_ok, List.map_toArray, List.map_cons, List.map_nil, hs, hy, hr]
 exact h v' w' h1 h2 h3
theorem step_dt {W0 : World} {base : Nat} {ops : Array Oper} {o : Oper} {act : Act} {KK : Act -> World -> Prop} {Q : Exit -> Act -> World -> Prop} {E : Prop} {w : World} (hgd : o.guard = none) (s y : Operand)
  (ho : o.op = .call { callee := .builtin .append, args := #[s, y], argTypes := #[22, 22] })
  {v : Value} {X : List DV} (hO : OwnAt (kitArg W0) TD base w v X) (x : DV) (cs : Array Value) (hcs : cs.toList = x.cells) (hx : DtIn W0 0 W0.heap.size x.cells x.t)
  (hs : act.eval s = v) (hy : act.eval y = .slice (some ⟨w.heap.size, 0, none⟩) 1 1) (hb : X.length + 1 <= 1048580) (hbase : base <= w.heap.size)
  (h : ∀ v' w', OwnAt (kitArg W0) TD base w' v' (X ++ [x]) -> w.grownBy w' v.ownBlock -> (v'.ownBlock = v.ownBlock \/ ∃ b, v'.ownBlock = some b /\ w.heap.size <= b) -> KK (act.put o.dst v') w') :
  if Region.wanted o (yielded ops act.tmps) = true then Oper.wp Tryd.prog o act (w.alloc (.cells cs 38)) KK Q else E := by
 obtain ⟨i0, z, hi, hz0, hzs, hz1, hz2⟩ := infoDatum_parts
 exact step_ownW hgd s y ho Tryd.underlying22 hi hz0 hz1 hz2 hzs (show 0 < 4 by decide) hO x cs hcs hx (fun _ h => h.elim) (fun _ h => h.elim) hs hy (by unfold maxLen; omega) hbase h
theorem let_facts {wr W w2 : World} {Q : Obj} {vA u3 z3 y0 y1 y2 y3 : Value} {b o : Nat} (hg : (wr.alloc Q).grownBy W vA.ownBlock) (hp : w2.heap.size < wr.heap.size) (hb : b < w2.heap.size) (lA : ∀ g, vA.ownBlock = some g -> w2.heap.size + 1 <= g /\ g < wr.heap.size)
  (p3 : wr.cell? ⟨w2.heap.size, 3, none⟩ = some u3) (pf : wr.frozen? ⟨w2.heap.size, 3, none⟩ = false) (q3 : (wr.alloc Q).cell? ⟨wr.heap.size, 3, none⟩ = some z3) (f0 : wr.cell? ⟨b, o, none⟩ = some y0) (f1 : wr.cell? ⟨b, o + 1, none⟩ = some y1) (f2 : wr.cell? ⟨b, o + 2, none⟩ = some y2) (f3 : wr.cell? ⟨b, o + 3, none⟩ = some y3) :
  W.cell? ⟨w2.heap.size, 3, none⟩ = some u3 /\ W.frozen? ⟨w2.heap.size, 3, none⟩ = false /\ W.cell? ⟨wr.heap.size, 3, none⟩ = some z3 /\ W.cell? ⟨b, o, none⟩ = some y0 /\ W.cell? ⟨b, o + 1, none⟩ = some y1 /\ W.cell? ⟨b, o + 2, none⟩ = some y2 /\ W.cell? ⟨b, o + 3, none⟩ = some y3 /\ w2.heap.size < W.heap.size /\ wr.heap.size < W.heap.size /\ b < W.heap.size := by
 have hz : (wr.alloc Q).heap.size = wr.heap.size + 1 := by simp
 have hs := hg.size
 have hn : ∀ g, g <= w2.heap.size \/ wr.heap.size <= g -> some g ≠ vA.ownBlock := fun g h e => by have := lA g e.symm; omega
 have h0 : ∀ g j, g < wr.heap.size -> g <= w2.heap.size -> W.cell? ⟨g, j, none⟩ = wr.cell? ⟨g, j, none⟩ := fun g j h1 h2 => (World.cell?_of_block (a := ⟨g, j, none⟩) (hg.block g (by omega) (hn g (Or.inl h2)))).trans (World.cell?_alloc_lt _ _ ⟨g, j, none⟩ h1)
 refine ⟨(h0 _ _ hp (Nat.le_refl _)).trans p3, ?_, (World.cell?_of_block (a := ⟨wr.heap.size, 3, none⟩) (hg.block wr.heap.size (by omega) (hn _ (Or.inr (Nat.le_refl _))))).trans q3, (h0 _ _ (by omega) (by omega)).trans f0, (h0 _ _ (by omega) (by omega)).trans f1, (h0 _ _ (by omega) (by omega)).trans f2, (h0 _ _ (by omega) (by omega)).trans f3, by omega, by omega, by omega⟩
 refine (World.frozen?_of_block (a := ⟨w2.heap.size, 3, none⟩) (hg.block w2.heap.size (by omega) (hn _ (Or.inl (Nat.le_refl _))))).trans ?_
 have : Below wr.heap.size wr (wr.alloc Q) := (Below.refl _ _).alloc (Nat.le_refl _) _
 exact (this.frozen (p := ⟨w2.heap.size, 3, none⟩) hp).trans pf
theorem step_dtD {W0 : World} {base : Nat} {ops : Array Oper} {o : Oper} {act : Act} {KK : Act -> World -> Prop} {Q : Exit -> Act -> World -> Prop} {E : Prop} {w : World} (hgd : o.guard = none) (s y : Operand)
  (ho : o.op = .call { callee := .builtin .append, args := #[s, y], argTypes := #[22, 22] })
  {v : Value} {X : List DV} (hO : OwnAt (kitArg W0) TD base w v X) (x : DV) (cs : Array Value) (hcs : cs.toList = x.cells) (hx : DtIn W0 0 W0.heap.size x.cells x.t)
  (hs : act.eval s = v) (hy : act.eval y = .slice (some ⟨w.heap.size, 0, none⟩) 1 1) (hb : X.length + 1 <= 1048580) (hbase : base <= w.heap.size)
  (h : ∀ v' w', OwnAt (kitArg W0) TD base w' v' (X ++ [x]) -> w.grownBy w' v.ownBlock -> (v'.ownBlock = v.ownBlock \/ ∃ b, v'.ownBlock = some b /\ w.heap.size <= b) -> KK (act.put o.dst v') w') :
  if Region.wanted o (yielded ops act.tmps) = true then Oper.wp Tryd.prog o act (w.alloc (.cells cs 38)).drew KK Q else E :=
 step_dt (w := w.drew) hgd s y ho (hO.new ((Below.refl _ _).drew)) x cs hcs hx hs hy hb hbase (fun v' w' h1 h2 h3 => h v' w' h1 ((zb ((Below.refl _ _).drew) _).trans h2) h3)
theorem LRel.step {W0 w2 wr W1 W2 : World} {p : Nat} {k : Int} {l : List Dt} {j : Nat} {vA vB u v : Value} {X Y : List DV} {x y : DV} (h : LRel W0 p w2 k l j vA vB X Y wr) (hj : j < l.length) (ht : twoB l[j] = true) (hx : x.t = firstD l[j]) (hy : y.t = secondD l[j])
  (hA : OwnAt (kitArg W0) TD (p + 1) W1 u (X ++ [x])) (hgA : wr.grownBy W1 vA.ownBlock) (huA : u.ownBlock = vA.ownBlock \/ ∃ b, u.ownBlock = some b /\ wr.heap.size <= b)
  (hB : OwnAt (kitArg W0) TD (p + 1) W2 v (Y ++ [y])) (hgB : (W1.setCell ⟨p, 3, none⟩ u).grownBy W2 vB.ownBlock) (hvB : v.ownBlock = vB.ownBlock \/ ∃ b, v.ownBlock = some b /\ W1.heap.size <= b) :
  LRel W0 p w2 k l (j + 1) u v (X ++ [x]) (Y ++ [y]) W2 := by
 have hlt := h.at_.lt
 have lA := h.ox.row.lt
 have lB := h.oy.row.lt
 have s1 := hgA.size
 have hset := zd W1 p 3 u
 have s2 : W1.heap.size <= W2.heap.size := by simpa using hgB.size
 have hpA : some p ≠ vA.ownBlock := fun e => by have := (lA p e.symm).1; omega
 have hpB : some p ≠ vB.ownBlock := fun e => by have := (lB p e.symm).1; omega
 have luA := hA.row.lt
 have hne : ∀ b, u.ownBlock = some b -> vB.ownBlock ≠ some b := by
  intro b hb e
  rcases huA with h1 | ⟨c, h1, h2⟩
  ·
   exact h.ne b (by rw [<- h1]; exact hb) e
  rw [h1] at hb
  have := Option.some.inj hb
  have := (lB b e).2
  omega
 have hA2 : OwnAt (kitArg W0) TD (p + 1) W2 u (X ++ [x]) := (hA.other hset (Nat.lt_succ_self _)).grown hgB (by
  cases hu : u.ownBlock with
  | none => exact Or.inl rfl
  | some b => exact Or.inr (fun e => hne b hu e.symm)) (fun _ _ _ h => h.elim)
 have hap : AB.apart u v := by
  intro b hb e
  rcases hvB with h1 | ⟨c, h1, h2⟩
  ·
   exact hne b hb (by rw [<- h1]; exact e)
  rw [h1] at e
  have := Option.some.inj e
  have := (luA b hb).2
  omega
 have hblk : ∀ g, g < p -> W2.heap[g]? = wr.heap[g]? := fun g hg => (hgB.block g (by simp; omega) (fun e => by have := (lB g e.symm).1; omega)).trans ((hset.block g (by omega) (fun e => by have := Option.some.inj e; omega)).trans (hgA.block g (by omega) (fun e => by have := (lA g e.symm).1; omega)))
 have hb2 : Below p wr W2 := ⟨hgB.os.trans (hset.os.trans hgA.os), hgB.tape.trans (hset.tape.trans hgA.tape), hgB.output.trans (hset.output.trans hgA.output), by omega, fun g hg => hblk g (by omega)⟩
 exact ⟨map_step hj h.mx hx, map_step hj h.my hy, all_two_step hj h.two ht, hA2, hB, hap, h.bel.trans hb2, ((h.at_.kept s1 (hgA.block p hlt hpA)).set u).kept (by simpa using s2) (hgB.block p (by simp; omega) hpB)⟩
theorem got_buildNG {W0 w w1 w' : World} {base g : Nat} {A : Option Addr} {cap : Nat} {X : List EV} (hX : OwnAt (kitEx W0) 63 base w1 (.slice A X.length cap) X) (hbase : g < base) (hb : Below w.heap.size w w1) (hgw : w.heap.size <= g) (hg : w1.grownBy w' (some g)) (k : Int) (S : ByteArray) (N : Int)
  (nA : Option Addr) (nc : Nat) (names : List ByteArray) (hn : NmIn w1 (g + 1) w1.heap.size nA nc names) :
  GotEx W0 w (.mk k dt0 S N names (X.map (·.t))) (.returned (.agg #[.int .i64 k, .int .i64 0, .int .i64 0, .string ⟨#[]⟩, .slice none 0 0, .string S, .int .i64 N, .slice nA names.length nc, .slice A X.length cap])) w' := by
 obtain ⟨A', cap', hv, h1, h2, hrow, heach⟩ := hX.args
 obtain ⟨rfl, rfl⟩ : A = A' /\ cap = cap' := by simpa using hv
 have hk1 : Keep base w1.heap.size w1 w' := zm hg (fun b h1 h2 e => by have := Option.some.inj e; omega)
 have hk2 : Keep (g + 1) w1.heap.size w1 w' := zm hg (fun b h1 h2 e => by have := Option.some.inj e; omega)
 refine ⟨⟨k, 0, 0, ⟨#[]⟩, none, 0, 0, S, N, nA, names.length, nc, A, X.length, cap, .mk k dt0 S N names (X.map (·.t)), w.heap.size, w'.heap.size⟩, rfl, rfl, rfl, rfl, ⟨?_, Nat.le_refl _⟩, below_rowG hb hgw hg⟩
 have hl : (X.map (·.t)).length = X.length := by simp
 have hm := ExIn.mk (W0 := W0) (w := w') (lo := w.heap.size) (hi := w'.heap.size) k 0 0 ⟨#[]⟩ none 0 0 dt0 (dt0_in W0) S N nA nc names (hn.mono hk2 hg.size (by omega) hg.size) A cap (X.map (·.t)) (X.map EV.cells) (by simp) (by rw [hl]; exact h1) h2 (hrow.mono hk1 hg.size (by omega) hg.size) (fun i hi hi' => (heach i hi hi').mono hk1 hg.size (by omega) hg.size)
 rw [hl] at hm
 exact hm
theorem letu_fin {W0 w wr w3 w4 wc w9 w' : World} {rb r : Fd Ex} {nA A9 : Option Addr} {nc c9 g J : Nat} {ns : List ByteArray} {v : EV} {v2 : Value} {X : List EV} {c : Int}
  (hbr : Below w.heap.size w wr) (hgw : w.heap.size <= g) (hgr : g < wr.heap.size) (hb3 : Below wr.heap.size wr w3) (hn : NmIn w3 wr.heap.size w3.heap.size nA nc ns) (hb4 : Below w3.heap.size w3 w4) (hO4 : OwnAt (kitEx W0) 63 w3.heap.size w4 v2 X)
  (hbc : Below w4.heap.size w4 wc) (hx : RefFact W0 w4 wc v c rb) (hO9 : OwnAt (kitIf W0 (∃ y, rb = .ok y)) 63 w3.heap.size w9 (.slice A9 J c9) (X ++ [v])) (hJ : J = X.length + 1) (hg9 : wc.grownBy w9 v2.ownBlock) (hg : w9.grownBy w' (some g)) (hr : r = mapF (fun y => .mk 5 dt0 ⟨#[]⟩ 0 ns (X.map (·.t) ++ [y])) rb) :
  RefPost W0 w r (.returned (.tuple #[.agg #[.int .i64 5, .int .i64 0, .int .i64 0, .string ⟨#[]⟩, .slice none 0 0, .string ⟨#[]⟩, .int .i64 0, .slice nA ns.length nc, .slice A9 J c9], .int .i64 c])) w' := by
 have s1 := hbr.size
 have s2 := hb3.size
 have s3 := hb4.size
 have s4 := hbc.size
 have hv2 : ∀ b, v2.ownBlock = some b -> w3.heap.size <= b := fun b hb => (hO4.row.lt b hb).1
 have hb9 : Below w3.heap.size wc w9 := ⟨hg9.os, hg9.tape, hg9.output, hg9.size, fun k hk => hg9.block k (by omega) (fun e => by have := hv2 k e.symm; omega)⟩
 have hb39 : Below w3.heap.size w3 w9 := (hb4.trans (hbc.mono s3)).trans hb9
 have hw9 : Below w.heap.size w w9 := (hbr.trans (hb3.mono s1)).trans (hb39.mono (by omega))
 subst hr hJ
 cases rb with
 | err e =>
  obtain ⟨rfl, h1⟩ := hx
  exact ⟨⟨5, 0, 0, ⟨#[]⟩, none, 0, 0, ⟨#[]⟩, 0, nA, ns.length, nc, A9, X.length + 1, c9, eC dt0, 0, 0⟩, rfl, h1, below_rowG hw9 hgw hg⟩
 | ok y =>
  obtain ⟨rfl, rfl, _⟩ := hx
  have hO := own_if_yes hO9 ⟨_, rfl⟩
  have hlen : X.length + 1 = (X ++ [v]).length := by simp
  have hmap : X.map (·.t) ++ [v.t] = (X ++ [v]).map (·.t) := by simp
  have hn9 : NmIn w9 (g + 1) w9.heap.size nA nc ns := hn.mono (zw hb39) hb39.size (by omega) hb39.size
  show RefPost W0 w (.ok (.mk 5 dt0 ⟨#[]⟩ 0 ns (X.map (·.t) ++ [v.t]))) _ _
  rw [hmap]
  rw [hlen] at hO ⊢
  obtain ⟨u, hu1, hu2⟩ := got_buildNG (W0 := W0) (w := w) hO (by omega) hw9 hgw hg 5 ⟨#[]⟩ 0 nA nc ns hn9
  injection hu1 with hu1
  rw [hu1]
  exact ⟨u, rfl, hu2⟩
theorem letu_elem {W0 w4 wc : World} {v : EV} {c : Int} {rb : Fd Ex} {base : Nat} {u : Value} (hx : RefFact W0 w4 wc v c rb) (hb : base <= w4.heap.size) (hu : ∀ b, u.ownBlock = some b -> b < w4.heap.size) :
  (kitIf W0 (∃ y, rb = .ok y)).ok wc v /\ (∀ b, (kitIf W0 (∃ y, rb = .ok y)).uses v b -> base <= b) /\ ∀ b, (kitIf W0 (∃ y, rb = .ok y)).uses v b -> u.ownBlock ≠ some b := by
 refine ⟨?_, ?_, ?_⟩
 ·
  rintro ⟨y, rfl⟩
  exact hx.2.2.2.2
 ·
  rintro b ⟨⟨y, rfl⟩, h1, _⟩
  have h2 := hx.2.2.1
  have h1' : v.lo <= b := h1
  omega
 rintro b ⟨⟨y, rfl⟩, h1, _⟩ e
 have h2 := hx.2.2.1
 have h1' : v.lo <= b := h1
 have := hu b e
 omega
theorem letu_keep {wc W : World} {o : Option Nat} {g : Nat} (hg : wc.grownBy W o) (hlt : g < wc.heap.size) (hne : ∀ b, o = some b -> g < b) : (∀ j, W.cell? ⟨g, j, none⟩ = wc.cell? ⟨g, j, none⟩) /\ (∀ j, W.frozen? ⟨g, j, none⟩ = wc.frozen? ⟨g, j, none⟩) /\ g < W.heap.size := by
 have hb := hg.block g hlt (fun e => by have := hne g e.symm; omega)
 exact ⟨fun j => World.cell?_of_block (a := ⟨g, j, none⟩) hb, fun j => World.frozen?_of_block (a := ⟨g, j, none⟩) hb, Nat.lt_of_lt_of_le hlt hg.size⟩
def LMid (W0 : World) (p : Nat) (wq : World) (vA : Value) (X : List DV) (x : DV) (W : World) : Prop := ∃ u W1, OwnAt (kitArg W0) TD (p + 1) W1 u (X ++ [x]) /\ wq.grownBy W1 vA.ownBlock /\ (u.ownBlock = vA.ownBlock \/ ∃ b, u.ownBlock = some b /\ wq.heap.size <= b) /\ W = W1.setCell ⟨p, 3, none⟩ u
set_option maxHeartbeats 16000000 in
theorem formedLet_any {W0 : World} {m : Fm} {n : Nat} {rec : List ByteArray -> Dt -> Fd Ex} (he : RefSays W0 m n rec) : RefLet W0 m n rec := by
 intro w A cap l B bc ls h hl hgd hn hls
 have HL := Lib.hid hl
 have H := Lib.hid h
 have HNN := Lib.hid hn
 obtain ⟨N, hN⟩ : ∃ N, l.length = N := ⟨_, rfl⟩
 have HN := Lib.hid hN
 obtain ⟨K, hK⟩ : ∃ K, ls.length = K := ⟨_, rfl⟩
 have HK := Lib.hid hK
 have HK40 := Lib.hid hls
 have hcp : N <= cap := by rw [<- hN]; exact hl.le
 have hcm : cap <= 9223372036854775807 := by have := hl.cap_; unfold maxLen at this; omega
 have hNm : N <= 9223372036854775807 := by omega
 rw [hN, hK]
 obtain ⟨r, hr⟩ : ∃ r, letF rec ls l = r := ⟨_, rfl⟩
 have HR := Lib.hid hr
 rw [hr]
 clear hr
 obtain ⟨up, hup⟩ : ∃ up, m.up = up := ⟨_, rfl⟩
 have HUP := Lib.hid hup
 rw [hup]
 obtain ⟨w2, hw2⟩ : ∃ w2, (w.alloc (.cells #[.slice m.G m.gl m.gc, .slice m.S m.sl m.sc, .slice m.O m.ol m.oc, .bool up, .slice B K bc] 60)).alloc (.cells #[.int .i64 0, .int .i64 0, .int .i64 0, .string ⟨#[]⟩, .slice none 0 0, .string ⟨#[]⟩, .int .i64 0, .slice none 0 0, .slice none 0 0] 63) = w2 := ⟨_, rfl⟩
 have hb2 : Below w.heap.size w w2 := by rw [<- hw2]; exact ((Below.refl _ _).alloc (Nat.le_refl _) _).alloc (by simp) _
 have hs2 : w2.heap.size = w.heap.size + 2 := by rw [<- hw2]; simp
 have z : (w.alloc (.cells #[.slice m.G m.gl m.gc, .slice m.S m.sl m.sc, .slice m.O m.ol m.oc, .bool up, .slice B K bc] 60)).heap.size = w.heap.size + 1 := by simp
 have p0 : ∀ j, w2.cell? ⟨w.heap.size, j, none⟩ = (#[.slice m.G m.gl m.gc, .slice m.S m.sl m.sc, .slice m.O m.ol m.oc, .bool up, .slice B K bc] : Array Value)[j]? := fun j => by rw [<- hw2]; exact (World.cell?_alloc_lt _ _ ⟨w.heap.size, j, none⟩ (by simp)).trans (za _ _ _ j)
 have R : ∀ j, w2.cell? ⟨w.heap.size + 1, j, none⟩ = (#[.int .i64 0, .int .i64 0, .int .i64 0, .string ⟨#[]⟩, .slice none 0 0, .string ⟨#[]⟩, .int .i64 0, .slice none 0 0, .slice none 0 0] : Array Value)[j]? := fun j => by rw [<- hw2, <- z]; exact za _ _ _ j
 have RF : ∀ j, w2.frozen? ⟨w.heap.size + 1, j, none⟩ = false := fun j => by rw [<- hw2, <- z]; exact zi _ _ _ j
 have a0 : w2.cell? ⟨w.heap.size, 0, none⟩ = some (.slice m.G m.gl m.gc) := p0 0
 have a1 : w2.cell? ⟨w.heap.size, 1, none⟩ = some (.slice m.S m.sl m.sc) := p0 1
 have a2 : w2.cell? ⟨w.heap.size, 2, none⟩ = some (.slice m.O m.ol m.oc) := p0 2
 have a3 : w2.cell? ⟨w.heap.size, 3, none⟩ = some (.bool up) := p0 3
 have a4 : w2.cell? ⟨w.heap.size, 4, none⟩ = some (.slice B K bc) := p0 4
 have HB2 := Lib.hid hb2
 have HS2 := Lib.hid hs2
 have HRF := Lib.hid (And.intro R RF)
 clear h hl hn hls hN hK hup hb2 hs2 z p0
 have HE := Lib.hid he
 have HGD := Lib.hid hgd
 have HPC := Lib.hid (show w2.cell? ⟨w.heap.size, 0, none⟩ = some (.slice m.G m.gl m.gc) /\ w2.cell? ⟨w.heap.size, 1, none⟩ = some (.slice m.S m.sl m.sc) /\ w2.cell? ⟨w.heap.size, 2, none⟩ = some (.slice m.O m.ol m.oc) /\ w2.cell? ⟨w.heap.size, 3, none⟩ = some (.bool up) /\ w2.cell? ⟨w.heap.size, 4, none⟩ = some (.slice B K bc) from ⟨a0, a1, a2, a3, a4⟩)
 clear he hgd a0 a1 a2 a3 a4
 by_cases h2 : N < 2
 ·
  obtain rfl : r = .err 10 := by rw [<- HR.out]; exact let_few (by rw [HN.out]; exact h2)
  go_enter Tryd.func75, Tryd.ntmps75
  go_upto_region 1 with fail
  clear hw2
  go_wp2_with fail
  exact bodyPost_ret (v := .tuple #[evz.agg, .int .i64 10]) (by simp [results, Tryd.results75, go_sem, evz, EV.agg, R]) rfl (zn (by decide) (zg (by omega) HB2.out _ _ _ _ _ _ _ _ _))
 obtain ⟨d, rest, hr1, rfl⟩ : ∃ d rest, 1 <= rest.length /\ l = d :: rest := by
  match l, HN.out with
  | [], h => exfalso; simp at h; omega
  | [_], h => exfalso; simp at h; omega
  | d :: b0 :: m0, _ => exact ⟨d, b0 :: m0, by simp, rfl⟩
 have HR1 := Lib.hid hr1
 obtain ⟨b, o, A', c', rfl, hbw, hbF, d0, d1, d2, d3, hd, hi, ht⟩ := (HL.out.below HB2.out).first (H.out.next HB2.out).below H.out.ge
 have HI := Lib.hid hi
 have HT := Lib.hid ht
 have HGR := Lib.hid (show ∀ x ∈ rest, Good n x from fun x hx => HGD.out x (List.mem_cons_of_mem _ hx))
 have HNR := Lib.hid (show rest.length = N - 1 from by rw [<- HN.out, List.length_cons]; rfl)
 have HGI := Lib.hid (show ∀ x ∈ d.l, Good n x from fun x hx => (HGD.out d (List.mem_cons_self ..)).low hx)
 have HNI := Lib.hid (HGD.out d (List.mem_cons_self ..)).len
 obtain ⟨M, hM⟩ : ∃ M, d.l.length = M := ⟨_, rfl⟩
 have HM := Lib.hid hM
 rw [hM] at d3
 have hMs : M <= 1048576 := by rw [<- hM]; exact HNI.out
 have hMc : M <= c' := by rw [<- hM]; exact HI.out.le
 have hcap1 : ¬ cap = 1 := by omega
 have hi0 : ¬ (N : Int) < 2 := by omega
 have hi1 : (1 : Int) <= (N : Int) := by omega
 have hi2 : (N : Int) <= (cap : Int) := by omega
 have hi3 : IntKind.i64.wrap 1 = 1 := IntWalk.i64_in _ (by omega)
 obtain ⟨dk, hdk⟩ : ∃ dk, d.k = dk := ⟨_, rfl⟩
 have HDK := Lib.hid hdk
 rw [hdk] at d0
 have HDC := Lib.hid (show w2.cell? ⟨b, o + 3, none⟩ = some (.slice A' M c') from d3)
 clear hd hi ht hr1 hM hdk
 go_enter Tryd.func75, Tryd.ntmps75
 go_upto_region 1 with fail
 clear hw2
 go_wp2_with fail
 go_loopg [7, 8] M (fun g v i wr => ∃ (j : Nat) (vA vB : Value) (X Y : List DV), vB = v /\ g = M - j /\ j <= M /\ i = .int .i64 j /\ LRel W0 w2.heap.size w2 dk d.l j vA vB X Y wr)
 case atStart => exact ⟨0, _, _, [], [], rfl, by omega, by omega, rfl, LRel.start⟩
 obtain ⟨j, vA, vB, X, Y, rfl, hg, hj, rfl, hL⟩ := hrel
 have HG := Lib.hid hg
 have HLR := Lib.hid hL
 have hbel := hL.bel
 have hplt := hL.at_.lt
 have hj0 : (0 : Int) <= (j : Int) := Int.natCast_nonneg _
 have HBR := Lib.hid (show Below w.heap.size w wr from HB2.out.trans (hbel.mono (by have := HS2.out; omega)))
 have wra0 : wr.cell? ⟨w.heap.size, 0, none⟩ = some (.slice m.G m.gl m.gc) := (hbel.cell (p := ⟨w.heap.size, 0, none⟩) (by show w.heap.size < _; have := HS2.out; omega)).trans (HPC.out.1)
 have wra1 : wr.cell? ⟨w.heap.size, 1, none⟩ = some (.slice m.S m.sl m.sc) := (hbel.cell (p := ⟨w.heap.size, 1, none⟩) (by show w.heap.size < _; have := HS2.out; omega)).trans (HPC.out.2.1)
 have wra2 : wr.cell? ⟨w.heap.size, 2, none⟩ = some (.slice m.O m.ol m.oc) := (hbel.cell (p := ⟨w.heap.size, 2, none⟩) (by show w.heap.size < _; have := HS2.out; omega)).trans (HPC.out.2.2.1)
 have wra3 : wr.cell? ⟨w.heap.size, 3, none⟩ = some (.bool up) := (hbel.cell (p := ⟨w.heap.size, 3, none⟩) (by show w.heap.size < _; have := HS2.out; omega)).trans (HPC.out.2.2.2.1)
 have wra4 : wr.cell? ⟨w.heap.size, 4, none⟩ = some (.slice B K bc) := (hbel.cell (p := ⟨w.heap.size, 4, none⟩) (by show w.heap.size < _; have := HS2.out; omega)).trans (HPC.out.2.2.2.2)
 have wrR : ∀ j, wr.cell? ⟨w.heap.size + 1, j, none⟩ = (#[.int .i64 0, .int .i64 0, .int .i64 0, .string ⟨#[]⟩, .slice none 0 0, .string ⟨#[]⟩, .int .i64 0, .slice none 0 0, .slice none 0 0] : Array Value)[j]? := fun j => (hbel.cell (p := ⟨w.heap.size + 1, j, none⟩) (by show w.heap.size + 1 < _; have := HS2.out; omega)).trans (HRF.out.1 j)
 have wrRF : ∀ j, wr.frozen? ⟨w.heap.size + 1, j, none⟩ = false := fun j => (hbel.frozen (p := ⟨w.heap.size + 1, j, none⟩) (by show w.heap.size + 1 < _; have := HS2.out; omega)).trans (HRF.out.2 j)
 have hrd3 : wr.cell? ⟨b, o + 3, none⟩ = some (.slice A' M c') := (hbel.cell (p := ⟨b, o + 3, none⟩) hbw).trans HDC.out
 have hbr : b < wr.heap.size := by omega
 have hwr0 : w.heap.size < wr.heap.size := by have := HS2.out; omega
 have hwr1 : w.heap.size + 1 < wr.heap.size := by have := HS2.out; omega
 clear hg hL hbel R RF d0 d1 d2 d3
 by_cases hlt2 : j < M
 ·
  have hlt3 : (j : Int) < (M : Int) := by omega
  obtain ⟨e, hje⟩ : ∃ e, d.l[j]'(by rw [HM.out]; exact hlt2) = e := ⟨_, rfl⟩
  have HJE := Lib.hid hje
  obtain ⟨bI, oI, rfl, hbI, hbIF, cs, hrow, hde⟩ := HI.out.nth j (by rw [HM.out]; exact hlt2)
  rw [hje] at hde
  obtain ⟨A2, c2, rfl, hie⟩ := hde.items (H.out.next HB2.out).below H.out.ge
  have HIE := Lib.hid hie
  have c0 : wr.cell? ⟨bI, oI + j * 4, none⟩ = some (.int .i64 e.k) := (HLR.out.bel.cell (p := ⟨bI, oI + j * 4, none⟩) hbI).trans (hrow 0 (by simp))
  have c1 : wr.cell? ⟨bI, oI + j * 4 + 1, none⟩ = some (.int .i64 e.n) := (HLR.out.bel.cell (p := ⟨bI, oI + j * 4 + 1, none⟩) hbI).trans (hrow 1 (by simp))
  have c2' : wr.cell? ⟨bI, oI + j * 4 + 2, none⟩ = some (.string e.s) := (HLR.out.bel.cell (p := ⟨bI, oI + j * 4 + 2, none⟩) hbI).trans (hrow 2 (by simp))
  have c3 : wr.cell? ⟨bI, oI + j * 4 + 3, none⟩ = some (.slice A2 e.l.length c2) := (HLR.out.bel.cell (p := ⟨bI, oI + j * 4 + 3, none⟩) hbI).trans (hrow 3 (by simp))
  have hbIr : bI < wr.heap.size := by omega
  obtain ⟨E, hE⟩ : ∃ E, e.l.length = E := ⟨_, rfl⟩
  have HEL := Lib.hid hE
  rw [hE] at c3
  have hE0 : (0 : Int) <= (E : Int) := Int.natCast_nonneg _
  obtain ⟨ek, hek⟩ : ∃ ek, e.k = ek := ⟨_, rfl⟩
  have HEK := Lib.hid hek
  rw [hek] at c0
  clear hrow hde hie hje hE hek
  by_cases hk4 : ek = 4
  ·
   by_cases hl2 : E = 2
   ·
    subst hl2 hk4
    have HT2 := Lib.hid (show twoB e = true by unfold twoB; rw [HEK.out, HEL.out]; rfl)
    obtain ⟨x, y, hxy, hfx, hsy⟩ := (two_view HT2.out).2
    obtain ⟨bE, oE, rfl, hbE, hbEF, hce⟩ := HIE.out.at_ (by rw [HEL.out]; decide)
    obtain ⟨csx, rowx, dx⟩ := hce 0 (by rw [HEL.out]; decide)
    obtain ⟨csy, rowy, dy⟩ := hce 1 (by rw [HEL.out]; decide)
    rw [show e.l[0]'(by rw [HEL.out]; decide) = x by simp [hxy]] at dx
    rw [show e.l[1]'(by rw [HEL.out]; decide) = y by simp [hxy]] at dy
    obtain ⟨xv, rfl, hxt, hdx⟩ := kitArg_view dx
    obtain ⟨yv, rfl, hyt, hdy⟩ := kitArg_view dy
    have HXT := Lib.hid (hxt.trans hfx.symm)
    have HYT := Lib.hid (hyt.trans hsy.symm)
    have HDX := Lib.hid hdx
    have HDY := Lib.hid hdy
    have HRX := Lib.hid (show RowAt wr bE oE xv.cells from by have := rowx.below (HLR.out.bel.mono (Nat.le_refl _)) hbE; simpa using this)
    have HRY := Lib.hid (show RowAt wr bE (oE + 4) yv.cells from by have := rowy.below (HLR.out.bel.mono (Nat.le_refl _)) hbE; simpa using this)
    have HLX := Lib.hid (HLR.out.lx (by rw [HM.out]; omega))
    obtain ⟨Aa, ca, rfl, hca1, hca2, _⟩ := HLR.out.ox.form
    have e0 : wr.cell? ⟨bE, oE, none⟩ = some (.int .i64 xv.k) := HRX.out 0 (by simp [DV.cells])
    have e1 : wr.cell? ⟨bE, oE + 1, none⟩ = some (.int .i64 xv.n) := HRX.out 1 (by simp [DV.cells])
    have e2 : wr.cell? ⟨bE, oE + 2, none⟩ = some (.string xv.s) := HRX.out 2 (by simp [DV.cells])
    have e3 : wr.cell? ⟨bE, oE + 3, none⟩ = some (.slice xv.A xv.len xv.cap) := HRX.out 3 (by simp [DV.cells])
    have f0 : wr.cell? ⟨bE, oE + 4, none⟩ = some (.int .i64 yv.k) := HRY.out 0 (by simp [DV.cells])
    have f1 : wr.cell? ⟨bE, oE + 4 + 1, none⟩ = some (.int .i64 yv.n) := HRY.out 1 (by simp [DV.cells])
    have f2 : wr.cell? ⟨bE, oE + 4 + 2, none⟩ = some (.string yv.s) := HRY.out 2 (by simp [DV.cells])
    have f3 : wr.cell? ⟨bE, oE + 4 + 3, none⟩ = some (.slice yv.A yv.len yv.cap) := HRY.out 3 (by simp [DV.cells])
    have hbEr : bE < wr.heap.size := by omega
    have p3 := HLR.out.at_.c3
    have pf := HLR.out.at_.fz 3
    clear hce rowx rowy dx dy hxt hyt hdx hdy hxy hfx hsy
    have lA := HLR.out.ox.row.lt
    have lB := HLR.out.oy.row.lt
    have hXl := HLX.out.1
    have hYl := HLX.out.2
    rw [hXl] at p3
    have HOX := Lib.hid (show OwnAt (kitArg W0) TD (w2.heap.size + 1) wr (.slice Aa X.length ca) X from HLR.out.ox)
    have HKW := Lib.hid (fun (W : World) (hg : (wr.alloc (.cells #[.int .i64 4, .int .i64 e.n, .string e.s, .slice (some ⟨bE, oE, none⟩) 2 c2] 38)).grownBy W (Value.slice Aa X.length ca).ownBlock) =>
     let_facts (Q := .cells #[.int .i64 4, .int .i64 e.n, .string e.s, .slice (some ⟨bE, oE, none⟩) 2 c2] 38) hg hplt (by show bE < w2.heap.size; exact hbE) lA p3 pf (za _ _ _ 3) f0 f1 f2 f3)
    clear lA lB
    go_upto_region 11 with fail
    go_cut [] (fun wx => LMid W0 w2.heap.size (wr.alloc (.cells #[.int .i64 4, .int .i64 e.n, .string e.s, .slice (some ⟨bE, oE, none⟩) 2 c2] 38)) (.slice Aa X.length ca) X xv wx)
    case first =>
     go_region_law (refine step_dtD (W0 := W0) (by rfl) (.tmp 50) (.tmp 55) (by rfl) (HLR.out.ox.new (by (with_reducible repeat' (first | exact Below.refl _ _ | apply Below.drew | apply below_drewN | refine Below.alloc ?_ ?_ _)); all_goals (try simp); all_goals (try omega))) xv _ rfl HDX.out (by rw [hXl]; rfl) (by rw [World.size_alloc]; rfl) (by omega) (by simp; omega) ?_; intro v9 w9 h5 h6 h7; obtain ⟨A9, c9, h8, _⟩ := h5.form; simp only [List.length_append, List.length_cons, List.length_nil, Nat.zero_add, hXl] at h8; subst h8; obtain ⟨k3, kf, k9, m0, m1, m2, m3, s9, t9, u9⟩ := HKW.out w9 h6; have H5 := Lib.hid h5; have H6 := Lib.hid h6; have H7 := Lib.hid h7; clear h5 h6 h7)
     all_goals (go_wp2_with fail)
     all_goals go_meet
     all_goals exact ⟨_, _, H5.out, H6.out, H7.out, rfl⟩
    obtain ⟨u, W1, hO1, hg1, hu1, hW⟩ := hcut
    obtain ⟨k3, kf, k9, m0, m1, m2, m3, s9, t9, u9⟩ := HKW.out W1 hg1
    have hcell : ∀ g i, g ≠ w2.heap.size -> wc.cell? ⟨g, i, none⟩ = W1.cell? ⟨g, i, none⟩ := fun g i hg => by rw [hW]; exact World.cell?_setCell_other (h := by first | (simp; done) | (simp; omega)) ..
    have n9 : wc.cell? ⟨wr.heap.size, 3, none⟩ = some (.slice (some ⟨bE, oE, none⟩) 2 c2) := (hcell _ 3 (by omega)).trans k9
    have y0 : wc.cell? ⟨bE, oE + 4, none⟩ = some (.int .i64 yv.k) := (hcell _ _ (by omega)).trans m0
    have y1 : wc.cell? ⟨bE, oE + 4 + 1, none⟩ = some (.int .i64 yv.n) := (hcell _ _ (by omega)).trans m1
    have y2 : wc.cell? ⟨bE, oE + 4 + 2, none⟩ = some (.string yv.s) := (hcell _ _ (by omega)).trans m2
    have y3 : wc.cell? ⟨bE, oE + 4 + 3, none⟩ = some (.slice yv.A yv.len yv.cap) := (hcell _ _ (by omega)).trans m3
    have hzc : wc.heap.size = W1.heap.size := by rw [hW]; simp
    have hzq : wr.heap.size + 1 <= W1.heap.size := by have := hg1.size; simpa using this
    have HOY := Lib.hid (show OwnAt (kitArg W0) TD (w2.heap.size + 1) wc vB Y from by
     rw [hW]
     refine OwnAt.other (OwnAt.grown (HLR.out.oy.new ((Below.refl _ _).alloc (Nat.le_refl _) _)) hg1 ?_ (fun _ _ _ h => h.elim)) (zd W1 w2.heap.size 3 u) (Nat.lt_succ_self _)
     cases hv : vB.ownBlock with
     | none => exact Or.inl rfl
     | some b => exact Or.inr (fun e => HLR.out.ne b e.symm hv))
    have HST := Lib.hid (fun (W2 : World) (v : Value) (h5 : OwnAt (kitArg W0) TD (w2.heap.size + 1) W2 v (Y ++ [yv])) (h6 : wc.grownBy W2 vB.ownBlock) (h7 : v.ownBlock = vB.ownBlock \/ ∃ b, v.ownBlock = some b /\ wc.heap.size <= b) =>
     LRel.step HLR.out (by rw [HM.out]; exact hlt2) (by rw [HJE.out]; exact HT2.out) (by rw [HJE.out]; exact HXT.out) (by rw [HJE.out]; exact HYT.out) hO1 ((zb ((Below.refl _ _).alloc (Nat.le_refl _) _) _).trans hg1) (by rcases hu1 with h | ⟨b, h, hb⟩; exact Or.inl h; exact Or.inr ⟨b, h, by simp at hb; omega⟩) h5 (by rw [<- hW]; exact h6) (by rw [<- hzc]; exact h7))
    have hbEc : bE < wc.heap.size := by omega
    have hwq : wr.heap.size < wc.heap.size := by omega
    have hbs : w2.heap.size + 1 <= wc.heap.size := by omega
    obtain ⟨Ab, cb, hvB, hcb1, hcb2, _⟩ := HOY.out.form
    clear hO1 hg1 hu1 hW hcell k3 kf k9 m0 m1 m2 m3 s9 t9 u9 HKW p3 pf hzc hzq e0 e1 e2 e3 f0 f1 f2 f3
    subst hvB
    go_wp2_with (at_builtin; refine wpList_dt (W0 := W0) rfl (.tmp 58) (.tmp 63) rfl HOY.out yv _ rfl HDY.out rfl rfl (by omega) hbs ?_; intro v10 w10 h5 h6 h7)
    have HL2 := Lib.hid (HST.out _ _ h5 h6 h7)
    clear h5 h6 h7
    go_wp2_with fail
    go_roundg (M - (j + 1))
    case measure => have := HG.out; omega
    case rel => exact ⟨j + 1, _, _, _, _, rfl, rfl, by omega, by go_num, HL2.out⟩
   have i2 : ((E : Int) != 2) = true := by rw [bne_iff_ne]; omega
   have hk5 : (ek != 4) = false := by subst hk4; rfl
   obtain rfl : r = .err 4 := by
    rw [<- HR.out]
    exact let_form HR1.out (all_two_no (j := j) (by rw [HM.out]; exact hlt2) (by rw [HJE.out]; unfold twoB; rw [HEK.out, HEL.out]; simp; omega))
   go_wp2_with fail
   rw [<- late9s hwr1]
   exact bodyPost_ret (v := .tuple #[evz.agg, .int .i64 4]) (by simp [results, Tryd.results75, go_sem, evz, EV.agg, wrR, hwr1]) rfl (zn (by decide) (zg (by omega) (HBR.out.alloc HBR.out.size _) _ _ _ _ _ _ _ _ _))
  have hk5 : (ek != 4) = true := by simpa using hk4
  obtain rfl : r = .err 4 := by
   rw [<- HR.out]
   exact let_form HR1.out (all_two_no (j := j) (by rw [HM.out]; exact hlt2) (by rw [HJE.out]; unfold twoB; rw [HEK.out, HEL.out]; simp; omega))
  go_wp2_with fail
  rw [<- late9s hwr1]
  exact bodyPost_ret (v := .tuple #[evz.agg, .int .i64 4]) (by simp [results, Tryd.results75, go_sem, evz, EV.agg, wrR, hwr1]) rfl (zn (by decide) (zg (by omega) (HBR.out.alloc HBR.out.size _) _ _ _ _ _ _ _ _ _))
 obtain rfl : j = M := by omega
 have HLR2 := HLR.out
 obtain ⟨l1, hl1⟩ : ∃ l1, d.l.map firstD = l1 := ⟨_, rfl⟩
 obtain ⟨l2, hl2⟩ : ∃ l2, d.l.map secondD = l2 := ⟨_, rfl⟩
 have htk : d.l.take j = d.l := List.take_of_length_le (by rw [HM.out]; exact Nat.le_refl _)
 have hmx := HLR2.mx
 have hmy := HLR2.my
 have htwo := HLR2.two
 rw [htk] at hmx hmy htwo
 rw [hl1] at hmx
 rw [hl2] at hmy
 have hall := let_eq (rec := rec) (ls := ls) HR1.out htwo
 obtain ⟨hgo1, hgo2⟩ := first_good HGI.out htwo
 rw [hl1] at hgo1 hall
 rw [hl2] at hgo2 hall
 have HALL := Lib.hid hall
 obtain ⟨hXl, hYl⟩ := HLR2.lx (by rw [HM.out]; exact Nat.le_refl _)
 have hF2 : m.F < w2.heap.size := (H.out.next HB2.out).lt
 obtain ⟨Aa, ca, rfl, hDA⟩ := HLR2.ox.dsAt (F := m.F) (by omega)
 obtain ⟨Ab, cb, rfl, hDB⟩ := HLR2.oy.dsAt (F := m.F) (by omega)
 rw [hmx] at hDA
 rw [hmy] at hDB
 have hn1 : l1.length = j := by rw [<- hl1, List.length_map, HM.out]
 have hn2 : l2.length = j := by rw [<- hl2, List.length_map, HM.out]
 rw [hXl] at HLR HLR2
 rw [hYl] at HLR HLR2 ⊢
 have hat := HLR2.at_
 have p0 := hat.c0
 have p1 := hat.c1
 have p2 := hat.c2
 have p3 := hat.c3
 obtain ⟨r0, hr0⟩ : ∃ r0, boundF dk l1 = r0 := ⟨_, rfl⟩
 have hpl := H.out.next HBR.out
 have hnm := boundBy_any hpl.below hpl.ge hpl.lt dk 0 ⟨#[]⟩ Aa ca l1 hDA (fun x hx => ⟨(hgo1 x hx).wide, fun hk => (hgo1 x hx).name hk⟩)
 rw [hn1, hr0] at hnm
 have HNM := Lib.hid hnm
 have HR0 := Lib.hid hr0
 have HPL := Lib.hid hpl
 have HD := Lib.hid hDB
 have HGO := Lib.hid hgo2
 have HN2 := Lib.hid hn2
 clear HLR2 htk hmx hmy htwo hgo1 hDA hat hr0 hpl hDB hgo2 hn1 hn2 hXl hYl hl1 hl2 hall hnm hF2
 go_wp2_with fail
 refine HNM.out.mono ?_
 intro e w3 hp
 cases r0 with
 | err c =>
  obtain ⟨v, rfl, hc, hb3⟩ := hp
  obtain rfl : r = .err c := by rw [<- HR.out, HALL.out, HDK.out, HR0.out]; rfl
  have hcne : (c != 0) = true := by rw [bne_iff_ne]; omega
  have R3 : ∀ j, w3.cell? ⟨w.heap.size + 1, j, none⟩ = (#[.int .i64 0, .int .i64 0, .int .i64 0, .string ⟨#[]⟩, .slice none 0 0, .string ⟨#[]⟩, .int .i64 0, .slice none 0 0, .slice none 0 0] : Array Value)[j]? := fun j => (hb3.cell (p := ⟨w.heap.size + 1, j, none⟩) hwr1).trans (wrR j)
  have RF3 : ∀ j, w3.frozen? ⟨w.heap.size + 1, j, none⟩ = false := fun j => (hb3.frozen (p := ⟨w.heap.size + 1, j, none⟩) hwr1).trans (wrRF j)
  have HB3 := Lib.hid hb3
  clear hb3 wrR wrRF
  go_wp2_with fail
  exact bodyPost_ret (v := .tuple #[evz.agg, .int .i64 c]) (by simp [results, Tryd.results75, go_sem, evz, EV.agg, R3]) rfl (zn hc (zg (by omega) (HBR.out.trans (HB3.out.mono HBR.out.size)) _ _ _ _ _ _ _ _ _))
 | ok ns =>
  obtain ⟨nA, nc, rfl, hnm, hb3⟩ := hp
  obtain ⟨rx, hrx⟩ : ∃ rx, allF (rec ls) l2 = rx := ⟨_, rfl⟩
  have HRX := Lib.hid hrx
  have hal := formedAll_any HE.out Ab cb l2 B bc ls (HPL.out.next hb3) (HD.out.below hb3) HGO.out (by rw [HN2.out]; exact hMs) HK40.out
  rw [HN2.out, HK.out, HUP.out, hrx] at hal
  have HAL := Lib.hid hal
  have h6 := boundF_len HR0.out
  have HB3 := Lib.hid hb3
  have HNS := Lib.hid hnm
  have h36 : w.heap.size < w3.heap.size := Nat.lt_of_lt_of_le hwr0 hb3.size
  have h37 : w.heap.size + 1 < w3.heap.size := Nat.lt_of_lt_of_le hwr1 hb3.size
  have w3a0 : w3.cell? ⟨w.heap.size, 0, none⟩ = some (.slice m.G m.gl m.gc) := (hb3.cell (p := ⟨w.heap.size, 0, none⟩) hwr0).trans wra0
  have w3a1 : w3.cell? ⟨w.heap.size, 1, none⟩ = some (.slice m.S m.sl m.sc) := (hb3.cell (p := ⟨w.heap.size, 1, none⟩) hwr0).trans wra1
  have w3a2 : w3.cell? ⟨w.heap.size, 2, none⟩ = some (.slice m.O m.ol m.oc) := (hb3.cell (p := ⟨w.heap.size, 2, none⟩) hwr0).trans wra2
  have w3a3 : w3.cell? ⟨w.heap.size, 3, none⟩ = some (.bool up) := (hb3.cell (p := ⟨w.heap.size, 3, none⟩) hwr0).trans wra3
  have w3a4 : w3.cell? ⟨w.heap.size, 4, none⟩ = some (.slice B K bc) := (hb3.cell (p := ⟨w.heap.size, 4, none⟩) hwr0).trans wra4
  have R3 : ∀ j, w3.cell? ⟨w.heap.size + 1, j, none⟩ = (#[.int .i64 0, .int .i64 0, .int .i64 0, .string ⟨#[]⟩, .slice none 0 0, .string ⟨#[]⟩, .int .i64 0, .slice none 0 0, .slice none 0 0] : Array Value)[j]? := fun j => (hb3.cell (p := ⟨w.heap.size + 1, j, none⟩) hwr1).trans (wrR j)
  have RF3 : ∀ j, w3.frozen? ⟨w.heap.size + 1, j, none⟩ = false := fun j => (hb3.frozen (p := ⟨w.heap.size + 1, j, none⟩) hwr1).trans (wrRF j)
  clear hal hrx hnm hb3 wrR wrRF wra0 wra1 wra2 wra3 wra4 p0 p1 p2 p3
  go_wp2_with fail
  refine HAL.out.mono ?_
  intro e w4 hp4
  cases rx with
  | err c =>
   obtain ⟨sA, sl, sc, rfl, hc, hb4⟩ := hp4
   obtain rfl : r = .err c := by rw [<- HR.out, HALL.out, HDK.out, HR0.out, HRX.out]; rfl
   have hcne : (c != 0) = true := by rw [bne_iff_ne]; omega
   have R4 : ∀ j, w4.cell? ⟨w.heap.size + 1, j, none⟩ = (#[.int .i64 0, .int .i64 0, .int .i64 0, .string ⟨#[]⟩, .slice none 0 0, .string ⟨#[]⟩, .int .i64 0, .slice none 0 0, .slice none 0 0] : Array Value)[j]? := fun j => (hb4.cell (p := ⟨w.heap.size + 1, j, none⟩) h37).trans (R3 j)
   have RF4 : ∀ j, w4.frozen? ⟨w.heap.size + 1, j, none⟩ = false := fun j => (hb4.frozen (p := ⟨w.heap.size + 1, j, none⟩) h37).trans (RF3 j)
   have HB4 := Lib.hid hb4
   clear hb4 R3 RF3
   go_wp2_with fail
   exact bodyPost_ret (v := .tuple #[evz.agg, .int .i64 c]) (by simp [results, Tryd.results75, go_sem, evz, EV.agg, R4]) rfl (zn hc (zg (by omega) (HBR.out.trans ((HB3.out.trans (HB4.out.mono HB3.out.size)).mono HBR.out.size)) _ _ _ _ _ _ _ _ _))
  | ok xs =>
   obtain ⟨v2, X2, rfl, hO4, hX2, hXl2, hb4⟩ := hp4
   obtain ⟨A4, c4, rfl, hc4, hcm4, _⟩ := hO4.form
   obtain ⟨rb, hrb⟩ : ∃ rb, bodyF rec (ls ++ ns) rest = rb := ⟨_, rfl⟩
   have HRB := Lib.hid hrb
   have HRR := Lib.hid (show r = mapF (fun y => .mk 5 dt0 ⟨#[]⟩ 0 ns (X2.map (·.t) ++ [y])) rb from by rw [<- HR.out, HALL.out, HDK.out, HR0.out, HRX.out, hX2, <- hrb]; rfl)
   have hb34 := HB3.out.trans (hb4.mono HB3.out.size)
   have HPL4 := Lib.hid (HPL.out.next hb34)
   have HT4 := Lib.hid ((HT.out.below (HLR.out.bel.mono (Nat.le_refl _))).below hb34)
   obtain ⟨KL, hKL⟩ : ∃ KL, (ls ++ ns).length = KL := ⟨_, rfl⟩
   have hins : ∀ W : World, Below w4.heap.size w4 W -> Calls Tryd.prog 25 #[.agg #[.slice m.G m.gl m.gc, .slice m.S m.sl m.sc, .slice m.O m.ol m.oc, .bool up, .slice B K bc], .slice nA ns.length nc] W (fun e W' => ∃ B3 bc3, e = .returned (.agg #[.slice m.G m.gl m.gc, .slice m.S m.sl m.sc, .slice m.O m.ol m.oc, .bool up, .slice B3 KL bc3]) /\ zc1 W0 W' m B3 bc3 (ls ++ ns) /\ Below W.heap.size W W') := fun W hW => by
    have := inside_any (HPL4.out.next hW) nA nc ns ((HNS.out.strs.below hb4).below hW) HNS.out.cap_ HNS.out.le (by have := HK40.out; omega) (by omega)
    unfold InsidePost at this
    rw [HUP.out, HK.out, hKL] at this
    exact this
   have HINS := Lib.hid hins
   have hbody : ∀ (W : World) (B3 : Option Addr) (bc3 : Nat), Below w4.heap.size w4 W -> zc1 W0 W m B3 bc3 (ls ++ ns) -> Calls Tryd.prog 26 #[.agg #[.slice m.G m.gl m.gc, .slice m.S m.sl m.sc, .slice m.O m.ol m.oc, .bool up, .slice B3 KL bc3], .slice (some ⟨b, o + 4, none⟩) (N - 1) (cap - 1)] W (RefPost W0 W rb) := fun W B3 bc3 hW hP => by
    have := formedBody_any HE.out _ (cap - 1) rest B3 bc3 (ls ++ ns) hP (HT4.out.below hW) HGR.out (by rw [HNR.out]; have := HNN.out; have := HN.out; omega)
    rw [HNR.out, HRB.out, HUP.out, hKL] at this
    exact this
   have HBODY := Lib.hid hbody
   have HO4 := Lib.hid hO4
   have HXL := Lib.hid hXl2
   have HB4 := Lib.hid hb4
   have w4a0 : w4.cell? ⟨w.heap.size, 0, none⟩ = some (.slice m.G m.gl m.gc) := (hb4.cell (p := ⟨w.heap.size, 0, none⟩) h36).trans w3a0
   have w4a1 : w4.cell? ⟨w.heap.size, 1, none⟩ = some (.slice m.S m.sl m.sc) := (hb4.cell (p := ⟨w.heap.size, 1, none⟩) h36).trans w3a1
   have w4a2 : w4.cell? ⟨w.heap.size, 2, none⟩ = some (.slice m.O m.ol m.oc) := (hb4.cell (p := ⟨w.heap.size, 2, none⟩) h36).trans w3a2
   have w4a3 : w4.cell? ⟨w.heap.size, 3, none⟩ = some (.bool up) := (hb4.cell (p := ⟨w.heap.size, 3, none⟩) h36).trans w3a3
   have w4a4 : w4.cell? ⟨w.heap.size, 4, none⟩ = some (.slice B K bc) := (hb4.cell (p := ⟨w.heap.size, 4, none⟩) h36).trans w3a4
   have R4 : ∀ j, w4.cell? ⟨w.heap.size + 1, j, none⟩ = (#[.int .i64 0, .int .i64 0, .int .i64 0, .string ⟨#[]⟩, .slice none 0 0, .string ⟨#[]⟩, .int .i64 0, .slice none 0 0, .slice none 0 0] : Array Value)[j]? := fun j => (hb4.cell (p := ⟨w.heap.size + 1, j, none⟩) h37).trans (R3 j)
   have RF4 : ∀ j, w4.frozen? ⟨w.heap.size + 1, j, none⟩ = false := fun j => (hb4.frozen (p := ⟨w.heap.size + 1, j, none⟩) h37).trans (RF3 j)
   have hszW : w.heap.size < w4.heap.size := Nat.lt_of_lt_of_le h36 hb4.size
   have hszW1 : w.heap.size + 1 < w4.heap.size := Nat.lt_of_lt_of_le h37 hb4.size
   have hq1 : w4.heap.size ≠ w.heap.size := by omega
   rw [hXl2] at HO4 hc4 ⊢
   have hs34 := hb4.size
   clear hO4 hXl2 hX2 hrb hb34 hKL hins hbody hb4 R3 RF3 w3a0 w3a1 w3a2 w3a3 w3a4 h6
   go_upto_region 19 with fail
   go_cut [13, 11] (fun v13 v11 wx => Formed W0 w4 rb v13 v11 wx)
   case first =>
    go_region_held3 (fun w' => w'.cell? ⟨w.heap.size, 0, none⟩ = some (.slice m.G m.gl m.gc) /\ w'.cell? ⟨w.heap.size, 1, none⟩ = some (.slice m.S m.sl m.sc) /\ w'.cell? ⟨w.heap.size, 2, none⟩ = some (.slice m.O m.ol m.oc) /\ w'.cell? ⟨w.heap.size, 3, none⟩ = some (.bool up) /\ w'.cell? ⟨w.heap.size, 4, none⟩ = some (.slice B K bc)) (go_keep)
     (first | (go_at_call 25; refine (HINS.out _ (by (with_reducible repeat' (first | exact Below.refl _ _ | apply Below.drew | apply below_drewN | refine Below.alloc ?_ ?_ _)); all_goals (try simp); all_goals (try omega))).mono ?_; rintro e w7 ⟨B3, bc3, rfl, hP7, hb7⟩; have HKw7 := Lib.hid ((show Below w4.heap.size w4 _ from (by (with_reducible repeat' (first | exact Below.refl _ _ | apply Below.drew | apply below_drewN | refine Below.alloc ?_ ?_ _)); all_goals (try simp); all_goals (try omega))).trans (hb7.mono (by first | exact Nat.le_refl _ | (simp; done) | (simp; omega)))); have w7c0 : w7.cell? ⟨w.heap.size, 0, none⟩ = some (.slice m.G m.gl m.gc) := (HKw7.out.cell (p := ⟨w.heap.size, 0, none⟩) hszW).trans w4a0; have w7c1 : w7.cell? ⟨w.heap.size, 1, none⟩ = some (.slice m.S m.sl m.sc) := (HKw7.out.cell (p := ⟨w.heap.size, 1, none⟩) hszW).trans w4a1; have w7c2 : w7.cell? ⟨w.heap.size, 2, none⟩ = some (.slice m.O m.ol m.oc) := (HKw7.out.cell (p := ⟨w.heap.size, 2, none⟩) hszW).trans w4a2; have w7c3 : w7.cell? ⟨w.heap.size, 3, none⟩ = some (.bool up) := (HKw7.out.cell (p := ⟨w.heap.size, 3, none⟩) hszW).trans w4a3; have w7c4 : w7.cell? ⟨w.heap.size, 4, none⟩ = some (.slice B K bc) := (HKw7.out.cell (p := ⟨w.heap.size, 4, none⟩) hszW).trans w4a4; have HP7 := Lib.hid hP7; have HB7 := Lib.hid hb7; have hsz7 : w4.heap.size <= w7.heap.size := HKw7.out.size; have hq7 : w7.heap.size ≠ w.heap.size := (by omega); have hlt7 := hb7.size; (try simp at hlt7); (try replace hlt7 := Nat.lt_of_succ_le hlt7); obtain ⟨g7, f7⟩ := bcell hb7; clear hP7 hb7) | (go_at_call 26; refine (HBODY.out _ _ _ (HKw7.out.trans ((show Below w7.heap.size w7 _ from (by (with_reducible repeat' (first | exact Below.refl _ _ | apply Below.drew | apply below_drewN | refine Below.alloc ?_ ?_ _)); all_goals (try simp); all_goals (try omega))).mono hsz7)) (HP7.out.next (by (with_reducible repeat' (first | exact Below.refl _ _ | apply Below.drew | apply below_drewN | refine Below.alloc ?_ ?_ _)); all_goals (try simp); all_goals (try omega)))).mono ?_; intro e w8 hp8; obtain ⟨v8, c8, rfl, hb8, hx8⟩ := hp8.both; have HKw8 := Lib.hid ((HKw7.out.trans ((show Below w7.heap.size w7 _ from (by (with_reducible repeat' (first | exact Below.refl _ _ | apply Below.drew | apply below_drewN | refine Below.alloc ?_ ?_ _)); all_goals (try simp); all_goals (try omega))).mono hsz7)).trans (hb8.mono (Nat.le_trans hsz7 (by first | exact Nat.le_refl _ | (simp; done) | (simp; omega))))); have w8c0 : w8.cell? ⟨w.heap.size, 0, none⟩ = some (.slice m.G m.gl m.gc) := (HKw8.out.cell (p := ⟨w.heap.size, 0, none⟩) hszW).trans w4a0; have w8c1 : w8.cell? ⟨w.heap.size, 1, none⟩ = some (.slice m.S m.sl m.sc) := (HKw8.out.cell (p := ⟨w.heap.size, 1, none⟩) hszW).trans w4a1; have w8c2 : w8.cell? ⟨w.heap.size, 2, none⟩ = some (.slice m.O m.ol m.oc) := (HKw8.out.cell (p := ⟨w.heap.size, 2, none⟩) hszW).trans w4a2; have w8c3 : w8.cell? ⟨w.heap.size, 3, none⟩ = some (.bool up) := (HKw8.out.cell (p := ⟨w.heap.size, 3, none⟩) hszW).trans w4a3; have w8c4 : w8.cell? ⟨w.heap.size, 4, none⟩ = some (.slice B K bc) := (HKw8.out.cell (p := ⟨w.heap.size, 4, none⟩) hszW).trans w4a4; have hsz8 : w4.heap.size <= w8.heap.size := HKw8.out.size; have hq8 : w8.heap.size ≠ w.heap.size := (by omega); have HB8 := Lib.hid hb8; have HX8 := Lib.hid hx8; obtain ⟨g8, f8⟩ := bcell hb8; clear hp8 hb8 hx8; unfold EV.agg))
    all_goals (go_wp2_with fail)
    all_goals go_meet
    all_goals (first | (with_reducible refine formed_after ?_ HB8.out HX8.out) | (with_reducible refine zl ?_ ?_ (Below.refl _ _) HB8.out HX8.out) | (with_reducible refine zl ?_ ?_ ((Below.refl _ _).drew) HB8.out HX8.out) | (with_reducible refine zl ?_ ?_ HB7.out HB8.out HX8.out) | (with_reducible refine zl ?_ ?_ (below_undrew HB7.out) HB8.out HX8.out))
    all_goals (first | exact HKw7.out | exact (by (with_reducible repeat' (first | exact Below.refl _ _ | apply Below.drew | apply below_drewN | refine Below.alloc ?_ ?_ _)); all_goals (try simp); all_goals (try omega)) | simp)
   obtain ⟨p, v, c, rfl, rfl, hp, hE, hbw, hx⟩ := hcut
   have q0 := hE.c0
   have q1 := hE.c1
   have q2 := hE.c2
   have q3 := hE.c3
   have q4 := hE.c4
   have q5 := hE.c5
   have q6 := hE.c6
   have q7 := hE.c7
   have q8 := hE.c8
   have hplt := hE.lt
   have HX := Lib.hid (show RefFact W0 w4 wc v c rb from by cases rb <;> exact hx)
   have HBW := Lib.hid hbw
   have hOI : OwnAt (kitIf W0 (∃ y, rb = .ok y)) 63 w3.heap.size wc (.slice A4 j c4) X2 := own_if (HO4.out.any.new hbw) (fun _ => HO4.out.new hbw)
   have hK2 := letu_elem (base := w3.heap.size) (u := .slice A4 j c4) HX.out (by omega) (fun b hb => (HO4.out.row.lt b hb).2)
   have HOI := Lib.hid hOI
   have HK2 := Lib.hid hK2
   have R5 : ∀ j, wc.cell? ⟨w.heap.size + 1, j, none⟩ = (#[.int .i64 0, .int .i64 0, .int .i64 0, .string ⟨#[]⟩, .slice none 0 0, .string ⟨#[]⟩, .int .i64 0, .slice none 0 0, .slice none 0 0] : Array Value)[j]? := fun j => (hbw.cell (p := ⟨w.heap.size + 1, j, none⟩) hszW1).trans (R4 j)
   have RF5 : ∀ j, wc.frozen? ⟨w.heap.size + 1, j, none⟩ = false := fun j => (hbw.frozen (p := ⟨w.heap.size + 1, j, none⟩) hszW1).trans (RF4 j)
   have hlt5 : w.heap.size + 1 < wc.heap.size := Nat.lt_of_lt_of_le hszW1 hbw.size
   have hsc : w3.heap.size <= wc.heap.size := Nat.le_trans hs34 hbw.size
   have HSP := Lib.hid (fun (W : World) (hg : wc.grownBy W (Value.slice A4 j c4).ownBlock) => letu_keep (g := w.heap.size + 1) hg (by omega) (fun b hb => by have := (HO4.out.row.lt b hb).1; omega))
   clear hE hx hbw hOI hK2 R4 RF4
   go_wp2_with (at_builtin; refine wpList_x (K := kitIf W0 (∃ y, rb = .ok y)) rfl rfl (.tmp 94) (.tmp 96) rfl HOI.out v _ rfl HK2.out.1 HK2.out.2.1 HK2.out.2.2 rfl rfl (by have := HXL.out; omega) hsc ?_; intro v9 w9 h5 h6; obtain ⟨k9, f9, s9⟩ := HSP.out w9 h6; obtain ⟨A9, c9, h8, _⟩ := h5.form; rw [show (X2 ++ [v]).length = j + 1 by rw [List.length_append, HXL.out]; rfl] at h8; subst h8; have H5 := Lib.hid h5; have H6 := Lib.hid h6; have R9 := (fun j => (k9 j).trans (R5 j)); have RF9 := (fun j => (f9 j).trans (RF5 j)); clear h5 h6 k9 f9)
   go_wp2_with fail
   exact bodyPost_ret (v := .tuple #[.agg #[.int .i64 5, .int .i64 0, .int .i64 0, .string ⟨#[]⟩, .slice none 0 0, .string ⟨#[]⟩, .int .i64 0, .slice nA ns.length nc, .slice A9 (j + 1) c9], .int .i64 c]) (by simp [results, Tryd.results75, go_sem, R9]) rfl (letu_fin HBR.out (Nat.le_succ _) hwr1 HB3.out HNS.out HB4.out HO4.out HBW.out HX.out H5.out (by rw [HXL.out]) H6.out (za1 _ _ _ _ _ _ _ _ _ _ _) HRR.out)
end Go.Proofs.YtjmeodadkjcmmaaDoor
