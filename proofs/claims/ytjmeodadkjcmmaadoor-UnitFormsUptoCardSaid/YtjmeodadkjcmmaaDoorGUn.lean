import Derived.Test.YtjmeodadkjcmmaaDoorUpR
import Derived.Test.YtjmeodadkjcmmaaDoorGTopHPQ
import Derived.Test.YtjmeodadkjcmmaaDoorShuC
namespace Go.Proofs.YtjmeodadkjcmmaaDoor
open Go.RowKit Go.ChangeShapes Go.WideShapes Go.Deep Go.ChangeAt
set_option linter.unusedVariables false
set_option maxRecDepth 20000
structure ColR (W0 w : World) (base U : Nat) (vS vN : Value) (X : List SV) (nm : List ByteArray) : Prop where
 below : Below W0.heap.size W0 w
 geU : W0.heap.size <= U
 ltU : U < base
 bs : base <= w.heap.size
 u0 : w.cell? ⟨U, 0, none⟩ = some vS
 u1 : w.cell? ⟨U, 1, none⟩ = some (.slice none 0 0)
 u2 : w.cell? ⟨U, 2, none⟩ = some (.slice none 0 0)
 fu : ∀ j, w.frozen? ⟨U, j, none⟩ = false
 oS : OwnAt kitSh TS base w vS X
 oN : OwnAt kitS 9 base w vN nm
 ne : AB.apart vS vN
 off : ∀ x ∈ X, ∀ b, kitSh.uses x b -> vN.ownBlock ≠ some b
theorem ColR.next {W0 w w' : World} {base U : Nat} {vS vN : Value} {X : List SV} {nm : List ByteArray} (h : ColR W0 w base U vS vN X nm) (hb : Below w.heap.size w w') : ColR W0 w' base U vS vN X nm := by
 have hs := h.bs
 have hc : ∀ b j, b < base -> w'.cell? ⟨b, j, none⟩ = w.cell? ⟨b, j, none⟩ := fun b j hb' => hb.cell (p := ⟨b, j, none⟩) (by show b < _; omega)
 have hf : ∀ b j, b < base -> w'.frozen? ⟨b, j, none⟩ = w.frozen? ⟨b, j, none⟩ := fun b j hb' => hb.frozen (p := ⟨b, j, none⟩) (by show b < _; omega)
 exact ⟨h.below.trans (hb.mono h.below.size), h.geU, h.ltU, Nat.le_trans hs hb.size, (hc _ _ h.ltU).trans h.u0, (hc _ _ h.ltU).trans h.u1, (hc _ _ h.ltU).trans h.u2, fun j => (hf _ j h.ltU).trans (h.fu j), h.oS.new hb, h.oN.new hb, h.ne, h.off⟩
theorem ColR.shape {W0 w w2 : World} {base U : Nat} {vS vN u : Value} {X : List SV} {x : SV} {nm : List ByteArray} (h : ColR W0 w base U vS vN X nm) (hO : OwnAt kitSh TS base w2 u (X ++ [x])) (hg : w.grownBy w2 vS.ownBlock) (hu : u.ownBlock = vS.ownBlock \/ ∃ b, u.ownBlock = some b /\ w.heap.size <= b) (hx : ∀ b, kitSh.uses x b -> vN.ownBlock ≠ some b) :
  ColR W0 (w2.setCell ⟨U, 0, none⟩ u) base U u vN (X ++ [x]) nm /\ zy base U U w (w2.setCell ⟨U, 0, none⟩ u) := by
 have hs := h.bs
 have hvS : ∀ k, vS.ownBlock = some k -> base <= k := fun k hk => (h.oS.row.lt k hk).1
 have hvN : ∀ k, vN.ownBlock = some k -> k < w.heap.size := fun k hk => (h.oN.row.lt k hk).2
 have hG : zy base U U w w2 := zy.row hg hvS hs
 have hc : ∀ b j, b < base -> w2.cell? ⟨b, j, none⟩ = w.cell? ⟨b, j, none⟩ := fun b j hb' => World.cell?_of_block (a := ⟨b, j, none⟩) (hg.block b (by omega) (fun e => by have := hvS b e.symm; omega))
 have hf : ∀ b j, b < base -> w2.frozen? ⟨b, j, none⟩ = w.frozen? ⟨b, j, none⟩ := fun b j hb' => World.frozen?_of_block (a := ⟨b, j, none⟩) (hg.block b (by omega) (fun e => by have := hvS b e.symm; omega))
 have hset := zd w2 U 0 u
 have hbl : Below W0.heap.size W0 w2 := ⟨hg.os.trans h.below.os, hg.tape.trans h.below.tape, hg.output.trans h.below.output, Nat.le_trans h.below.size hg.size, fun k hk => (hg.block k (by have := h.below.size; omega) (fun e => by have := hvS k e.symm; have := h.geU; have := h.ltU; omega)).trans (h.below.block k hk)⟩
 have hN : OwnAt kitS 9 base w2 vN nm := ⟨h.oN.row.kept hg (by
  cases hv : vN.ownBlock with
  | none => exact Or.inl rfl
  | some b => exact Or.inr (fun e => h.ne b e.symm hv)), fun _ _ => trivial, fun _ _ _ h => h.elim, fun _ _ _ h => h.elim⟩
 refine ⟨⟨hbl.setCell (p := ⟨U, 0, none⟩) h.geU _, h.geU, h.ltU, by have := hg.size; simp [World.setCell]; omega, zk ((hc U 0 h.ltU).trans h.u0), zj ((hc U 1 h.ltU).trans h.u1) (by decide), zj ((hc U 2 h.ltU).trans h.u2) (by decide),
  fun j => by rw [World.frozen?_setCell]; exact (hf U j h.ltU).trans (h.fu j), hO.other hset h.ltU, hN.other hset h.ltU, ?_, ?_⟩, hG.trans (zy.setU w2 0 u)⟩
 ·
  intro g hg1 hg2
  rcases hu with e | ⟨b, e, hb⟩
  ·
   rw [e] at hg1; exact h.ne g hg1 hg2
  rw [e] at hg1
  cases hg1
  have := hvN g hg2
  omega
 intro y hy b hb
 rcases List.mem_append.1 hy with hy | hy
 ·
  exact h.off y hy b hb
 obtain rfl : y = x := by simpa using hy
 exact hx b hb
theorem ColR.name {W0 w w2 : World} {base U : Nat} {vS vN u : Value} {X : List SV} {s : ByteArray} {nm : List ByteArray} (h : ColR W0 w base U vS vN X nm) (hO : OwnAt kitS 9 base w2 u (nm ++ [s])) (hg : w.grownBy w2 vN.ownBlock) (hu : u.ownBlock = vN.ownBlock \/ ∃ b, u.ownBlock = some b /\ w.heap.size <= b) :
  ColR W0 w2 base U vS u X (nm ++ [s]) /\ zy base U U w w2 := by
 have hs := h.bs
 have hvN : ∀ k, vN.ownBlock = some k -> base <= k := fun k hk => (h.oN.row.lt k hk).1
 have hvS : ∀ k, vS.ownBlock = some k -> k < w.heap.size := fun k hk => (h.oS.row.lt k hk).2
 have hG : zy base U U w w2 := zy.row hg hvN hs
 have hc : ∀ b j, b < base -> w2.cell? ⟨b, j, none⟩ = w.cell? ⟨b, j, none⟩ := fun b j hb' => World.cell?_of_block (a := ⟨b, j, none⟩) (hg.block b (by omega) (fun e => by have := hvN b e.symm; omega))
 have hf : ∀ b j, b < base -> w2.frozen? ⟨b, j, none⟩ = w.frozen? ⟨b, j, none⟩ := fun b j hb' => World.frozen?_of_block (a := ⟨b, j, none⟩) (hg.block b (by omega) (fun e => by have := hvN b e.symm; omega))
 have hbl : Below W0.heap.size W0 w2 := ⟨hg.os.trans h.below.os, hg.tape.trans h.below.tape, hg.output.trans h.below.output, Nat.le_trans h.below.size hg.size, fun k hk => (hg.block k (by have := h.below.size; omega) (fun e => by have := hvN k e.symm; have := h.geU; have := h.ltU; omega)).trans (h.below.block k hk)⟩
 have hS : OwnAt kitSh TS base w2 vS X := h.oS.grown hg (by
  cases hv : vS.ownBlock with
  | none => exact Or.inl rfl
  | some b => exact Or.inr (fun e => h.ne b hv e.symm)) (fun x hx b hb => h.off x hx b hb)
 refine ⟨⟨hbl, h.geU, h.ltU, Nat.le_trans hs hg.size, (hc U 0 h.ltU).trans h.u0, (hc U 1 h.ltU).trans h.u1, (hc U 2 h.ltU).trans h.u2, fun j => (hf U j h.ltU).trans (h.fu j), hS, hO, ?_, ?_⟩, hG⟩
 ·
  intro g hg1 hg2
  rcases hu with e | ⟨b, e, hb⟩
  ·
   rw [e] at hg2; exact h.ne g hg1 hg2
  rw [e] at hg2
  cases hg2
  have := hvS g hg1
  omega
 intro y hy b hb e
 rcases hu with e' | ⟨b', e', hb'⟩
 ·
  exact h.off y hy b hb (e' ▸ e)
 rw [e'] at e
 cases e
 have := kitSh.lt _ _ _ (h.oS.each y hy) hb
 omega
theorem ColR.start {W0 w : World} (hb : Below W0.heap.size W0 w) (t : TypeId) : ColR W0 (w.alloc (.cells #[.slice none 0 0, .slice none 0 0, .slice none 0 0] t)) (w.heap.size + 1) w.heap.size (.slice none 0 0) (.slice none 0 0) [] [] :=
 ⟨hb.alloc hb.size _, hb.size, Nat.lt_succ_self _, by simp, za _ _ _ 0, za _ _ _ 1, za _ _ _ 2, fun j => zi _ _ _ j, OwnAt.start _ _ _ _, OwnAt.start _ _ _ _, fun b h1 h2 => (by cases h1), fun x hx => absurd hx (by simp)⟩
theorem wpList_sh {base : Nat} {ops : Array Oper} {rest : List Oper} {o : Oper} {act : Act} {Q : Exit -> Act -> World -> Prop} {w : World} (hgd : o.guard = none) (s y : Operand)
  (ho : o.op = .call { callee := .builtin .append, args := #[s, y], argTypes := #[24, 24] })
  {v : Value} {X : List SV} (hO : OwnAt kitSh TS base w v X) (x : SV) (cs : Array Value) (hcs : cs.toList = kitSh.cells x) (hx : kitSh.ok w x) (hfrom : ∀ b, kitSh.uses x b -> base <= b) (hap : ∀ b, kitSh.uses x b -> v.ownBlock ≠ some b)
  (hs : act.eval s = v) (hy : act.eval y = .slice (some ⟨w.heap.size, 0, none⟩) 1 1) (hb : X.length + 1 <= 1048580) (hbase : base <= w.heap.size)
  (h : ∀ v' w', OwnAt kitSh TS base w' v' (X ++ [x]) -> w.grownBy w' v.ownBlock -> (v'.ownBlock = v.ownBlock \/ ∃ b, v'.ownBlock = some b /\ w.heap.size <= b) -> wpList Tryd.prog ops Q rest (act.put o.dst v') w') : wpList Tryd.prog ops Q (o :: rest) act (w.alloc (.cells cs 53)) := by
 obtain ⟨i, z, hi, hz, hzs, hsize, hby⟩ := infoShape_parts
 exact wpList_own hgd s y ho Tryd.underlying24 hi hz hsize hby hzs (show 0 < 2 by decide) hO x cs hcs hx hfrom hap hs hy ⟨by omega, by unfold maxLen; omega⟩ hbase h
theorem defT_ne {l : List Dt} {n : ByteArray} (h : defT l = some n) (hg : ∀ x ∈ l, Good 40 x) : (n.toList == []) = false := by
 have key : ∀ d : Dt, Good 40 d -> bindB d = true -> (d.s.toList == []) = false := fun d hd hb => by
  have hk : d.k = 3 := by
   by_cases h3 : d.k = 3
   ·
    exact h3
   rw [bind_kind h3] at hb; cases hb
  exact free_some (by rw [bind_free hk hd]; exact hb)
 match l, h with
 | [], h => cases h
 | a :: m, h =>
  by_cases hk : a.k = 4
  ·
   cases hl : a.l with
   | nil => rw [def_nil hk hl] at h; cases h
   | cons g ps =>
    rw [def_list hk hl] at h
    split at h
    ·
     rename_i hc
     cases h
     exact key g ((hg a (by simp)).low (by rw [hl]; simp)) hc.1
    cases h
  rw [def_name hk] at h
  split at h
  ·
   rename_i hc
   cases h
   exact key a (hg a (by simp)) hc.1
  cases h
/- Memory of the reference's UnitOf, second part (printed by gen_unitr.py). -/
def TxP (W : World) (gs : List ByteArray) (v : Value) (w' : World) : Prop := OwnAt kitS 9 W.heap.size w' v gs /\ Below W.heap.size W w'
def BhP (W : World) (shs : List Sh) (A : Option Addr) (c : Nat) (X : List Shp) (w' : World) : Prop := X.length <= c /\ c <= maxLen /\ zz w' A X.length X /\ X.map Shp.sh = shs /\ Below W.heap.size W w' /\ (0 < X.length -> ∃ g, A = some ⟨g, 0, none⟩ /\ W.heap.size <= g) /\ ∀ x ∈ X, ∀ a, x.A = some a -> 0 < x.len -> W.heap.size <= a.block
def ShOf (P : Nat -> Prop) (A : Option Addr) (X : List Shp) : Prop := (0 < X.length -> ∃ g, A = some ⟨g, 0, none⟩ /\ P g) /\ ∀ x ∈ X, ∀ a, x.A = some a -> 0 < x.len -> P a.block
def PlN (w : World) (gs : List ByteArray) (shs : List Sh) (v : Value) (w' : World) : Prop :=
 ∃ (p : Nat) (A6 : Option Addr) (c6 : Nat) (A8 : Option Addr) (c8 : Nat) (X8 : List Shp), v = .pointer (some ⟨p, 0, none⟩) /\ w.heap.size <= p /\ p < w'.heap.size ∧
  w'.cell? ⟨p, 0, none⟩ = some (.slice A6 gs.length c6) /\ w'.cell? ⟨p, 1, none⟩ = some (.slice A8 X8.length c8) /\ w'.cell? ⟨p, 2, none⟩ = some (.slice none 0 0) /\ w'.cell? ⟨p, 3, none⟩ = some (.bool false) /\ w'.cell? ⟨p, 4, none⟩ = some (.slice none 0 0) /\ (∀ j, w'.frozen? ⟨p, j, none⟩ = false) ∧
  OwnAt kitS 9 w.heap.size w' (.slice A6 gs.length c6) gs /\ (Value.slice A6 gs.length c6).ownBlock ≠ some p /\ X8.length <= c8 /\ c8 <= maxLen /\ zz w' A8 X8.length X8 /\ X8.map Shp.sh = shs ∧
  ShOf (fun b => w.heap.size <= b /\ b ≠ p /\ (Value.slice A6 gs.length c6).ownBlock ≠ some b) A8 X8 /\ Below w.heap.size w w'
theorem texts_one {W : World} {p gl gc : Nat} {G : Option Addr} {gs : List ByteArray} (h : W.cell? ⟨p, 0, none⟩ = some (.slice G gl gc)) (hs : zb1 W G gl gs) (hl : gl <= gc) (hc : gc <= maxLen) (hsz : gs.length <= 40) :
  Calls Tryd.prog 21 #[.slice (some ⟨p, 0, none⟩) 1 1] W fun e w' => ∃ A6 c6, e = .returned (.slice A6 gs.length c6) /\ TxP W gs (.slice A6 gs.length c6) w' := by
 have h1 := texts_any (some ⟨p, 0, none⟩) 1 1 [gs] W (by unfold maxLen; omega) (Nat.le_refl _) (Sh.rows_one h hs hl hc) (by simp; omega)
 refine h1.mono ?_
 rintro e w' ⟨v, rfl, hr, hb⟩
 simp only [List.flatten_cons, List.flatten_nil, List.append_nil] at hr
 have ho := own_of_strs hr rfl
 obtain ⟨A, c, rfl, _, _⟩ := ho.form
 exact ⟨A, c, rfl, ho, hb⟩
theorem behind_one (w : World) (G S S2 D U : Option Addr) (gl gc sl sc l2 c2 dl dc ul uc : Nat) (X1 X2 : List Shp) (h1 : zz w S sl X1) (h2 : zz w S2 l2 X2) (hsc : sl <= sc /\ sc <= maxLen) (hl2 : l2 <= c2 /\ c2 <= maxLen) (hn : sl + l2 <= 1099511627776) (hf : ∀ x ∈ X1 ++ X2, x.len <= 1099511627776) :
  Calls Tryd.prog 22 #[.agg #[.slice G gl gc, .slice S sl sc], .agg #[.slice S2 l2 c2, .slice D dl dc, .slice U ul uc]] w fun e w' => ∃ A8 c8 X8, e = .returned (.slice A8 X8.length c8) /\ BhP w (Sh.behindC ((X1 ++ X2).map Shp.sh)) A8 c8 X8 w' := by
 refine (Sh.behind_any w G S S2 D U gl gc sl sc l2 c2 dl dc ul uc X1 X2 h1 h2 hsc hl2 hn hf).mono ?_
 rintro e w' ⟨A, n, c, X, rfl, l1, l2, hS, hX, hb, hg, hx⟩
 obtain rfl : n = X.length := hS.size.symm
 exact ⟨A, c, X, rfl, l1, l2, hS, hX, hb, hg, fun x hx' a ha h0 => hx x hx' a ha h0⟩
theorem BhP.lt {W w8 : World} {shs : List Sh} {A8 : Option Addr} {c8 : Nat} {X8 : List Shp} (h : BhP W shs A8 c8 X8 w8) : ShOf (fun b => W.heap.size <= b /\ b < w8.heap.size) A8 X8 := by
 obtain ⟨_, _, hS, _, _, hg, hx⟩ := h
 refine ⟨fun h0 => ?_, fun x hx' a ha h0 => ?_⟩
 ·
  obtain ⟨g, e0, hgg⟩ := hg h0
  obtain ⟨b, o, e, hl, _⟩ := hS.at_ h0
  rw [e0] at e
  cases e
  exact ⟨g, e0, hgg, hl⟩
 have h1 := hx x hx' a ha h0
 obtain ⟨b, o, e, hl, _⟩ := (hS.each x hx').strs.at_ h0
 rw [ha] at e
 cases e
 exact ⟨h1, hl⟩
theorem ShOf.mono {P Q : Nat -> Prop} {A : Option Addr} {X : List Shp} (h : ShOf P A X) (hq : ∀ b, P b -> Q b) : ShOf Q A X :=
 ⟨fun h0 => by obtain ⟨g, e, hg⟩ := h.1 h0; exact ⟨g, e, hq g hg⟩, fun x hx a ha h0 => hq _ (h.2 x hx a ha h0)⟩
theorem zz.stay {w w' : World} {P : Nat -> Prop} {A : Option Addr} {X : List Shp} (h : zz w A X.length X) (hP : ShOf P A X) (hs : w.heap.size <= w'.heap.size) (hb : ∀ b, P b -> b < w.heap.size -> w'.heap[b]? = w.heap[b]?) : zz w' A X.length X :=
 h.kept hs (fun h0 a ha => by
  obtain ⟨g, e, hg⟩ := hP.1 h0
  obtain ⟨b, o, e2, hl, _⟩ := h.at_ h0
  rw [ha] at e e2
  cases e
  cases e2
  exact hb _ hg hl) (fun x hx h0 a ha => by
  obtain ⟨b, o, e2, hl, _⟩ := (h.each x hx).strs.at_ h0
  have hg := hP.2 x hx a ha h0
  rw [ha] at e2
  cases e2
  exact hb _ hg hl)
theorem own_kept {w w' : World} {base : Nat} {v : Value} {X : List ByteArray} {o : Option Nat} (h : OwnAt kitS 9 base w v X) (hg : w.grownBy w' o) (hne : ∀ b, v.ownBlock = some b -> o ≠ some b) : OwnAt kitS 9 base w' v X :=
 ⟨h.row.kept hg (by
  cases hv : v.ownBlock with
  | none => exact Or.inl rfl
  | some b => exact Or.inr (fun e => hne b hv e.symm)), fun _ _ => trivial, fun _ _ _ h => h.elim, fun _ _ _ h => h.elim⟩
theorem pl_mk {w W1 w7 W2 w8 wx : World} {p c6 c8 : Nat} {A6 A8 : Option Addr} {X8 : List Shp} {gs : List ByteArray} {shs : List Sh} (h1 : Below w.heap.size w W1) (hT : OwnAt kitS 9 W1.heap.size w7 (.slice A6 gs.length c6) gs) (hb7 : Below W1.heap.size W1 w7) (h27 : Below w7.heap.size w7 W2) (hB : BhP W2 shs A8 c8 X8 w8)
  (hp : w.heap.size <= p) (hpT : p < W1.heap.size \/ w7.heap.size <= p) (hpB : p < W2.heap.size \/ w8.heap.size <= p) (hg : w8.grownBy wx (some p)) (hlt : p < wx.heap.size)
  (c0 : wx.cell? ⟨p, 0, none⟩ = some (.slice A6 gs.length c6)) (c1 : wx.cell? ⟨p, 1, none⟩ = some (.slice A8 X8.length c8)) (c2 : wx.cell? ⟨p, 2, none⟩ = some (.slice none 0 0)) (c3 : wx.cell? ⟨p, 3, none⟩ = some (.bool false)) (c4 : wx.cell? ⟨p, 4, none⟩ = some (.slice none 0 0)) (hf : ∀ j, wx.frozen? ⟨p, j, none⟩ = false) :
  PlN w gs shs (.pointer (some ⟨p, 0, none⟩)) wx := by
 have hlt8 := hB.lt
 obtain ⟨l1, l2, hS, hX, hb8, _, _⟩ := hB
 have s1 := h1.size
 have s7 := hb7.size
 have s2 := h27.size
 have s8 := hb8.size
 have h78 : Below w7.heap.size w7 w8 := h27.trans (hb8.mono h27.size)
 have hO8 := hT.new h78
 have hlt6 : ∀ b, (Value.slice A6 gs.length c6).ownBlock = some b -> W1.heap.size <= b /\ b < w7.heap.size := fun b hb => hT.row.lt b hb
 have hne6 : (Value.slice A6 gs.length c6).ownBlock ≠ some p := fun e => by have := hlt6 p e; omega
 refine ⟨p, A6, c6, A8, c8, X8, rfl, hp, hlt, c0, c1, c2, c3, c4, hf, (own_kept hO8 hg (fun b hb e => hne6 (by rw [hb, e]))).lower s1, hne6, l1, l2, hS.stay hlt8 hg.size (fun b hb hl => hg.block b hl (fun e => by have := Option.some.inj e; omega)), hX, hlt8.mono (fun b hb => ⟨by omega, by omega, fun e => by have := hlt6 b e; omega⟩), zu ((h1.trans (hb7.mono s1)).trans (h78.mono (by omega))) hp hg⟩
theorem pl_after {w W1 w7 W2 w8 : World} {c6 c8 : Nat} {A6 A8 : Option Addr} {X8 : List Shp} {gs : List ByteArray} {shs : List Sh} {t : TypeId} (h1 : Below w.heap.size w W1) (hT : OwnAt kitS 9 W1.heap.size w7 (.slice A6 gs.length c6) gs) (hb7 : Below W1.heap.size W1 w7) (h27 : Below w7.heap.size w7 W2) (hB : BhP W2 shs A8 c8 X8 w8) :
  PlN w gs shs (.pointer (some ⟨w8.heap.size, 0, none⟩)) (w8.alloc (.cells #[.slice A6 gs.length c6, .slice A8 X8.length c8, .slice none 0 0, .bool false, .slice none 0 0] t)) :=
 pl_mk h1 hT hb7 h27 hB (by have := h1.size; have := hb7.size; have := h27.size; have := hB.2.2.2.2.1.size; omega) (Or.inr (by have := h27.size; have := hB.2.2.2.2.1.size; omega)) (Or.inr (Nat.le_refl _)) (World.grownBy_alloc w8 _ _) (by simp) (za _ _ _ 0) (za _ _ _ 1) (za _ _ _ 2) (za _ _ _ 3) (za _ _ _ 4) (fun j => zi _ _ _ j)
theorem pl_before {w W0 W1 w7 W2 w8 : World} {p c6 c8 : Nat} {A6 A8 : Option Addr} {X8 : List Shp} {gs : List ByteArray} {shs : List Sh} {t : TypeId} (hp : W0.heap.size = p) (h0 : w.heap.size <= p) (h1 : Below w.heap.size w W1) (hT : OwnAt kitS 9 W1.heap.size w7 (.slice A6 gs.length c6) gs) (hb7 : Below W1.heap.size W1 w7) (h27 : Below w7.heap.size w7 W2) (hB : BhP W2 shs A8 c8 X8 w8)
  (hpT : p < W1.heap.size \/ w7.heap.size <= p) (hpB : p < W2.heap.size) (hz : Below (W0.alloc (.cells #[.slice none 0 0, .slice none 0 0, .slice none 0 0, .bool false, .slice none 0 0] t)).heap.size (W0.alloc (.cells #[.slice none 0 0, .slice none 0 0, .slice none 0 0, .bool false, .slice none 0 0] t)) W2) :
  PlN w gs shs (.pointer (some ⟨p, 0, none⟩)) (((((w8.setCell ⟨p, 0, none⟩ (.slice A6 gs.length c6)).setCell ⟨p, 1, none⟩ (.slice A8 X8.length c8)).setCell ⟨p, 2, none⟩ (.slice none 0 0)).setCell ⟨p, 3, none⟩ (.bool false)).setCell ⟨p, 4, none⟩ (.slice none 0 0)) := by
 subst hp
 have hz8 := hz.trans (hB.2.2.2.2.1.mono hz.size)
 have hsz : (W0.alloc (.cells #[.slice none 0 0, .slice none 0 0, .slice none 0 0, .bool false, .slice none 0 0] t)).heap.size = W0.heap.size + 1 := by simp
 have hcell : ∀ j, w8.cell? ⟨W0.heap.size, j, none⟩ = (#[.slice none 0 0, .slice none 0 0, .slice none 0 0, .bool false, .slice none 0 0] : Array Value)[j]? := fun j => (hz8.cell (p := ⟨W0.heap.size, j, none⟩) (by show W0.heap.size < _; omega)).trans (za _ _ _ j)
 have hfz : ∀ j, w8.frozen? ⟨W0.heap.size, j, none⟩ = false := fun j => (hz8.frozen (p := ⟨W0.heap.size, j, none⟩) (by show W0.heap.size < _; omega)).trans (zi _ _ _ j)
 have hg5 := ((((zd w8 W0.heap.size 0 (.slice A6 gs.length c6)).trans (zd _ W0.heap.size 1 (.slice A8 X8.length c8))).trans (zd _ W0.heap.size 2 (.slice none 0 0))).trans (zd _ W0.heap.size 3 (.bool false))).trans (zd _ W0.heap.size 4 (.slice none 0 0))
 refine pl_mk h1 hT hb7 h27 hB h0 hpT (Or.inl hpB) hg5 (Nat.lt_of_lt_of_le (show W0.heap.size < w8.heap.size by have := hz8.size; omega) hg5.size) ?_ ?_ ?_ ?_ ?_ (fun j => by simp only [World.frozen?_setCell]; exact hfz j)
 ·
  rw [zh _ _ (by decide), zh _ _ (by decide), zh _ _ (by decide), zh _ _ (by decide)]; exact zk (hcell 0)
 ·
  rw [zh _ _ (by decide), zh _ _ (by decide), zh _ _ (by decide)]; exact zk ((zh _ _ (by decide)).trans (hcell 1))
 ·
  rw [zh _ _ (by decide), zh _ _ (by decide)]; exact zk (((zh _ _ (by decide)).trans (zh _ _ (by decide))).trans (hcell 2))
 ·
  rw [zh _ _ (by decide)]; exact zk ((((zh _ _ (by decide)).trans (zh _ _ (by decide))).trans (zh _ _ (by decide))).trans (hcell 3))
 exact zk (((((zh _ _ (by decide)).trans (zh _ _ (by decide))).trans (zh _ _ (by decide))).trans (zh _ _ (by decide))).trans (hcell 4))
theorem below_undrew2 {w w7 : World} {P S : Obj} (hb : Below ((w.alloc P).alloc S).drew.heap.size ((w.alloc P).alloc S).drew w7) : Below (w.alloc P).heap.size (w.alloc P) w7 :=
 (((Below.refl _ _).alloc (Nat.le_refl _) S).drew).trans (hb.mono (by simp))
structure GlR (base p g6 : Nat) (wa w : World) (v : Value) (X : List ByteArray) : Prop where
 own : OwnAt kitS 9 base w v X
 ne : v.ownBlock ≠ some p
 c0 : w.cell? ⟨p, 0, none⟩ = some v
 cs : ∀ j, 0 < j -> w.cell? ⟨p, j, none⟩ = wa.cell? ⟨p, j, none⟩
 fz : ∀ j, w.frozen? ⟨p, j, none⟩ = false
 lt : p < wa.heap.size
 at6 : ∀ b, v.ownBlock = some b -> b = g6 \/ wa.heap.size <= b
 grown : zy wa.heap.size p g6 wa w
theorem GlR.start {base p g6 : Nat} {wa : World} {v : Value} {X : List ByteArray} (hO : OwnAt kitS 9 base wa v X) (hne : v.ownBlock ≠ some p) (h0 : wa.cell? ⟨p, 0, none⟩ = some v) (hf : ∀ j, wa.frozen? ⟨p, j, none⟩ = false) (hlt : p < wa.heap.size) (h6 : ∀ b, v.ownBlock = some b -> b = g6) : GlR base p g6 wa wa v X :=
 ⟨hO, hne, h0, fun _ _ => rfl, hf, hlt, fun b hb => Or.inl (h6 b hb), zy.refl _ _ _ _⟩
theorem GlR.put {base p g6 : Nat} {wa w w5 : World} {v u : Value} {X Y : List ByteArray} (h : GlR base p g6 wa w v X) (hO : OwnAt kitS 9 base w5 u Y) (hg : w.grownBy w5 v.ownBlock) (hu : u.ownBlock = v.ownBlock \/ ∃ b, u.ownBlock = some b /\ w.heap.size <= b) :
  GlR base p g6 wa (w5.setCell ⟨p, 0, none⟩ u) u Y /\ w5.cell? ⟨p, 0, none⟩ = some v /\ w5.frozen? ⟨p, 0, none⟩ = false := by
 have hs := h.grown.size
 have hlt := h.lt
 have hpb : w5.heap[p]? = w.heap[p]? := hg.block p (by omega) (fun e => h.ne e.symm)
 have hc : ∀ j, w5.cell? ⟨p, j, none⟩ = w.cell? ⟨p, j, none⟩ := fun j => World.cell?_of_block (a := ⟨p, j, none⟩) hpb
 have hf : ∀ j, w5.frozen? ⟨p, j, none⟩ = false := fun j => (World.frozen?_of_block (a := ⟨p, j, none⟩) hpb).trans (h.fz j)
 have hun : u.ownBlock ≠ some p := fun e => by
  rcases hu with e2 | ⟨b, e2, hb⟩
  ·
   exact h.ne (e2 ▸ e)
  rw [e] at e2
  cases e2
  omega
 have hg1 : zy wa.heap.size p g6 w w5 := ⟨hg.os, hg.tape, hg.output, hg.size, fun k hk h1 h2 => hg.block k (by omega) (fun e => by
  rcases h.at6 k e.symm with rfl | h3
  ·
   exact h2 rfl
  omega)⟩
 have hg2 : zy wa.heap.size p g6 w5 (w5.setCell ⟨p, 0, none⟩ u) := ⟨(zd w5 p 0 u).os, (zd w5 p 0 u).tape, (zd w5 p 0 u).output, (zd w5 p 0 u).size, fun k hk h1 h2 => (zd w5 p 0 u).block k (by have := hg.size; omega) (fun e => h1 (Option.some.inj e))⟩
 refine ⟨⟨own_kept hO (zd w5 p 0 u) (fun b hb e => hun (by rw [hb, e])), hun, zk ((hc 0).trans h.c0), fun j hj => (zh w5 u (by omega)).trans ((hc j).trans (h.cs j hj)), fun j => by rw [World.frozen?_setCell]; exact hf j, hlt, fun b hb => ?_, h.grown.trans (hg1.trans hg2)⟩, (hc 0).trans h.c0, hf 0⟩
 rcases hu with e | ⟨b', e, hb'⟩
 ·
  exact h.at6 b (e ▸ hb)
 rw [e] at hb
 cases hb
 exact Or.inr (by omega)
theorem own_blk {w W : World} {p : Nat} {v : Value} {X : List ByteArray} (h : OwnAt kitS 9 w.heap.size W v X) (hp : w.heap.size <= p) : ∃ g6, (∀ b, v.ownBlock = some b -> b = g6) /\ w.heap.size <= g6 /\ (v.ownBlock = some g6 \/ g6 = p) := by
 cases hv : v.ownBlock with
 | none => exact ⟨p, (fun b h => by cases h), hp, Or.inr rfl⟩
 | some b => exact ⟨b, (fun b' h' => (Option.some.inj h').symm), (h.row.lt b hv).1, Or.inl rfl⟩
theorem GlR.drewN {base p g6 : Nat} {wa w : World} {v : Value} {X : List ByteArray} (h : GlR base p g6 wa w v X) (n : Nat) : GlR base p g6 wa (w.drewN n) v X :=
 ⟨h.own.new (below_drewN (Below.refl _ _) n), h.ne, h.c0, h.cs, h.fz, h.lt, h.at6, ⟨h.grown.os, h.grown.tape, h.grown.output, h.grown.size, h.grown.block⟩⟩
theorem step_str2 {base : Nat} {ops : Array Oper} {o : Oper} {act : Act} {KK : Act -> World -> Prop} {Q : Exit -> Act -> World -> Prop} {E : Prop} {w : World} (hgd : o.guard = none) (s y : Operand)
  (ho : o.op = .call { callee := .builtin .append, args := #[s, y], argTypes := #[23, 23] })
  {v : Value} {X : List ByteArray} (hO : OwnAt kitS 9 base w v X) (x : ByteArray) (cs : Array Value) (hcs : cs.toList = kitS.cells x)
  (hs : act.eval s = v) (hy : act.eval y = .slice (some ⟨w.heap.size, 0, none⟩) 1 1) (hb : X.length + 1 <= 4194304) (hbase : base <= w.heap.size)
  (h : ∀ v' w', OwnAt kitS 9 base w' v' (X ++ [x]) -> w.grownBy w' v.ownBlock -> (v'.ownBlock = v.ownBlock \/ ∃ b, v'.ownBlock = some b /\ w.heap.size <= b) -> KK (act.put o.dst v') w') :
  if Region.wanted o (yielded ops act.tmps) = true then Oper.wp Tryd.prog o act (w.alloc (.cells cs 9)) KK Q else E := by
 obtain ⟨i0, hi, hz0, hz1, hz2⟩ := info_parts infoString
 exact step_ownV hgd s y ho Tryd.underlying23 hi hz0 hz1 hz2 rfl (by decide) hO x cs hcs trivial (fun b hb => hb.elim) (fun b hb => hb.elim) hs hy (by unfold maxLen; omega) hbase h
/- Memory of the reference's UnitOf, third part (printed by gen_unitc.py). -/
theorem nameB_short {s : ByteArray} (h : nameB s.data.toList = true) : s.size <= 16 := by
 rcases Nat.lt_or_ge 16 s.size with h1 | h1
 ·
  have := nameB_long (l := s.data.toList) (by rw [Array.length_toList]; exact h1)
  rw [this] at h
  cases h
 exact h1
theorem shapeF_short {n : ByteArray} {ss : List ByteArray} (h : shapeF n ss = 0) : n.size <= 16 /\ ∀ f ∈ ss, f.size <= 16 := by
 unfold shapeF at h
 split at h
 ·
  cases h
 rename_i hfr
 split at h
 ·
  cases h
 refine ⟨?_, fun f hf => ?_⟩
 ·
  have h1 : freeB n = true := by simpa using hfr
  unfold freeB at h1
  exact nameB_short (by simp only [Bool.and_eq_true] at h1; exact h1.1.1)
 obtain ⟨i, hi, rfl⟩ := List.getElem_of_mem hf
 have h0 := firstErr_nil h (fieldF ss i) (List.mem_map.2 ⟨i, by simpa using hi, rfl⟩)
 unfold fieldF at h0
 rw [show ss.getD i ByteArray.empty = ss[i] from by simp [hi]] at h0
 cases hn : nameB ss[i].data.toList with
 | false => rw [hn] at h0; simp at h0
 | true => exact nameB_short hn
theorem short_ok {w : World} {base : Nat} {v : Value} {L X8 : List Shp} {X : List SV} {p c3 c8 : Nat} {A3 A8 : Option Addr} {X3 : List ByteArray} (hX : OwnAt kitSh TS base w v X) (hL : ∀ x ∈ L, shapeF x.name x.ss = 0) (h8 : X8.map Shp.sh = Sh.behindC (L.map Shp.sh ++ X.map SV.sh)) : ShortSh (fmOf p A3 c3 X3 A8 c8 X8) := by
 intro x hx
 have h1 : x.sh ∈ X8.map Shp.sh := List.mem_map.2 ⟨x, hx, rfl⟩
 rw [h8] at h1
 rcases behind_mem _ _ _ h1 with h | h
 ·
  simp at h
 rcases List.mem_append.1 h with hy | hy
 ·
  obtain ⟨y, hy, e⟩ := List.mem_map.1 hy
  have e1 : y.name = x.name := congrArg Prod.fst e
  have e2 : y.ss = x.ss := congrArg Prod.snd e
  rw [<- e1, <- e2]
  exact shapeF_short (hL y hy)
 obtain ⟨z, hz, e⟩ := List.mem_map.1 hy
 have e1 : z.name = x.name := congrArg Prod.fst e
 have e2 : z.ss = x.ss := congrArg Prod.snd e
 rw [<- e1, <- e2]
 exact shapeF_short (hX.each z hz).2.2.good
theorem place_at {W0 wp wr : World} {B U p g6 c3 c8 : Nat} {A3 A8 : Option Addr} {X3 : List ByteArray} {X8 : List Shp} (hb : Below W0.heap.size W0 wr) (hp : W0.heap.size <= p) (hUB : U < B) (hG : GlR B p g6 wp wr (.slice A3 X3.length c3) X3) (hl8 : X8.length <= c8) (hc8 : c8 <= maxLen) (hS8 : zz wp A8 X8.length X8) (hSO : ShOf (fun b => B <= b /\ b ≠ p /\ b ≠ g6) A8 X8) :
  zc1 W0 wr (fmOf p A3 c3 X3 A8 c8 X8) none 0 [] /\ zz wr A8 X8.length X8 := by
 obtain ⟨A, cap, e, hsc, hn⟩ := own_names (lo := U + 1) (F := U) hG.own hUB (by omega)
 cases e
 have hS := hS8.stay hSO hG.grown.size (fun b hb hl => hG.grown.block b hl hb.2.1 hb.2.2)
 have hz : (0 : Nat) <= maxLen := Nat.zero_le _
 exact ⟨⟨hb, hp, Nat.lt_of_lt_of_le hG.lt hG.grown.size, hn.strs, hn.le, hn.cap_, hS, hl8, hc8, ⟨rfl, fun h => absurd h (Nat.lt_irrefl 0)⟩, Nat.le_refl _, hz, ⟨rfl, fun h => absurd h (Nat.lt_irrefl 0)⟩, Nat.le_refl _, hz⟩, hS⟩
theorem un_top {W0 wr0 wp wr : World} {B U p g6 c3 c8 cS : Nat} {A3 A8 AS : Option Addr} {vN : Value} {X3 nm : List ByteArray} {L X8 : List Shp} {X : List SV} (hC : ColR W0 wr0 (U + 1) U (.slice AS X.length cS) vN X nm) (hP : Below wr0.heap.size wr0 wp) (hB : wr0.heap.size = B) (hp : B <= p) (hg6 : B <= g6) (hG : GlR B p g6 wp wr (.slice A3 X3.length c3) X3)
  (hl8 : X8.length <= c8) (hc8 : c8 <= maxLen) (hS8 : zz wp A8 X8.length X8) (hSO : ShOf (fun b => B <= b /\ b ≠ p /\ b ≠ g6) A8 X8) (hL : ∀ x ∈ L, shapeF x.name x.ss = 0) (h8 : X8.map Shp.sh = Sh.behindC (L.map Shp.sh ++ X.map SV.sh)) :
  Below wr0.heap.size wr0 wr /\ zc1 W0 wr (fmOf p A3 c3 X3 A8 c8 X8) none 0 [] /\ ShortSh (fmOf p A3 c3 X3 A8 c8 X8) /\ (fmOf p A3 c3 X3 A8 c8 X8).pl = ⟨X3, Sh.behindC (L.map Shp.sh ++ X.map SV.sh), [], false⟩ /\ UnAt W0 wr wr.heap.size (fmOf p A3 c3 X3 A8 c8 X8) U (.slice AS X.length cS) (.slice none 0 0) (.slice none 0 0) (X.map SV.ne) True [] [] := by
 subst hB
 have hbel := hG.grown.under hP hP.size hp hg6
 have hW := hC.below
 have hU := hC.ltU
 have hUs := hC.bs
 have hgU := hC.geU
 have hW9 := hW.trans (hbel.mono hW.size)
 obtain ⟨hPl, hS9⟩ := place_at (U := U) (c8 := c8) hW9 (by omega) (by omega) hG hl8 hc8 hS8 hSO
 have hC9 := hC.next hbel
 obtain ⟨A', cap', e, hle2, hcm2, _, hNE, hA2, _⟩ := hC.oS.shpsC (zy.below (base := wr0.heap.size) (U := U) (N := U) hbel (Nat.le_refl _)) (Nat.le_refl _) hU hU
 cases e
 have hl : (X.map SV.ne).length = X.length := by simp
 have hfo := fmOff_start (F := p) (U := U) (sc := c8) hG.own (by omega) hS9 (fun h0 => by obtain ⟨g, e, hg⟩ := hSO.1 h0; exact ⟨g, e, hg.1⟩) (fun x hx a ha h0 => (hSO.2 x hx a ha h0).1) (by omega)
 have hlt : p < wr.heap.size := Nat.lt_of_lt_of_le hG.lt hG.grown.size
 refine ⟨hbel, hPl, short_ok hC.oS hL h8, ?_, ?_⟩
 ·
  unfold fmOf Fm.pl
  simp only
  rw [h8]
 have h9 := hbel.size
 have := un_start (W0 := W0) (w := wr) (m := fmOf p A3 c3 X3 A8 c8 X8) (base := wr.heap.size) (U := U) (A := AS) (cap := cS) (S := X.map SV.ne) (by omega) (by omega) (show U ≠ p by omega) hlt (Nat.le_refl _) hfo (by rw [hl]; exact hC9.u0) hC9.u1 hC9.u2 hC9.fu (by rw [hl]; exact hle2) hcm2 (by rw [hl]; exact hNE) (fun h0 a ha => by
  obtain ⟨l1, l2⟩ := hA2 (by rw [<- hl]; exact h0) a ha
  refine ⟨by omega, by omega, ?_⟩
  show a.block ≠ p
  omega)
 rwa [hl] at this
theorem uf_okR {W0 w w2 wr w' : World} {m : Fm} {base base2 B U : Nat} {A : Option Addr} {cap : Nat} {vS vD vP : Value} {X : List SV} {D : List DfV} {P : List UpV} {un : Un} (hb : Below w.heap.size w wr) (hU : UnAt W0 wr base m U vS vD vP (X.map SV.ne) True D P) (hX : OwnAt kitSh TS B w2 (.slice A X.length cap) X) (hg : zy base2 U U w2 wr) (hs : w2.heap.size <= base2) (hsb : w2.heap.size <= base) (hUB : U < B) (hw : w.heap.size + 1 < B) (hwb : w.heap.size + 1 < base) (hD : D.map DfV.pr = un.1) (hP : P.map UpV.pr = un.2) {us : List Sh} (hus : X.map SV.sh = us) (hw' : wr.grownBy w' (some (w.heap.size + 1))) :
  UFin W0 w (.returned (.tuple #[.agg #[.slice A X.length cap, vD, vP], .int .i64 0, .int .i64 0])) w' (.ok (us, un)) := by
 obtain ⟨A', cap', e, h1, h2, hS, _, hA, hXX⟩ := hX.shpsC hg hs hUB hUB
 cases e
 have hl : X.length = (X.map SV.shp).length := by simp
 have hb0 := hb.size
 refine ⟨A, cap, X.map SV.shp, base, vD, D, vP, P, by rw [<- hl], by rw [<- hl]; exact h1, h2, ?_, ?_, by omega, hU.oD.other hw' hwb, hD, hU.oP.other hw' hwb, hP, ?_⟩
 ·
  rw [<- hl]
  have hbs := hU.bs
  exact hS.kept hw'.size (fun h0 a ha => hw'.block _ (by have := (hA h0 a ha).2; omega) (fun e => by have := Option.some.inj e; have := (hA h0 a ha).1; omega)) (fun x hx h0 a ha => hw'.block _ (by have := (hXX x hx h0 a ha).2; omega) (fun e => by have := Option.some.inj e; have := (hXX x hx h0 a ha).1; omega))
 ·
  rw [<- hus, List.map_map]; rfl
 exact ⟨hw'.os.trans hb.os, hw'.tape.trans hb.tape, hw'.output.trans hb.output, Nat.le_trans hb.size hw'.size, fun k hk => (hw'.block k (by omega) (fun e => by have := Option.some.inj e; omega)).trans (hb.block k hk)⟩
theorem zc1.carry {W0 w w' : World} {m : Fm} {base U : Nat} (h : zc1 W0 w m none 0 []) (ho : FmOff m base U) (hU : W0.heap.size <= U) (hb : W0.heap.size <= base) (hg : zy base U U w w') : zc1 W0 w' m none 0 [] := by
 have hk : ∀ b, b < base /\ b ≠ U -> w'.heap[b]? = w.heap[b]? := fun b hb' => hg.block b hb'.1 hb'.2 hb'.2
 exact ⟨hg.under h.below hb hU hU, h.ge, Nat.lt_of_lt_of_le h.lt hg.size, h.g.kept hg.size (fun h0 a ha => hk _ (ho.g h0 a ha)), h.gle, h.gcap, h.s.kept hg.size (fun h0 a ha => hk _ (ho.s h0 a ha)) (fun x hx h0 a ha => hk _ (ho.f x hx h0 a ha)), h.sle, h.scap, h.o.kept hg.size (fun h0 a ha => hk _ (ho.o h0 a ha)), h.ole, h.ocap, ⟨rfl, fun h0 => absurd h0 (Nat.lt_irrefl 0)⟩, h.lle, h.lcap⟩
theorem wpList_upR {W0 : World} {pp : Prop} {base : Nat} {ops : Array Oper} {rest : List Oper} {o : Oper} {act : Act} {Q : Exit -> Act -> World -> Prop} {w : World} (hgd : o.guard = none) (s y : Operand)
  (ho : o.op = .call { callee := .builtin .append, args := #[s, y], argTypes := #[28, 28] })
  {v : Value} {X : List UpV} (hO : OwnAt (kitUp W0 pp) TUp base w v X) (x : UpV) (cs : Array Value) (hcs : cs.toList = (kitUp W0 pp).cells x) (hx : (kitUp W0 pp).ok w x) (hfrom : ∀ b, (kitUp W0 pp).uses x b -> base <= b) (hap : ∀ b, (kitUp W0 pp).uses x b -> v.ownBlock ≠ some b)
  (hs : act.eval s = v) (hy : act.eval y = .slice (some ⟨w.heap.size, 0, none⟩) 1 1) (hb : X.length + 1 <= 1048580) (hbase : base <= w.heap.size)
  (h : ∀ v' w', OwnAt (kitUp W0 pp) TUp base w' v' (X ++ [x]) -> w.grownBy w' v.ownBlock -> (v'.ownBlock = v.ownBlock \/ ∃ b, v'.ownBlock = some b /\ w.heap.size <= b) -> wpList Tryd.prog ops Q rest (act.put o.dst v') w') : wpList Tryd.prog ops Q (o :: rest) act (w.alloc (.cells cs TUp)) := by
 obtain ⟨i, z, hi, hz, hzs, hsize, hby⟩ := infoUp_parts
 exact wpList_own hgd s y ho Tryd.underlying28 hi hz hsize hby hzs (show 0 < 2 by decide) hO x cs hcs hx hfrom hap hs hy ⟨by omega, by unfold maxLen; omega⟩ hbase h
end Go.Proofs.YtjmeodadkjcmmaaDoor
