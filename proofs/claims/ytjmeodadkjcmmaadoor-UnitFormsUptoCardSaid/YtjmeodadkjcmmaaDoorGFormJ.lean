import Derived.Test.YtjmeodadkjcmmaaDoorFormI
import Derived.Test.YtjmeodadkjcmmaaDoorGRule
namespace Go.Proofs.YtjmeodadkjcmmaaDoor
open Go.RowKit Go.ChangeShapes Go.WideShapes Go.Deep Go.ChangeAt
set_option linter.unusedVariables false
set_option maxRecDepth 20000
theorem let_few {rec : List ByteArray -> Dt -> Fd Ex} {ls : List ByteArray} {l : List Dt} (h : l.length < 2) : letF rec ls l = .err 10 := by
 match l, h with
 | [], _ => rfl
 | [_], _ => rfl
theorem let_form {rec : List ByteArray -> Dt -> Fd Ex} {ls : List ByteArray} {h : Dt} {rest : List Dt} (h1 : 1 <= rest.length) (hb : h.l.all twoB = false) : letF rec ls (h :: rest) = .err 4 := by
 match rest, h1 with
 | b :: m, _ => simp only [letF]; rw [if_neg (by rw [hb]; simp)]
def bindFd {α β : Type} : Fd α -> (α -> Fd β) -> Fd β
 | .err e, _ => .err e
 | .ok x, f => f x
theorem let_eq {rec : List ByteArray -> Dt -> Fd Ex} {ls : List ByteArray} {h : Dt} {rest : List Dt} (h1 : 1 <= rest.length) (hb : h.l.all twoB = true) :
  letF rec ls (h :: rest) = bindFd (boundF h.k (h.l.map firstD)) fun ns => bindFd (allF (rec ls) (h.l.map secondD)) fun xs => mapF (fun y => .mk 5 dt0 ⟨#[]⟩ 0 ns (xs ++ [y])) (bodyF rec (ls ++ ns) rest) := by
 match rest, h1 with
 | b :: m, _ =>
  simp only [letF]
  rw [if_pos hb]
  cases boundF h.k (h.l.map firstD) with
  | err e => rfl
  | ok ns =>
   simp only [bindFd]
   cases allF (rec ls) (h.l.map secondD) <;> rfl
theorem two_view {d : Dt} (h : twoB d = true) : d.k = 4 /\ ∃ x y, d.l = [x, y] /\ firstD d = x /\ secondD d = y := by
 unfold twoB at h
 simp only [Bool.and_eq_true, beq_iff_eq] at h
 obtain ⟨h1, h2⟩ := h
 match hl : d.l, h2 with
 | [x, y], _ => exact ⟨h1, x, y, rfl, by unfold firstD; rw [hl]; rfl, by unfold secondD; rw [hl]; rfl⟩
theorem all_two_step {l : List Dt} {j : Nat} (hj : j < l.length) (h : (l.take j).all twoB = true) (h2 : twoB l[j] = true) : (l.take (j + 1)).all twoB = true := by
 rw [List.take_succ_eq_append_getElem hj, List.all_append, h]
 simp [h2]
theorem all_two_no {l : List Dt} {j : Nat} (hj : j < l.length) (h2 : twoB l[j] = false) : l.all twoB = false := by
 rw [List.all_eq_false]
 exact ⟨l[j], List.getElem_mem hj, by rw [h2]; simp⟩
theorem map_step {l : List Dt} {j : Nat} {X : List DV} {x : DV} {f : Dt -> Dt} (hj : j < l.length) (h : X.map (·.t) = (l.take j).map f) (hx : x.t = f l[j]) : (X ++ [x]).map (·.t) = (l.take (j + 1)).map f := by
 rw [List.take_succ_eq_append_getElem hj, List.map_append, List.map_append, h]
 simp [hx]
theorem Good.two {n : Nat} {d : Dt} (h : Good n d) : ∀ x ∈ d.l, Good n x := fun x hx => h.low hx
theorem first_good {n : Nat} {l : List Dt} (h : ∀ x ∈ l, Good n x) (hb : l.all twoB = true) : (∀ x ∈ l.map firstD, Good n x) /\ ∀ x ∈ l.map secondD, Good n x := by
 have hall : ∀ d ∈ l, Good n (firstD d) /\ Good n (secondD d) := fun d hd => by
  obtain ⟨_, x, y, hl, h1, h2⟩ := two_view ((List.all_eq_true.1 hb) d hd)
  rw [h1, h2]
  exact ⟨(h d hd).low (by rw [hl]; simp), (h d hd).low (by rw [hl]; simp)⟩
 refine ⟨fun x hx => ?_, fun x hx => ?_⟩
 ·
  obtain ⟨d, hd, rfl⟩ := List.mem_map.1 hx; exact (hall d hd).1
 obtain ⟨d, hd, rfl⟩ := List.mem_map.1 hx; exact (hall d hd).2
def kitIf (W0 : World) (p : Prop) : Kit EV where
 k := 9
 cells := EV.cells
 len x := rfl
 one := EV.one
 ok w x := p -> (kitEx W0).ok w x
 uses x b := p /\ (kitEx W0).uses x b
 lt w x b h hb := (kitEx W0).lt w x b (h hb.1) hb.2
 kept w w' x row h hg hn := fun hp => (kitEx W0).kept w w' x row (h hp) hg (fun b hb => hn b ⟨hp, hb⟩)
theorem own_if {W0 w : World} {p : Prop} {base : Nat} {v : Value} {X : List EV} (h : OwnAt kitAny 63 base w v X) (h2 : p -> OwnAt (kitEx W0) 63 base w v X) : OwnAt (kitIf W0 p) 63 base w v X :=
 ⟨h.row, fun x hx hp => (h2 hp).each x hx, fun x hx b hb => (h2 hb.1).from_ x hx b hb.2, fun x hx b hb => (h2 hb.1).apart x hx b hb.2⟩
theorem own_if_yes {W0 w : World} {p : Prop} {base : Nat} {v : Value} {X : List EV} (h : OwnAt (kitIf W0 p) 63 base w v X) (hp : p) : OwnAt (kitEx W0) 63 base w v X :=
 ⟨h.row, fun x hx => h.each x hx hp, fun x hx b hb => h.from_ x hx b ⟨hp, hb⟩, fun x hx b hb => h.apart x hx b ⟨hp, hb⟩⟩
def XsFact (W0 w w' : World) (m : Fm) (v : Value) (X : List EV) : Fd (List Ex) -> Prop
 | .ok xs => OwnAt (kitEx W0) 63 w.heap.size w' v X /\ X.map (·.t) = xs /\ Below w.heap.size w w'
 | .err c => 1 <= c /\ zx W0 w' m c
def XsLet (W0 w : World) (m : Fm) (n : Nat) (r : Fd (List Ex)) (e : Ending) (w' : World) : Prop := ∃ v X, e = .returned v /\ X.length = n /\ w.grownBy w' (some m.F) /\ OwnAt kitAny 63 w.heap.size w' v X /\ XsFact W0 w w' m v X r
theorem exprs_let {W0 w : World} {m : Fm} {n : Nat} {rec : List ByteArray -> Dt -> Fd Ex} (he : ExprSays W0 m n rec) (A : Option Addr) (cap : Nat) (l : List Dt) (hl : DsAt W0 w m.F A cap l) (hgd : ∀ x ∈ l, Good n x) (hn : l.length <= 1048576) (B : Option Addr) (bc : Nat) (ls : List ByteArray) (hsc : ScAt w m.F B bc ls) (hls : ls.length <= 40)
  {r : Fd (List Ex)} (h : Two W0 w m (allF (rec ls) l) r) :
  Calls Tryd.prog 68 #[.pointer (some ⟨m.F, 0, none⟩), .slice A l.length cap, .slice B ls.length bc] w (XsLet W0 w m l.length r) := by
 rcases h with ⟨hF, hr⟩ | ⟨c, hc, hF, rfl⟩
 ·
  refine (exprs_any he hF A cap l hl hgd hn B bc ls hsc hls).mono fun e w' hp => ?_
  rw [hr] at hp
  cases r with
  | ok xs =>
   obtain ⟨v, X, rfl, hO, ht, hx, hb⟩ := hp
   exact ⟨v, X, rfl, hx, zb hb _, hO.any, hO, ht, hb⟩
  | err c =>
   obtain ⟨v, X, rfl, hO, hx, hc, hF', hg⟩ := hp
   exact ⟨v, X, rfl, hx, hg, hO, hc, hF'⟩
 refine (exprs_idle hF (by omega) A cap l hl hn B _ _).mono fun e w' hp => ?_
 obtain ⟨v, X, rfl, hO, hx, hb⟩ := hp
 exact ⟨v, X, rfl, hx, zb hb _, hO, hc, hF.next hb⟩
theorem let_names {W0 w w' : World} {m : Fm} {rec : List ByteArray -> Dt -> Fd Ex} {ls ss : List ByteArray} {l2 rest : List Dt} {r0 : Fd (List ByteArray)} {a b cap : Nat} {A : Option Addr} (h : zx W0 w m 0) (hp : NmFact W0 w w' m a b A cap ss r0) :
  ∃ rx, Two W0 w' m (allF (rec ls) l2) rx /\ (∀ c, r0 = .err c -> rx = .err c) ∧
   (bindFd r0 fun ns => bindFd (allF (rec ls) l2) fun xs => mapF (fun y => Ex.mk 5 dt0 ⟨#[]⟩ 0 ns (xs ++ [y])) (bodyF rec (ls ++ ns) rest)) = bindFd rx fun xs => mapF (fun y => Ex.mk 5 dt0 ⟨#[]⟩ 0 ss (xs ++ [y])) (bodyF rec (ls ++ ss) rest) := by
 cases r0 with
 | ok ns =>
  obtain ⟨rfl, _, hb⟩ := hp
  exact ⟨_, Or.inl ⟨h.next hb, rfl⟩, (fun c h => by cases h), rfl⟩
 | err c => exact ⟨.err c, Or.inr ⟨c, hp.1, hp.2, rfl⟩, (fun c' h => by cases h; rfl), rfl⟩
theorem let_exprs {W0 w w' : World} {m : Fm} {v : Value} {X : List EV} {rec : List ByteArray -> Dt -> Fd Ex} {LS ss : List ByteArray} {rest : List Dt} {rx : Fd (List Ex)} (h : ∀ xs, rx = .ok xs -> zx W0 w m 0) (hp : XsFact W0 w w' m v X rx) :
  ∃ ry, Two W0 w' m (bodyF rec LS rest) ry /\ (∀ c, rx = .err c -> ry = .err c) ∧
   (bindFd rx fun xs => mapF (fun y => Ex.mk 5 dt0 ⟨#[]⟩ 0 ss (xs ++ [y])) (bodyF rec LS rest)) = mapF (fun y => Ex.mk 5 dt0 ⟨#[]⟩ 0 ss (X.map (·.t) ++ [y])) ry := by
 cases rx with
 | ok xs =>
  obtain ⟨_, hx, hb⟩ := hp
  subst hx
  exact ⟨_, Or.inl ⟨(h _ rfl).next hb, rfl⟩, (fun c h => by cases h), rfl⟩
 | err c => exact ⟨.err c, Or.inr ⟨c, hp.1, hp.2, rfl⟩, (fun c' h => by cases h; rfl), rfl⟩
theorem own_let {W0 w w' : World} {m : Fm} {v : Value} {X : List EV} {rx : Fd (List Ex)} {ry : Fd Ex} (hO : OwnAt kitAny 63 w.heap.size w' v X) (hp : XsFact W0 w w' m v X rx) (hxy : ∀ c, rx = .err c -> ry = .err c) : OwnAt (kitIf W0 (∃ y, ry = .ok y)) 63 w.heap.size w' v X := by
 refine own_if hO ?_
 rintro ⟨y, rfl⟩
 cases rx with
 | ok xs => exact hp.1
 | err c => have := hxy c rfl; cases this
theorem ex_if {W0 w w' : World} {m : Fm} {v : EV} {ry : Fd Ex} {base : Nat} (h : ExFact W0 w w' m v ry) (hb : base <= w.heap.size) {u : Value} (hu : ∀ b, u.ownBlock = some b -> b < w.heap.size) :
  (kitIf W0 (∃ y, ry = .ok y)).ok w' v /\ (∀ b, (kitIf W0 (∃ y, ry = .ok y)).uses v b -> base <= b) /\ ∀ b, (kitIf W0 (∃ y, ry = .ok y)).uses v b -> u.ownBlock ≠ some b := by
 refine ⟨?_, ?_, ?_⟩
 ·
  rintro ⟨y, rfl⟩
  exact h.2.2.2.1
 ·
  rintro b ⟨⟨y, rfl⟩, h1, _⟩
  have := h.2.1
  omega
 rintro b ⟨⟨y, rfl⟩, h1, _⟩ e
 have := h.2.1
 have := hu b e
 omega
theorem step_x {K : Kit EV} (hK : K.k = 9) {base : Nat} {ops : Array Oper} {o : Oper} {act : Act} {KK : Act -> World -> Prop} {Q : Exit -> Act -> World -> Prop} {E : Prop} {w : World} (hgd : o.guard = none) (s y : Operand)
  (ho : o.op = .call { callee := .builtin .append, args := #[s, y], argTypes := #[61, 61] })
  {v : Value} {X : List EV} (hO : OwnAt K 63 base w v X) (x : EV) (cs : Array Value) (hcs : cs.toList = K.cells x) (hx : K.ok w x) (hfrom : ∀ b, K.uses x b -> base <= b) (hap : ∀ b, K.uses x b -> v.ownBlock ≠ some b)
  (hs : act.eval s = v) (hy : act.eval y = .slice (some ⟨w.heap.size, 0, none⟩) 1 1) (hb : X.length + 1 <= 1048580) (hbase : base <= w.heap.size)
  (h : ∀ v' w', OwnAt K 63 base w' v' (X ++ [x]) -> w.grownBy w' v.ownBlock -> KK (act.put o.dst v') w') :
  if Region.wanted o (yielded ops act.tmps) = true then Oper.wp Tryd.prog o act (w.alloc (.cells cs 63)) KK Q else E := by
 obtain ⟨i, z, hi, hz, hzs, hsize, hby⟩ := infoExpr_parts
 exact step_own hgd s y ho Tryd.underlying61 hi hz (by rw [hsize, hK]) hby (by rw [hzs, hK]) (by rw [hK]; decide) hO x cs hcs hx hfrom hap hs hy ⟨by omega, by unfold maxLen; omega⟩ hbase h
theorem let_fin {W0 w wn w1 w2 w3 w4 w5 w' : World} {m : Fm} {r0 : Fd (List ByteArray)} {rx : Fd (List Ex)} {ry : Fd Ex} {nA A5 : Option Addr} {nc N c5 : Nat} {ss : List ByteArray} {v : EV} {v2 : Value} {X : List EV} (h : zx W0 w m 0)
  (hbn : Below w.heap.size w wn) (hwn : w.heap.size < wn.heap.size) (hg1 : wn.grownBy w1 (some m.F)) (hp : NmFact W0 wn w1 m wn.heap.size w1.heap.size nA nc ss r0) (h0x : ∀ c, r0 = .err c -> rx = .err c)
  (hg2 : w1.grownBy w2 (some m.F)) (hO2 : OwnAt kitAny 63 w1.heap.size w2 v2 X) (hx : XsFact W0 w1 w2 m v2 X rx) (hxy : ∀ c, rx = .err c -> ry = .err c)
  (hb3 : Below w2.heap.size w2 w3) (hg4 : w3.grownBy w4 (some m.F)) (hy : ExFact W0 w3 w4 m v ry)
  (hO5 : OwnAt (kitIf W0 (∃ y, ry = .ok y)) 63 w1.heap.size w5 (.slice A5 (N + 1) c5) (X ++ [v])) (hN : X.length = N) (hg5 : w4.grownBy w5 v2.ownBlock) (h2 : w5.grownBy w' (some w.heap.size)) :
  ExPost W0 w m (mapF (fun y => Ex.mk 5 dt0 ⟨#[]⟩ 0 ss (X.map (·.t) ++ [y])) ry) (.returned (.agg #[.int .i64 5, .int .i64 0, .int .i64 0, .string ⟨#[]⟩, .slice none 0 0, .string ⟨#[]⟩, .int .i64 0, .slice nA ss.length nc, .slice A5 (N + 1) c5])) w' := by
 have hv2 : ∀ b, v2.ownBlock = some b -> w1.heap.size <= b /\ b < w2.heap.size := fun b hb => hO2.row.lt b hb
 have hs1 := hg1.size
 have hs2 := hg2.size
 have hs3 := hb3.size
 have hs4 := hg4.size
 have hs5 := hg5.size
 have hgn : w.grownBy w4 (some m.F) := ((((zb hbn _).trans hg1).trans hg2).trans (zb hb3 _)).trans hg4
 have hb5 : Below w1.heap.size w4 w5 := ⟨hg5.os, hg5.tape, hg5.output, hg5.size, fun k hk => hg5.block k (by omega) (fun e => by have := (hv2 k e.symm).1; omega)⟩
 have hb6 : Below w.heap.size w5 w' := ⟨h2.os, h2.tape, h2.output, h2.size, fun k hk => h2.block k (by have := hbn.size; omega) (fun e => by have := Option.some.inj e; omega)⟩
 cases ry with
 | ok y =>
  obtain ⟨rfl, hlo, hhi, hok, hb4⟩ := hy
  cases rx with
  | err c => have := hxy c rfl; cases this
  | ok xs =>
   obtain ⟨_, rfl, hb2⟩ := hx
   cases r0 with
   | err c => have := h0x c rfl; cases this
   | ok ns =>
    obtain ⟨rfl, hn, hb1⟩ := hp
    have hO := own_if_yes hO5 ⟨_, rfl⟩
    have hb15 : Below w1.heap.size w1 w5 := ((hb2.trans (hb3.mono hs2)).trans (hb4.mono (by omega))).trans hb5
    have hk : Keep wn.heap.size w1.heap.size w1 w5 := fun b h1 h2 h3 => hb15.block b h2
    have hw5 : Below w.heap.size w w5 := (hbn.trans (hb1.mono (by omega))).trans (hb15.mono (by have := hbn.size; omega))
    have hmap : X.map (·.t) ++ [v.t] = (X ++ [v]).map (·.t) := by simp
    have hlen : N + 1 = (X ++ [v]).length := by simp [hN]
    show GotEx W0 w (Ex.mk 5 dt0 ⟨#[]⟩ 0 ss (X.map (·.t) ++ [v.t])) _ w'
    rw [hmap]
    rw [hlen] at hO ⊢
    exact got_build (X := X ++ [v]) hO (by omega) hw5 h2 5 ⟨#[]⟩ 0 nA nc ss (hn.mono hk (by omega) (by omega) (by omega))
 | err c =>
  obtain ⟨hc, hF⟩ := hy
  obtain ⟨e1, e2⟩ := h.later hF hgn ((hb5.mono (by have := hbn.size; omega)).trans hb6)
  exact ⟨⟨5, 0, 0, ⟨#[]⟩, none, 0, 0, ⟨#[]⟩, 0, nA, ss.length, nc, A5, N + 1, c5, eC dt0, 0, 0⟩, rfl, hc, e1, e2⟩
/- Contract of (*former).let (printed by gen_formj.py). -/
set_option maxRecDepth 100000
structure ListAt (w : World) (p : Nat) (k : Int) (v : Value) : Prop where
 lt : p < w.heap.size
 c0 : w.cell? ⟨p, 0, none⟩ = some (.int .i64 k)
 c1 : w.cell? ⟨p, 1, none⟩ = some (.int .i64 0)
 c2 : w.cell? ⟨p, 2, none⟩ = some (.string ⟨#[]⟩)
 c3 : w.cell? ⟨p, 3, none⟩ = some v
 fz : ∀ j, w.frozen? ⟨p, j, none⟩ = false
theorem ListAt.kept {w w' : World} {p : Nat} {k : Int} {v : Value} (h : ListAt w p k v) (hs : w.heap.size <= w'.heap.size) (hb : w'.heap[p]? = w.heap[p]?) : ListAt w' p k v := by
 have hc : ∀ j, w'.cell? ⟨p, j, none⟩ = w.cell? ⟨p, j, none⟩ := fun j => World.cell?_of_block (a := ⟨p, j, none⟩) hb
 exact ⟨Nat.lt_of_lt_of_le h.lt hs, (hc 0).trans h.c0, (hc 1).trans h.c1, (hc 2).trans h.c2, (hc 3).trans h.c3, fun j => (World.frozen?_of_block (a := ⟨p, j, none⟩) hb).trans (h.fz j)⟩
theorem ListAt.set {w : World} {p : Nat} {k : Int} {v : Value} (h : ListAt w p k v) (u : Value) : ListAt (w.setCell ⟨p, 3, none⟩ u) p k u :=
 ⟨by simpa [World.setCell] using h.lt, zj h.c0 (by decide), zj h.c1 (by decide), zj h.c2 (by decide), zk h.c3, fun j => by simpa using h.fz j⟩
structure LetRel (W0 w w1 : World) (k : Int) (l : List Dt) (j : Nat) (vA vB : Value) (X Y : List DV) (wr : World) : Prop where
 mx : X.map (·.t) = (l.take j).map firstD
 my : Y.map (·.t) = (l.take j).map secondD
 two : (l.take j).all twoB = true
 ox : OwnAt (kitArg W0) TD (w.heap.size + 2) wr vA X
 oy : OwnAt (kitArg W0) TD (w.heap.size + 2) wr vB Y
 ne : AB.apart vA vB
 bel : Below (w.heap.size + 1) w1 wr
 at_ : ListAt wr (w.heap.size + 1) k vA
theorem LetRel.lx {W0 w w1 wr : World} {k : Int} {l : List Dt} {j : Nat} {vA vB : Value} {X Y : List DV} (h : LetRel W0 w w1 k l j vA vB X Y wr) (hj : j <= l.length) : X.length = j /\ Y.length = j := by
 have h1 := congrArg List.length h.mx
 have h2 := congrArg List.length h.my
 simp at h1 h2
 omega
theorem LetRel.start {W0 w : World} {k : Int} {l : List Dt} (w1 : World) (hw1 : w1.heap.size = w.heap.size + 1) : LetRel W0 w w1 k l 0 (.slice none 0 0) (.slice none 0 0) [] [] (w1.alloc (.cells #[.int .i64 k, .int .i64 0, .string ⟨#[]⟩, .slice none 0 0] 38)) := by
 refine ⟨rfl, rfl, rfl, OwnAt.start _ _ _ _, OwnAt.start _ _ _ _, fun g h => by simp [Value.ownBlock] at h, ?_, ?_⟩
 ·
  rw [<- hw1]; exact (Below.refl _ _).alloc (Nat.le_refl _) _
 rw [<- hw1]; exact ⟨by simp, za _ _ _ 0, za _ _ _ 1, za _ _ _ 2, za _ _ _ 3, fun j => by simp⟩
theorem own_snoc {W0 w : World} {base : Nat} {v u : Value} {X : List DV} {x : DV} (h : OwnAt (kitArg W0) TD base w v X) (hx : DtIn W0 0 W0.heap.size x.cells x.t) (hu : w.ownsRow base TD 4 u (X.length + 1) ((X.map DV.cells).flatten ++ x.cells)) : OwnAt (kitArg W0) TD base w u (X ++ [x]) := by
 refine ⟨?_, ?_, fun _ _ _ h => h.elim, fun _ _ _ h => h.elim⟩
 ·
  rw [List.map_append, List.flatten_append, List.length_append]
  simpa [kitArg] using hu
 intro y hy
 rcases List.mem_append.1 hy with hy | hy
 ·
  exact h.each y hy
 obtain rfl : y = x := by simpa using hy
 exact hx
theorem LetRel.step {W0 w w1 wr WD w2 : World} {k : Int} {l : List Dt} {j : Nat} {vA vB u v : Value} {X Y : List DV} {x y : DV} (h : LetRel W0 w w1 k l j vA vB X Y wr) (hj : j < l.length) (ht : twoB l[j] = true) (hx : x.t = firstD l[j]) (hy : y.t = secondD l[j]) (hWD : Below wr.heap.size wr WD)
  (hC : AB.C ⟨W0, w.heap.size + 2, WD, vA, vB, X, Y, x, y⟩ w2) (hS : AB.Ok ⟨W0, w.heap.size + 2, WD, vA, vB, X, Y, x, y⟩) (hA : AB.pA ⟨W0, w.heap.size + 2, WD, vA, vB, X, Y, x, y⟩ u w2) (hB : AB.pB ⟨W0, w.heap.size + 2, WD, vA, vB, X, Y, x, y⟩ v w2) (hap : AB.apart u v) :
  LetRel W0 w w1 k l (j + 1) u v (X ++ [x]) (Y ++ [y]) (w2.setCell ⟨w.heap.size + 1, 3, none⟩ u) := by
 have hlt := h.at_.lt
 have hsz : wr.heap.size <= WD.heap.size := hWD.size
 have hne : ∀ g, g < w.heap.size + 2 -> some g ≠ vA.ownBlock /\ some g ≠ vB.ownBlock := fun g hg => ⟨fun e => by have := (h.ox.row.lt g e.symm).1; omega, fun e => by have := (h.oy.row.lt g e.symm).1; omega⟩
 have hblk : ∀ g, g < w.heap.size + 2 -> w2.heap[g]? = wr.heap[g]? := fun g hg => (hC.g.block g (by show g < WD.heap.size; omega) (hne g hg).1 (hne g hg).2).trans (hWD.block g (by omega))
 have hs2 : wr.heap.size <= w2.heap.size := Nat.le_trans hsz hC.g.size
 have hb2 : Below (w.heap.size + 1) wr w2 := ⟨hC.g.os.trans hWD.os, hC.g.tape.trans hWD.tape, hC.g.output.trans hWD.output, hs2, fun g hg => hblk g (by omega)⟩
 have hset := zd w2 (w.heap.size + 1) 3 u
 exact ⟨map_step hj h.mx hx, map_step hj h.my hy, all_two_step hj h.two ht, (own_snoc hC.a hS.dx hA.1).other hset (by show w.heap.size + 1 < w.heap.size + 2; omega), (own_snoc hC.b hS.dy hB.1).other hset (by show w.heap.size + 1 < w.heap.size + 2; omega), hap,
  (h.bel.trans hb2).setCell (p := ⟨w.heap.size + 1, 3, none⟩) (Nat.le_refl _) _, (h.at_.kept hs2 (hblk _ (by omega))).set u⟩
theorem let_keep {w2 w3 w4 w5 : World} {F g : Nat} {v2 : Value} (hw2 : g < w2.heap.size) (hne : g ≠ F) (hb3 : Below w2.heap.size w2 w3) (hg4 : w3.grownBy w4 (some F)) (hv : ∀ b, v2.ownBlock = some b -> g < b) (hg5 : w4.grownBy w5 v2.ownBlock) :
  (∀ i, w5.cell? ⟨g, i, none⟩ = w2.cell? ⟨g, i, none⟩) /\ ∀ i, w5.frozen? ⟨g, i, none⟩ = w2.frozen? ⟨g, i, none⟩ := by
 have hb : w5.heap[g]? = w2.heap[g]? := ((hg5.block g (by have := hb3.size; have := hg4.size; omega) (fun e => by have := hv g e.symm; omega)).trans (hg4.block g (by have := hb3.size; omega) (fun e => hne (Option.some.inj e)))).trans (hb3.block g hw2)
 exact ⟨fun i => World.cell?_of_block (a := ⟨g, i, none⟩) hb, fun i => World.frozen?_of_block (a := ⟨g, i, none⟩) hb⟩
set_option maxHeartbeats 8000000 in
theorem let_any {W0 : World} {m : Fm} {n : Nat} {rec : List ByteArray -> Dt -> Fd Ex} (he : ExprSays W0 m n rec) : LetSays W0 m n rec := by
 intro w A cap l B bc ls h hl hgd hn hsc hls
 have H := Lib.hid h
 have HE := Lib.hid he
 have HSC := Lib.hid hsc
 have HL := Lib.hid hl
 have HGD := Lib.hid hgd
 have hlt := h.lt
 have hne := World.new_ne w _ h.c0
 have hbc := hsc.le
 have hcap := hl.le
 have hcapm := hl.cap_
 unfold maxLen at hcapm
 by_cases h2 : l.length < 2
 ·
  rw [let_few h2]
  clear h hl he hgd hsc
  go_enter Tryd.func79, Tryd.ntmps79
  go_wp2_with fail
  refine (ze (H.out.next ((Below.refl _ _).alloc (Nat.le_refl _) _)) 10).mono ?_
  rintro e w2 ⟨rfl, hF, hg⟩
  obtain ⟨g1, g2⟩ := gcell hg
  have HF := Lib.hid hF
  have HG := Lib.hid hg
  clear hF hg
  unfold evz EV.agg
  have hsz : w.heap.size < w2.heap.size := Nat.lt_of_lt_of_le (by simp) HG.out.size
  go_wp2_with fail
  exact bodyPost_ret (v := evz.agg) (by simp [results, Tryd.results79, go_sem, evz, EV.agg, g1, hne]) rfl (zo H.out HF.out HG.out (by decide) evz (za1 _ _ _ _ _ _ _ _ _ _ _))
 obtain ⟨d, rest, hr1, rfl⟩ : ∃ d rest, 1 <= rest.length /\ l = d :: rest := by
  match l, h2 with
  | [], h2 => simp at h2
  | [_], h2 => simp at h2
  | d :: b0 :: m0, _ => exact ⟨d, b0 :: m0, by simp, rfl⟩
 have HR1 := Lib.hid hr1
 obtain ⟨b, o, A', c', rfl, hbw, hbF, d0, d1, d2, d3, hd, hi, ht⟩ := HL.out.first H.out.below H.out.ge
 have HI := Lib.hid hi
 have HT := Lib.hid ht
 have HGR := Lib.hid (show ∀ x ∈ rest, Good n x from fun x hx => HGD.out x (List.mem_cons_of_mem _ hx))
 have HGI := Lib.hid (show ∀ x ∈ d.l, Good n x from fun x hx => (HGD.out d (List.mem_cons_self ..)).low hx)
 have HNI := Lib.hid (HGD.out d (List.mem_cons_self ..)).len
 obtain ⟨N, hN⟩ : ∃ N, (d :: rest).length = N := ⟨_, rfl⟩
 have HN := Lib.hid (show rest.length = N - 1 by rw [<- hN, List.length_cons]; rfl)
 rw [hN] at hn hcap h2 ⊢
 have hN2 : 2 <= N := by omega
 obtain ⟨r, hr⟩ : ∃ r, letF rec ls (d :: rest) = r := ⟨_, rfl⟩
 have HR := Lib.hid hr
 rw [hr]
 obtain ⟨M, hM⟩ : ∃ M, d.l.length = M := ⟨_, rfl⟩
 have HM := Lib.hid hM
 rw [hM] at d3
 have hMs : M <= 1048576 := by rw [<- hM]; exact HNI.out
 have hMc : M <= c' := by rw [<- hM]; exact HI.out.le
 have hcap1 : ¬ cap = 1 := by omega
 have hi1 : (1 : Int) <= (N : Int) := by omega
 have hi2 : (N : Int) <= (cap : Int) := by omega
 have hi3 : IntKind.i64.wrap 1 = 1 := IntWalk.i64_in _ (by omega)
 have hneB : w.heap.size ≠ b := by omega
 have hneF : w.heap.size + 1 ≠ m.F := by omega
 obtain ⟨K, hK⟩ : ∃ K, d.k = K := ⟨_, rfl⟩
 have HK := Lib.hid hK
 rw [hK] at d0
 clear h hl he hgd hsc hd hi ht hN hr hr1 hM hK
 go_enter Tryd.func79, Tryd.ntmps79
 go_wp2_with fail
 go_loopg [8, 28] M (fun g vB i wr => ∃ (j : Nat) (vA vb : Value) (X Y : List DV), vb = vB /\ g = M - j /\ j <= M /\ i = .int .i64 j /\ LetRel W0 w (w.alloc (.cells #[.int .i64 0, .int .i64 0, .int .i64 0, .string ⟨#[]⟩, .slice none 0 0, .string ⟨#[]⟩, .int .i64 0, .slice none 0 0, .slice none 0 0] 63)) K d.l j vA vb X Y wr)
 case atStart => exact ⟨0, _, _, [], [], rfl, by omega, by omega, rfl, LetRel.start _ (by simp)⟩
 obtain ⟨j, vA, vB, X, Y, rfl, hg, hj, rfl, hL⟩ := hrel
 have HG := Lib.hid hg
 have HLR := Lib.hid hL
 have hj0 : (0 : Int) <= (j : Int) := Int.natCast_nonneg _
 clear hg hL
 by_cases hlt2 : j < M
 ·
  have hlt3 : (j : Int) < (M : Int) := by omega
  obtain ⟨e, hje⟩ : ∃ e, d.l[j]'(by rw [HM.out]; exact hlt2) = e := ⟨_, rfl⟩
  have HJE := Lib.hid hje
  have hbr : Below w.heap.size w wr := ((Below.refl _ _).alloc (Nat.le_refl _) _).trans (HLR.out.bel.mono (Nat.le_succ _))
  have hwr : w.heap.size + 1 < wr.heap.size := HLR.out.at_.lt
  have HBR := Lib.hid hbr
  have HF := Lib.hid (H.out.next hbr)
  obtain ⟨bI, oI, rfl, hbI, hbIF, cs, hrow, hde⟩ := HI.out.nth j (by rw [HM.out]; exact hlt2)
  rw [hje] at hde
  obtain ⟨A2, c2, rfl, hie⟩ := hde.items H.out.below H.out.ge
  have HIE := Lib.hid hie
  have HGE := Lib.hid (show Good n e by rw [<- hje]; exact HGI.out _ (List.getElem_mem _))
  have c0 : wr.cell? ⟨bI, oI + j * 4, none⟩ = some (.int .i64 e.k) := (hbr.cell (p := ⟨bI, oI + j * 4, none⟩) hbI).trans (hrow 0 (by simp))
  have c1 : wr.cell? ⟨bI, oI + j * 4 + 1, none⟩ = some (.int .i64 e.n) := (hbr.cell (p := ⟨bI, oI + j * 4 + 1, none⟩) hbI).trans (hrow 1 (by simp))
  have c2' : wr.cell? ⟨bI, oI + j * 4 + 2, none⟩ = some (.string e.s) := (hbr.cell (p := ⟨bI, oI + j * 4 + 2, none⟩) hbI).trans (hrow 2 (by simp))
  have c3 : wr.cell? ⟨bI, oI + j * 4 + 3, none⟩ = some (.slice A2 e.l.length c2) := (hbr.cell (p := ⟨bI, oI + j * 4 + 3, none⟩) hbI).trans (hrow 3 (by simp))
  have R : ∀ i, wr.cell? ⟨w.heap.size, i, none⟩ = (w.alloc (.cells #[.int .i64 0, .int .i64 0, .int .i64 0, .string ⟨#[]⟩, .slice none 0 0, .string ⟨#[]⟩, .int .i64 0, .slice none 0 0, .slice none 0 0] 63)).cell? ⟨w.heap.size, i, none⟩ := fun i => HLR.out.bel.cell (p := ⟨w.heap.size, i, none⟩) (Nat.lt_succ_self _)
  have RF : ∀ i, wr.frozen? ⟨w.heap.size, i, none⟩ = (w.alloc (.cells #[.int .i64 0, .int .i64 0, .int .i64 0, .string ⟨#[]⟩, .slice none 0 0, .string ⟨#[]⟩, .int .i64 0, .slice none 0 0, .slice none 0 0] 63)).frozen? ⟨w.heap.size, i, none⟩ := fun i => HLR.out.bel.frozen (p := ⟨w.heap.size, i, none⟩) (Nat.lt_succ_self _)
  have hrs : w.heap.size < wr.heap.size := by omega
  obtain ⟨E, hE⟩ : ∃ E, e.l.length = E := ⟨_, rfl⟩
  have HEL := Lib.hid hE
  rw [hE] at c3
  have hE0 : (0 : Int) <= (E : Int) := Int.natCast_nonneg _
  obtain ⟨ek, hek⟩ : ∃ ek, e.k = ek := ⟨_, rfl⟩
  have HEK := Lib.hid hek
  rw [hek] at c0
  clear hrow hde hie hje hE hek hbr
  by_cases hk4 : ek = 4
  ·
   by_cases hl2 : E = 2
   ·
    subst hl2 hk4
    have HT2 := Lib.hid (show twoB e = true by unfold twoB; rw [HEK.out, HEL.out]; rfl)
    obtain ⟨x, y, hxy, hfx, hsy⟩ := (two_view HT2.out).2
    obtain ⟨bE, oE, rfl, hbE, hbEF, hce⟩ := HIE.out.at_ (by rw [HEL.out]; decide)
    obtain ⟨csx, rowx, dx⟩ := hce 0 (by rw [HEL.out]; decide)
    obtain ⟨csy, rowy, dy⟩ := hce 1 (by rw [HEL.out]; decide)
    rw [show e.l[0]'(by rw [HEL.out]; decide) = x by simp [hxy]] at dx
    rw [show e.l[1]'(by rw [HEL.out]; decide) = y by simp [hxy]] at dy
    obtain ⟨xv, rfl, hxt, hdx⟩ := kitArg_view dx
    obtain ⟨yv, rfl, hyt, hdy⟩ := kitArg_view dy
    have HXT := Lib.hid (hxt.trans hfx.symm)
    have HYT := Lib.hid (hyt.trans hsy.symm)
    have HDX := Lib.hid hdx
    have HDY := Lib.hid hdy
    have HRX := Lib.hid rowx
    have HRY := Lib.hid rowy
    have HLX := Lib.hid (HLR.out.lx (by rw [HM.out]; omega))
    obtain ⟨Aa, ca, rfl, hca1, hca2, _⟩ := HLR.out.ox.form
    clear hce rowx rowy dx dy hxt hyt hdx hdy hxy hfx hsy
    go_upto_region 10 with fail
    obtain ⟨W, hW⟩ : ∃ W, W = wr.alloc (.cells #[.int .i64 4, .int .i64 e.n, .string e.s, .slice (some ⟨bE, oE, none⟩) 2 c2] 38) := ⟨_, rfl⟩
    rw [<- hW]
    have hbW : Below wr.heap.size wr W := by rw [hW]; exact ((Below.refl _ _).alloc (Nat.le_refl _) _)
    have hsW : W.heap.size = wr.heap.size + 1 := by rw [hW]; simp
    have hcW : W.cell? ⟨wr.heap.size, 3, none⟩ = some (.slice (some ⟨bE, oE, none⟩) 2 c2) := by rw [hW]; exact za _ _ _ 3
    have hbD : Below wr.heap.size wr W.drew := hbW.drew
    have hsD : W.drew.heap.size = wr.heap.size + 1 := hsW
    have HOX := Lib.hid (HLR.out.ox.new hbD)
    have HOY := Lib.hid (HLR.out.oy.new hbD)
    have hla : ∀ g, (Value.slice Aa X.length ca).ownBlock = some g -> w.heap.size + 2 <= g /\ g < wr.heap.size := fun g hg => HLR.out.ox.row.lt g hg
    have hlb : ∀ g, vB.ownBlock = some g -> w.heap.size + 2 <= g /\ g < wr.heap.size := fun g hg => HLR.out.oy.row.lt g hg
    have hoff : ∀ g, g < w.heap.size + 2 \/ wr.heap.size <= g -> some g ≠ (Value.slice Aa X.length ca).ownBlock /\ some g ≠ vB.ownBlock := fun g hg => ⟨fun e => (by have := hla g e.symm; omega), fun e => (by have := hlb g e.symm; omega)⟩
    have HS := Lib.hid (show AB.Ok (AB.mk W0 (w.heap.size + 2) W.drew (.slice Aa X.length ca) vB X Y xv yv) from
     ⟨fun g hg => (by have := hla g hg; show g < W.drew.heap.size; omega), fun g hg => (by have := hlb g hg; show g < W.drew.heap.size; omega), HLR.out.ne, HDX.out, HDY.out, (by have := HLX.out.1; show (X.length + 1) * 56 <= _ /\ X.length + 1 <= maxLen; unfold maxLen; omega), (by have := HLX.out.2; show (Y.length + 1) * 56 <= _ /\ Y.length + 1 <= maxLen; unfold maxLen; omega), (by show w.heap.size + 2 <= W.drew.heap.size; omega)⟩)
    have HC := Lib.hid (show AB.C (AB.mk W0 (w.heap.size + 2) W.drew (.slice Aa X.length ca) vB X Y xv yv) W.drew from ⟨⟨rfl, rfl, rfl, Nat.le_refl _, fun _ _ _ _ => rfl⟩, HOX.out, HOY.out⟩)
    have hbwD : Below w.heap.size w W.drew := HBR.out.trans (hbD.mono (by omega))
    have LT := Lib.hid (show w.heap.size + 1 < W.drew.heap.size /\ W.drew.cell? ⟨w.heap.size + 1, 3, none⟩ = some (.slice Aa X.length ca) from ⟨by omega, (hbD.cell (p := ⟨w.heap.size + 1, 3, none⟩) hwr).trans HLR.out.at_.c3⟩)
    have QT := Lib.hid (show wr.heap.size < W.drew.heap.size /\ W.drew.cell? ⟨wr.heap.size, 3, none⟩ = some (.slice (some ⟨bE, oE, none⟩) 2 c2) from ⟨by omega, hcW⟩)
    have ET := Lib.hid (show bE < W.drew.heap.size by omega)
    have RX := Lib.hid (show RowAt W.drew bE oE xv.cells by have := HRX.out.below hbwD hbE; simpa using this)
    have RY := Lib.hid (show RowAt W.drew bE (oE + 4) yv.cells by have := HRY.out.below hbwD hbE; simpa using this)
    have NP := Lib.hid (hoff (w.heap.size + 1) (by omega))
    have NQ := Lib.hid (hoff wr.heap.size (by omega))
    have NE := Lib.hid (hoff bE (by omega))
    have HW := Lib.hid hW
    clear hbW hsW hcW hbD hsD hla hlb hoff hbwD hW
    refine region_tailP (n := 16) (g := 2) (C := AB.C (AB.mk W0 (w.heap.size + 2) W.drew (.slice Aa X.length ca) vB X Y xv yv)) (R := AB.R (AB.mk W0 (w.heap.size + 2) W.drew (.slice Aa X.length ca) vB X Y xv yv)) (S := AB.S (AB.mk W0 (w.heap.size + 2) W.drew (.slice Aa X.length ca) vB X Y xv yv))
     (FX := [(7, .pointer (some ⟨w.heap.size + 1, 0, none⟩)), (8, vB), (10, .pointer (some ⟨wr.heap.size, 0, none⟩))])
     (sz := 79)
     [(pVal (.pointer (some ⟨w.heap.size + 1, 3, none⟩))),
      (pVal (.slice Aa X.length ca)),
      (pVal (.pointer (some ⟨wr.heap.size, 3, none⟩))),
      (pVal (.slice (some ⟨bE, oE, none⟩) 2 c2)),
      (pVal (.pointer (some ⟨bE, oE, none⟩))),
      (pVal (.agg #[.int .i64 xv.k, .int .i64 xv.n, .string xv.s, .slice xv.A xv.len xv.cap])),
      ((AB.mk W0 (w.heap.size + 2) W.drew (.slice Aa X.length ca) vB X Y xv yv).pLit xv.cells),
      (AB.mk W0 (w.heap.size + 2) W.drew (.slice Aa X.length ca) vB X Y xv yv).pA,
      (pVal vB),
      (pVal (.pointer (some ⟨wr.heap.size, 3, none⟩))),
      (pVal (.slice (some ⟨bE, oE, none⟩) 2 c2)),
      (pVal (.pointer (some ⟨bE, oE + 4, none⟩))),
      (pVal (.agg #[.int .i64 yv.k, .int .i64 yv.n, .string yv.s, .slice yv.A yv.len yv.cap])),
      ((AB.mk W0 (w.heap.size + 2) W.drew (.slice Aa X.length ca) vB X Y xv yv).pLit yv.cells),
      (AB.mk W0 (w.heap.size + 2) W.drew (.slice Aa X.length ca) vB X Y xv yv).pB,
      (pVal (.pointer (some ⟨w.heap.size + 1, 3, none⟩)))]
     (by kernel_rfl) rfl (by decide) (by kernel_rfl) (by kernel_rfl) (by kernel_rfl) (by kernel_rfl)
     (.cons (AB.pVal_st _) (.cons (AB.pVal_st _) (.cons (AB.pVal_st _) (.cons (AB.pVal_st _) (.cons (AB.pVal_st _) (.cons (AB.pVal_st _) (.cons (AB.pLit_st _) (.cons AB.pA_st (.cons (AB.pVal_st _) (.cons (AB.pVal_st _) (.cons (AB.pVal_st _) (.cons (AB.pVal_st _) (.cons (AB.pVal_st _) (.cons (AB.pLit_st _) (.cons AB.pB_st (.cons (AB.pVal_st _) (.nil)))))))))))))))))
     (
       (.cons (OpOk.two (ok_fld3 rfl (of_fixed (by simp))) (AB.S_else (by decide) (by decide)))
       (.cons (OpOk.two (ok_ldR rfl (of_dep' ⟨0, .data⟩ (by simp) rfl _ rfl rfl) LT.out.1 NP.out.1 NP.out.2 LT.out.2) (AB.S_else (by decide) (by decide)))
       (.cons (OpOk.two (ok_fld3 rfl (of_fixed (by simp))) (AB.S_else (by decide) (by decide)))
       (.cons (OpOk.two (ok_ldR rfl (of_dep' ⟨2, .data⟩ (by simp) rfl _ rfl rfl) QT.out.1 NQ.out.1 NQ.out.2 QT.out.2) (AB.S_else (by decide) (by decide)))
       (.cons (OpOk.two (ok_idx0 rfl (of_dep' ⟨3, .data⟩ (by simp) rfl _ rfl rfl)) (AB.S_else (by decide) (by decide)))
       (.cons (OpOk.two (ok_ldD rfl (of_dep' ⟨4, .data⟩ (by simp) rfl _ rfl rfl) ET.out NE.out.1 NE.out.2 RX.out) (AB.S_else (by decide) (by decide)))
       (.cons (OpOk.two (ok_litD HS.out rfl (of_dep' ⟨5, .data⟩ (by simp) rfl _ rfl rfl)) (AB.S_else (by decide) (by decide)))
       (.cons (ok_appA HS.out ⟨_, rfl⟩ rfl (of_dep' ⟨1, .data⟩ (by simp) rfl _ rfl rfl) (of_dep' ⟨6, .data⟩ (by simp) rfl _ rfl rfl))
       (.cons (OpOk.two (ok_movU rfl (of_fixed (by simp))) (AB.S_else (by decide) (by decide)))
       (.cons (OpOk.two (ok_fld3 rfl (of_fixed (by simp))) (AB.S_else (by decide) (by decide)))
       (.cons (OpOk.two (ok_ldR rfl (of_dep' ⟨9, .data⟩ (by simp) rfl _ rfl rfl) QT.out.1 NQ.out.1 NQ.out.2 QT.out.2) (AB.S_else (by decide) (by decide)))
       (.cons (OpOk.two (ok_idx1 rfl (of_dep' ⟨10, .data⟩ (by simp) rfl _ rfl rfl)) (AB.S_else (by decide) (by decide)))
       (.cons (OpOk.two (ok_ldD rfl (of_dep' ⟨11, .data⟩ (by simp) rfl _ rfl rfl) ET.out NE.out.1 NE.out.2 RY.out) (AB.S_else (by decide) (by decide)))
       (.cons (OpOk.two (ok_litD HS.out rfl (of_dep' ⟨12, .data⟩ (by simp) rfl _ rfl rfl)) (AB.S_else (by decide) (by decide)))
       (.cons (ok_appB HS.out ⟨_, rfl⟩ rfl (of_dep' ⟨8, .data⟩ (by simp) rfl _ rfl rfl) (of_dep' ⟨13, .data⟩ (by simp) rfl _ rfl rfl))
       (.cons (OpOk.two (ok_fld3 rfl (of_fixed (by simp))) (AB.S_else (by decide) (by decide))) .nil)))))))))))))))))
     HC.out rfl rfl
     (by intro p hp; simp only [List.mem_cons, List.not_mem_nil, or_false] at hp; rcases hp with rfl | rfl | rfl <;> rfl) ?_
    intro f w2 hC2 hend2 hpair2
    have e50 := hend2 7 _ _ 50 rfl rfl rfl
    have e57 := hend2 14 _ _ 57 rfl rfl rfl
    have e58 : f 58 = .pointer (some ⟨w.heap.size + 1, 3, none⟩) := hend2 15 _ _ 58 rfl rfl rfl
    have hap := (hpair2 7 14 _ _ 50 57 (by decide) rfl rfl rfl rfl).1 ⟨rfl, rfl⟩
    clear hend2 hpair2
    have m3 : w2.cell? ⟨w.heap.size + 1, 3, none⟩ = some (.slice Aa X.length ca) := hC2.cell LT.out.1 NP.out.1 NP.out.2 LT.out.2
    have mf : w2.frozen? ⟨w.heap.size + 1, 3, none⟩ = false := (World.frozen?_of_block (a := ⟨w.heap.size + 1, 3, none⟩) (hC2.g.block _ LT.out.1 NP.out.1 NP.out.2)).trans (by rw [HW.out]; have h0 := HLR.out.at_.fz 3; have h1 := ((Below.refl wr.heap.size wr).alloc (Nat.le_refl _) (.cells #[.int .i64 4, .int .i64 e.n, .string e.s, .slice (some ⟨bE, oE, none⟩) 2 c2] 38)).drew.frozen (p := ⟨w.heap.size + 1, 3, none⟩) hwr; exact h1.trans h0)
    have HSTEP := Lib.hid (LetRel.step HLR.out (by rw [HM.out]; exact hlt2) (by rw [HJE.out]; exact HT2.out) (by rw [HJE.out]; exact HXT.out) (by rw [HJE.out]; exact HYT.out) (by rw [HW.out]; exact (((Below.refl _ _).alloc (Nat.le_refl _) _) : Below wr.heap.size wr _).drew) hC2 HS.out e50 e57 hap)
    obtain ⟨A5, c5, h5, h5a, h5b, _⟩ := (own_snoc hC2.a HS.out.dx e50.1).form
    obtain ⟨A7, c7, h7, h7a, h7b, _⟩ := (own_snoc hC2.b HS.out.dy e57.1).form
    replace h5 : f 50 = .slice A5 (X.length + 1) c5 := by rw [h5]; congr 1; simp
    replace h7 : f 57 = .slice A7 (Y.length + 1) c7 := by rw [h7]; congr 1; simp
    rw [h5, h7] at HSTEP
    clear e50 e57 hap hC2
    simp only [List.take_succ_cons, List.take_zero, List.drop_succ_cons, List.drop_zero, List.filterMap_cons, List.filterMap_nil, putAll, h5, h7, e58]
    go_wp2_with fail
    go_roundg (M - (j + 1))
    case measure => have := HG.out; omega
    case rel => exact ⟨j + 1, _, _, X ++ [xv], Y ++ [yv], rfl, by omega, by omega, by go_num, HSTEP.out⟩
   have hk5 : (ek != 4) = false := by simpa using hk4
   have hl5 : ((E : Int) != 2) = true := by simp; omega
   obtain rfl : r = .err 4 := by
    rw [<- HR.out]
    exact let_form HR1.out (all_two_no (j := j) (by rw [HM.out]; exact hlt2) (by rw [HJE.out]; unfold twoB; rw [HEK.out, HEL.out]; simp; omega))
   clear hl2
   go_wp2_with fail
   refine (ze (HF.out.next ((Below.refl _ _).alloc (Nat.le_refl _) _)) 4).mono ?_
   rintro e w2 ⟨rfl, hF, hg⟩
   obtain ⟨g1, g2⟩ := gcell hg
   have HF := Lib.hid hF
   have HG := Lib.hid hg
   clear hF hg
   unfold evz EV.agg
   have hsz : w.heap.size < w2.heap.size := by have := HG.out.size; simp at this; omega
   have R2 : ∀ i, w2.cell? ⟨w.heap.size, i, none⟩ = (w.alloc (.cells #[.int .i64 0, .int .i64 0, .int .i64 0, .string ⟨#[]⟩, .slice none 0 0, .string ⟨#[]⟩, .int .i64 0, .slice none 0 0, .slice none 0 0] 63)).cell? ⟨w.heap.size, i, none⟩ := fun i => (g1 _ i (by simp; omega) hne).trans ((World.cell?_alloc_lt _ _ ⟨w.heap.size, i, none⟩ hrs).trans (R i))
   go_wp2_with fail
   exact bodyPost_ret (v := evz.agg) (by simp [results, Tryd.results79, go_sem, evz, EV.agg, R2]) rfl (bad_late H.out HF.out (HBR.out.alloc HBR.out.size _) HG.out (by decide) evz (za1 _ _ _ _ _ _ _ _ _ _ _))
  have hk5 : (ek != 4) = true := by simpa using hk4
  obtain rfl : r = .err 4 := by
   rw [<- HR.out]
   exact let_form HR1.out (all_two_no (j := j) (by rw [HM.out]; exact hlt2) (by rw [HJE.out]; unfold twoB; rw [HEK.out, HEL.out]; simp; omega))
  clear hk4
  go_wp2_with fail
  refine (ze (HF.out.next ((Below.refl _ _).alloc (Nat.le_refl _) _)) 4).mono ?_
  rintro e w2 ⟨rfl, hF, hg⟩
  obtain ⟨g1, g2⟩ := gcell hg
  have HF := Lib.hid hF
  have HG := Lib.hid hg
  clear hF hg
  unfold evz EV.agg
  have hsz : w.heap.size < w2.heap.size := by have := HG.out.size; simp at this; omega
  have R2 : ∀ i, w2.cell? ⟨w.heap.size, i, none⟩ = (w.alloc (.cells #[.int .i64 0, .int .i64 0, .int .i64 0, .string ⟨#[]⟩, .slice none 0 0, .string ⟨#[]⟩, .int .i64 0, .slice none 0 0, .slice none 0 0] 63)).cell? ⟨w.heap.size, i, none⟩ := fun i => (g1 _ i (by simp; omega) hne).trans ((World.cell?_alloc_lt _ _ ⟨w.heap.size, i, none⟩ hrs).trans (R i))
  go_wp2_with fail
  exact bodyPost_ret (v := evz.agg) (by simp [results, Tryd.results79, go_sem, evz, EV.agg, R2]) rfl (bad_late H.out HF.out (HBR.out.alloc HBR.out.size _) HG.out (by decide) evz (za1 _ _ _ _ _ _ _ _ _ _ _))
 obtain rfl : j = M := by omega
 have HLR2 := HLR.out
 obtain ⟨l1, hl1⟩ : ∃ l1, d.l.map firstD = l1 := ⟨_, rfl⟩
 obtain ⟨l2, hl2⟩ : ∃ l2, d.l.map secondD = l2 := ⟨_, rfl⟩
 have htk : d.l.take j = d.l := List.take_of_length_le (by rw [HM.out]; exact Nat.le_refl _)
 have hmx := HLR2.mx
 have hmy := HLR2.my
 have htwo := HLR2.two
 rw [htk] at hmx hmy htwo
 rw [hl1] at hmx
 rw [hl2] at hmy
 have HALL := Lib.hid (let_eq (rec := rec) (ls := ls) HR1.out htwo)
 obtain ⟨hgo1, hgo2⟩ := first_good HGI.out htwo
 rw [hl1] at hgo1
 rw [hl2] at hgo2
 obtain ⟨hXl, hYl⟩ := HLR2.lx (by rw [HM.out]; exact Nat.le_refl _)
 obtain ⟨Aa, ca, rfl, hDA⟩ := HLR2.ox.dsAt (F := m.F) (by omega)
 obtain ⟨Ab, cb, rfl, hDB⟩ := HLR2.oy.dsAt (F := m.F) (by omega)
 rw [hmx] at hDA
 rw [hmy] at hDB
 have hn1 : l1.length = j := by rw [<- hl1, List.length_map, HM.out]
 have hn2 : l2.length = j := by rw [<- hl2, List.length_map, HM.out]
 rw [hXl] at HLR HLR2
 rw [hYl] at HLR HLR2 ⊢
 have hat := HLR2.at_
 have p0 := hat.c0
 have p1 := hat.c1
 have p2 := hat.c2
 have p3 := hat.c3
 have hplt := hat.lt
 have hbr : Below w.heap.size w wr := ((Below.refl _ _).alloc (Nat.le_refl _) _).trans (HLR2.bel.mono (Nat.le_succ _))
 have hwr : w.heap.size < wr.heap.size := by omega
 have R : ∀ i, wr.cell? ⟨w.heap.size, i, none⟩ = (w.alloc (.cells #[.int .i64 0, .int .i64 0, .int .i64 0, .string ⟨#[]⟩, .slice none 0 0, .string ⟨#[]⟩, .int .i64 0, .slice none 0 0, .slice none 0 0] 63)).cell? ⟨w.heap.size, i, none⟩ := fun i => HLR2.bel.cell (p := ⟨w.heap.size, i, none⟩) (Nat.lt_succ_self _)
 have RF : ∀ i, wr.frozen? ⟨w.heap.size, i, none⟩ = (w.alloc (.cells #[.int .i64 0, .int .i64 0, .int .i64 0, .string ⟨#[]⟩, .slice none 0 0, .string ⟨#[]⟩, .int .i64 0, .slice none 0 0, .slice none 0 0] 63)).frozen? ⟨w.heap.size, i, none⟩ := fun i => HLR2.bel.frozen (p := ⟨w.heap.size, i, none⟩) (Nat.lt_succ_self _)
 obtain ⟨r0, hr0⟩ : ∃ r0, boundF K l1 = r0 := ⟨_, rfl⟩
 have hls1 : ∀ x ∈ l1, x.s.size <= maxLen := fun x hx => (hgo1 x hx).wide
 have HNM := Lib.hid (names_two (H.out.next hbr) K 0 ⟨#[]⟩ Aa ca l1 hDA hls1 hr0)
 rw [hn1] at HNM
 have HR0 := Lib.hid hr0
 have HBR := Lib.hid hbr
 have HD := Lib.hid hDB
 have HGO := Lib.hid hgo2
 have HN2 := Lib.hid hn2
 have HL1 := Lib.hid hl1
 have HL2 := Lib.hid hl2
 have HRR := Lib.hid (And.intro R RF)
 clear HLR2 htk hmx hmy htwo hgo1 hDA hn1 hat hbr hr0 hls1 R RF hDB hgo2 hn2 hXl hYl hl1 hl2
 go_wp2_with fail
 refine HNM.out.mono ?_
 rintro e w1 ⟨nA, nc, ss, rfl, hsc1, hss, hg1, hp1⟩
 obtain ⟨rx, htw1, h0x, hre1⟩ := let_names (rec := rec) (ls := ls) (l2 := l2) (rest := rest) (H.out.next HBR.out) hp1
 have HG1 := Lib.hid hg1
 have HP1 := Lib.hid hp1
 have HSC1 := Lib.hid hsc1
 have HSS := Lib.hid hss
 have H0X := Lib.hid h0x
 have HRE1 := Lib.hid hre1
 have HTW1 := Lib.hid htw1
 have HEX := Lib.hid (exprs_let HE.out Ab cb l2 (HD.out.grown hg1) HGO.out (by rw [HN2.out]; omega) B bc ls ((HSC.out.below HBR.out).grown hg1) hls htw1)
 rw [HN2.out] at HEX
 have hw1 : w.heap.size < w1.heap.size := Nat.lt_of_lt_of_le hwr hg1.size
 have R1 : ∀ i, w1.cell? ⟨w.heap.size, i, none⟩ = (w.alloc (.cells #[.int .i64 0, .int .i64 0, .int .i64 0, .string ⟨#[]⟩, .slice none 0 0, .string ⟨#[]⟩, .int .i64 0, .slice none 0 0, .slice none 0 0] 63)).cell? ⟨w.heap.size, i, none⟩ := fun i => ((gcell hg1).1 _ i hwr hne).trans (HRR.out.1 i)
 have RF1 : ∀ i, w1.frozen? ⟨w.heap.size, i, none⟩ = (w.alloc (.cells #[.int .i64 0, .int .i64 0, .int .i64 0, .string ⟨#[]⟩, .slice none 0 0, .string ⟨#[]⟩, .int .i64 0, .slice none 0 0, .slice none 0 0] 63)).frozen? ⟨w.heap.size, i, none⟩ := fun i => ((gcell hg1).2 _ i hwr hne).trans (HRR.out.2 i)
 have HRR1 := Lib.hid (And.intro R1 RF1)
 clear hsc1 hg1 hp1 htw1 h0x hre1 R1 RF1
 go_wp2_with fail
 refine HEX.out.mono ?_
 rintro e w2 ⟨v2, X2, rfl, hX2, hg2, hO2, hx2⟩
 obtain ⟨A2, cp2, rfl, hc2, _⟩ := hO2.form
 rw [hX2] at hO2 hx2 hc2 ⊢
 obtain ⟨LS, hLS⟩ : ∃ LS, ls ++ ss = LS := ⟨_, rfl⟩
 obtain ⟨ry, htw2, hxy, hre2⟩ := let_exprs (rec := rec) (LS := LS) (ss := ss) (rest := rest) (fun xs hxs => by
  rcases HTW1.out with ⟨h1, _⟩ | ⟨c, _, _, h3⟩
  ·
   exact h1
  rw [hxs] at h3; cases h3) hx2
 have HRY := Lib.hid (show r = mapF (fun y => .mk 5 dt0 ⟨#[]⟩ 0 ss (X2.map (·.t) ++ [y])) ry by rw [<- HR.out, HALL.out, HK.out, HL1.out, HL2.out, HR0.out, HRE1.out, hLS]; exact hre2)
 have HG2 := Lib.hid hg2
 have HO2 := Lib.hid hO2
 have HX2 := Lib.hid hX2
 have HXX := Lib.hid hx2
 have HXY := Lib.hid hxy
 have hwF1 : m.F < w1.heap.size := by omega
 have HF1 := Lib.hid hwF1
 have HS12 := Lib.hid hg2.size
 have HXM := Lib.hid (show X2.length + 1 <= 1048580 by rw [hX2]; omega)
 have HOI := Lib.hid (own_let hO2 hx2 hxy)
 have hw2 : w.heap.size < w2.heap.size := Nat.lt_of_lt_of_le hw1 hg2.size
 have R2 : ∀ i, w2.cell? ⟨w.heap.size, i, none⟩ = (w.alloc (.cells #[.int .i64 0, .int .i64 0, .int .i64 0, .string ⟨#[]⟩, .slice none 0 0, .string ⟨#[]⟩, .int .i64 0, .slice none 0 0, .slice none 0 0] 63)).cell? ⟨w.heap.size, i, none⟩ := fun i => ((gcell hg2).1 _ i hw1 hne).trans (HRR1.out.1 i)
 have RF2 : ∀ i, w2.frozen? ⟨w.heap.size, i, none⟩ = (w.alloc (.cells #[.int .i64 0, .int .i64 0, .int .i64 0, .string ⟨#[]⟩, .slice none 0 0, .string ⟨#[]⟩, .int .i64 0, .slice none 0 0, .slice none 0 0] 63)).frozen? ⟨w.heap.size, i, none⟩ := fun i => ((gcell hg2).2 _ i hw1 hne).trans (HRR1.out.2 i)
 have HRR2 := Lib.hid (And.intro R2 RF2)
 have hg02 := ((zb HBR.out (some m.F)).trans HG1.out).trans hg2
 have HWITH := Lib.hid (show ∀ W : World, Below w2.heap.size w2 W -> Calls Tryd.prog 80 #[.slice B ls.length bc, .slice nA ss.length nc] W (WithPost W m.F LS) from fun W hW => by rw [<- hLS]; exact with_any m.F B bc ls nA ss.length nc ss W ((HSC.out.grown hg02).below hW) (((HSC1.out.grown hg2).strs).below hW) (by have := HSS.out; omega) (Nat.lt_of_lt_of_le hwF1 (Nat.le_trans hg2.size hW.size)))
 have HBODY := Lib.hid (show ∀ (W : World) (A3 : Option Addr) (c3 : Nat), Below w2.heap.size w2 W -> ScAt W m.F A3 c3 LS -> Calls Tryd.prog 46 #[.pointer (some ⟨m.F, 0, none⟩), .slice (some ⟨b, o + 4, none⟩) (N - 1) (cap - 1), .slice A3 LS.length c3] W (ExTwo W0 W m ry) from fun W A3 c3 hW hS => by rw [<- HN.out]; exact body_two HE.out _ _ rest ((HT.out.grown hg02).below hW) HGR.out (by rw [HN.out]; omega) A3 c3 LS hS (htw2.next hW))
 clear hX2 hg2 hO2 hx2 htw2 hxy hre2 hLS R2 RF2 hg02 hwF1 hss
 go_upto_region 14 with fail
 go_region_law (first | (go_simp; go_at_call 80; refine (HWITH.out _ (by (with_reducible repeat' (first | exact Below.refl _ _ | apply Below.drew | apply below_drewN | refine Below.alloc ?_ ?_ _)); all_goals (try simp); all_goals (try omega))).mono ?_; rintro e w3 ⟨A3, c3, rfl, hsc3, hb3⟩; have HB3 := Lib.hid (show Below w2.heap.size w2 w3 from (show Below w2.heap.size w2 _ from (by (with_reducible repeat' (first | exact Below.refl _ _ | apply Below.drew | apply below_drewN | refine Below.alloc ?_ ?_ _)); all_goals (try simp); all_goals (try omega))).trans (hb3.mono (by first | exact Nat.le_refl _ | (simp; done) | (simp; omega)))); have HSC3 := Lib.hid hsc3; clear hsc3 hb3) | (go_simp; go_at_call 46; refine (HBODY.out _ _ _ (HB3.out.trans (by first | exact Below.refl _ _ | exact (Below.refl _ _).drew)) (HSC3.out.below (by first | exact Below.refl _ _ | exact (Below.refl _ _).drew))).mono ?_; intro e w4 hp4; obtain ⟨v4, rfl, hg4, hx4⟩ := hp4.fact; clear hp4; obtain ⟨k1, k2, k3⟩ := ex_if (u := .slice A2 j cp2) hx4 (Nat.le_trans HS12.out HB3.out.size) (fun b hb => Nat.lt_of_lt_of_le (HOI.out.row.lt b hb).2 HB3.out.size); have HK := Lib.hid (And.intro k1 (And.intro k2 k3)); have HG4 := Lib.hid hg4; have HX4 := Lib.hid hx4; have HO4 := Lib.hid ((HOI.out.new HB3.out).other hg4 HF1.out); clear hg4 hx4 k1 k2 k3; unfold EV.agg) | (refine step_x (K := kitIf W0 (∃ y, ry = .ok y)) rfl (by rfl) (.tmp 68) (.tmp 76) (by rfl) HO4.out v4 _ rfl HK.out.1 HK.out.2.1 HK.out.2.2 (by rfl) (by rfl) HXM.out (Nat.le_trans HS12.out (Nat.le_trans HB3.out.size HG4.out.size)) ?_; intro v5 w5 h5 h6; obtain ⟨A5, c5, h7, _⟩ := h5.form; rw [show (X2 ++ [v4]).length = j + 1 by simp [HX2.out]] at h7; subst h7; have HO5 := Lib.hid h5; have HG5 := Lib.hid h6; obtain ⟨k5, k6⟩ := let_keep hw2 hne HB3.out HG4.out (fun b hb => Nat.lt_of_lt_of_le hw1 (HOI.out.row.lt b hb).1) h6; have R5 := (fun i => (k5 i).trans (HRR2.out.1 i)); have RF5 := (fun i => (k6 i).trans (HRR2.out.2 i)); clear h5 h6 k5 k6))
 go_wp2_with fail
 exact bodyPost_ret (v := .agg #[.int .i64 5, .int .i64 0, .int .i64 0, .string ⟨#[]⟩, .slice none 0 0, .string ⟨#[]⟩, .int .i64 0, .slice nA ss.length nc, .slice A5 (j + 1) c5]) (by simp [results, Tryd.results79, go_sem, R5]) rfl (by rw [HRY.out]; exact let_fin H.out HBR.out hwr HG1.out HP1.out H0X.out HG2.out HO2.out HXX.out HXY.out HB3.out HG4.out HX4.out HO5.out HX2.out HG5.out (za1 _ _ _ _ _ _ _ _ _ _ _))
/- What expr answers, at every level. -/
theorem expr_says {W0 : World} {m : Fm} (hfd : ∀ x ∈ m.sh, ∀ f ∈ x.ss, 0 < f.size) : (n : Nat) -> ExprSays W0 m n (formed m.pl n)
 | 0 => fun _ _ _ _ _ _ _ _ hg => hg.elim
 | n + 1 => fun w d A c B bc ls h hg hd hsc hls => by
  have he := expr_says (W0 := W0) hfd n
  have := expr_one he (let_any he) hfd d A c B bc ls h hg hd hsc hls
  exact this
end Go.Proofs.YtjmeodadkjcmmaaDoor
