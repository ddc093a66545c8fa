import Derived.Test.YtjmeodadkjcmmaaDoorTopF
namespace Go.Proofs.YtjmeodadkjcmmaaDoor
open Go.RowKit Go.ChangeShapes Go.WideShapes Go.Deep Go.ChangeAt
set_option linter.unusedVariables false
set_option maxRecDepth 20000
theorem collected {st st' : List Sh × List ByteArray} {d : Dt} (h : zt st d = .ok st') : ∃ s rest, headF d = some (s, rest) /\ (s.toList = wRecord \/ (s.toList = wDefine /\ ∃ n, defT rest = some n) \/ s.toList = wUpgrade) := by
 cases hh : headF d with
 | none => rw [col_none hh] at h; cases h
 | some q =>
  obtain ⟨s, rest⟩ := q
  refine ⟨s, rest, rfl, ?_⟩
  by_cases h1 : s.toList = wRecord
  ·
   exact Or.inl h1
  by_cases h2 : s.toList = wDefine
  ·
   right; left
   refine ⟨h2, ?_⟩
   rw [col_def hh h2] at h
   cases hd : defT rest with
   | none => rw [hd] at h; cases h
   | some n => exact ⟨n, rfl⟩
  by_cases h3 : s.toList = wUpgrade
  ·
   exact Or.inr (Or.inr h3)
  rw [col_else hh h1 h2 h3] at h; cases h
theorem defT_cases {l : List Dt} {n : ByteArray} (h : defT l = some n) : (∃ a b, l = [a, b] /\ a.k = 3 /\ n = a.s) \/ (∃ a g ps b m, l = a :: b :: m /\ a.k = 4 /\ a.l = g :: ps /\ n = g.s) := by
 match l, h with
 | [], h => cases h
 | a :: m, h =>
  by_cases hk : a.k = 4
  ·
   cases hl : a.l with
   | nil => rw [def_nil hk hl] at h; cases h
   | cons g ps =>
    rw [def_list hk hl] at h
    split at h
    ·
     rename_i hc
     cases h
     obtain ⟨_, hm⟩ := hc
     match m, hm with
     | b :: m', _ => exact Or.inr ⟨a, g, ps, b, m', rfl, hk, hl, rfl⟩
    cases h
  rw [def_name hk] at h
  split at h
  ·
   rename_i hc
   cases h
   obtain ⟨hb, hm⟩ := hc
   have hk3 : a.k = 3 := by
    by_cases h3 : a.k = 3
    ·
     exact h3
    rw [bind_kind h3] at hb; cases hb
   match m, hm with
   | [b], _ => exact Or.inl ⟨a, b, rfl, hk3, rfl⟩
  cases h
section
variable {p : Pl} {vsh ush : List Sh} {st : Un} {d : Dt} {s : ByteArray} {rest : List Dt}
theorem top_rec (h : headF d = some (s, rest)) (hs : s.toList = wRecord) : topT p vsh ush st d = .ok st := by
 unfold topT; rw [h]; simp only; rw [if_neg (by rw [hs]; decide), if_neg (by rw [hs]; decide)]
theorem top_up (h : headF d = some (s, rest)) (hs : s.toList = wUpgrade) : topT p vsh ush st d = mapF (fun x => (st.1, st.2 ++ [x])) (upX vsh ush st.2 rest) := by
 unfold topT; rw [h]; simp only; rw [if_neg (by rw [hs]; decide), if_pos hs]
theorem top_def (h : headF d = some (s, rest)) (hs : s.toList = wDefine) {n : ByteArray} (hn : defT rest = some n) : topT p vsh ush st d = mapF (fun x => (st.1 ++ [(n, x)], st.2)) (defX p rest) := by
 unfold topT; rw [h]; simp only; rw [if_pos hs, hn]; rfl
end
theorem defX_sym {p : Pl} {a b : Dt} (h : a.k = 3) : defX p [a, b] = formed p 40 [] b := by simp only [defX]; rw [if_pos h]
theorem defX_list {p : Pl} {a g b : Dt} {ps m : List Dt} (h : a.k = 4) (hl : a.l = g :: ps) : defX p (a :: b :: m) = lamOf (fun ns => mapF (fun y => .mk 6 dt0 ⟨#[]⟩ 0 ns [y]) (bodyF (formed p 40) ns (b :: m))) (boundF 4 ps) := by
 simp only [defX]
 rw [if_neg (by omega), hl]
 simp only
 cases boundF 4 ps <;> rfl
def FormPost (W0 w : World) (base : Nat) (m : Fm) (U : Nat) (vS : Value) (S : List NE) (e : Ending) (w' : World) : Fd Un -> Prop
 | .ok st => FEnd e /\ zy base U m.F w w' /\ zx W0 w' m 0 /\ ∃ vD vP D P, UnAt W0 w' base m U vS vD vP S True D P /\ D.map DfV.pr = st.1 /\ P.map UpV.pr = st.2
 | .err c => FEnd e /\ zy base U m.F w w' /\ zx W0 w' m c /\ 1 <= c
theorem infoDef : (Tryd.prog.info? 71).map (fun i => (i.zero.map (fun z => z.cells.size), i.size, i.bytes)) = some (some 10, 10, 152) := by kernel_rfl
theorem infoDef_parts : ∃ i z, Tryd.prog.info? 71 = some i /\ i.zero = some z /\ z.cells.size = 10 /\ i.size = 10 /\ i.bytes = 152 := by
 have h := infoDef
 cases hi : Tryd.prog.info? 71 with
 | none => rw [hi] at h; simp at h
 | some i =>
  rw [hi] at h
  simp only [Option.map_some, Option.some.injEq, Prod.mk.injEq] at h
  obtain ⟨h1, h2, h3⟩ := h
  cases hz : i.zero with
  | none => rw [hz] at h1; simp at h1
  | some z => rw [hz] at h1; exact ⟨i, z, rfl, hz, by simpa using h1, h2, h3⟩
theorem step_df {W0 : World} {pp : Prop} {base : Nat} {ops : Array Oper} {o : Oper} {act : Act} {KK : Act -> World -> Prop} {Q : Exit -> Act -> World -> Prop} {E : Prop} {w : World} (hgd : o.guard = none) (s y : Operand)
  (ho : o.op = .call { callee := .builtin .append, args := #[s, y], argTypes := #[27, 27] })
  {v : Value} {X : List DfV} (hO : OwnAt (kitDf W0 pp) TDf base w v X) (x : DfV) (cs : Array Value) (hcs : cs.toList = (kitDf W0 pp).cells x) (hx : (kitDf W0 pp).ok w x) (hfrom : ∀ b, (kitDf W0 pp).uses x b -> base <= b) (hap : ∀ b, (kitDf W0 pp).uses x b -> v.ownBlock ≠ some b)
  (hs : act.eval s = v) (hy : act.eval y = .slice (some ⟨w.heap.size, 0, none⟩) 1 1) (hb : X.length + 1 <= 1048580) (hbase : base <= w.heap.size)
  (h : ∀ v' w', OwnAt (kitDf W0 pp) TDf base w' v' (X ++ [x]) -> w.grownBy w' v.ownBlock -> (v'.ownBlock = v.ownBlock \/ ∃ b, v'.ownBlock = some b /\ w.heap.size <= b) -> KK (act.put o.dst v') w') :
  if Region.wanted o (yielded ops act.tmps) = true then Oper.wp Tryd.prog o act (w.alloc (.cells cs 71)) KK Q else E := by
 obtain ⟨i, z, hi, hz, hzs, hsize, hby⟩ := infoDef_parts
 exact step_ownV hgd s y ho Tryd.underlying27 hi hz hsize hby hzs (show 0 < 10 by decide) hO x cs hcs hx hfrom hap hs hy ⟨by omega, by unfold maxLen; omega⟩ hbase h
theorem exPost_fact {W0 w w' : World} {m : Fm} {r : Fd Ex} {e : Ending} (h : ExPost W0 w m r e w') : ∃ v : EV, e = .returned v.agg /\ w.grownBy w' (some m.F) /\ ExFact W0 w w' m v r := by
 cases r with
 | ok x =>
  obtain ⟨v, rfl, h1, h2, h3, h4, h5⟩ := h
  exact ⟨v, rfl, zb h5 _, h1, h2, h3, h4, h5⟩
 | err c =>
  obtain ⟨v, rfl, h1, h2, h3⟩ := h
  exact ⟨v, rfl, h3, h1, h2⟩
theorem def_fin {W0 w w1 w4 w9 : World} {base : Nat} {m : Fm} {U : Nat} {vS vD vP u : Value} {S : List NE} {D : List DfV} {P : List UpV} {x : DfV} {r1 : Fd Ex} {n : ByteArray} (h : UnAt W0 w base m U vS vD vP S True D P) (hg1 : w.grownBy w1 (some m.F))
  (hF : ∃ e, zx W0 w1 m e /\ (∀ y, r1 = .ok y -> e = 0) /\ ∀ c, r1 = .err c -> e = c /\ 1 <= c) (hb : Below w1.heap.size w1 w4) (hU : UnAt W0 w4 base m U vS vD vP S (∃ y, r1 = .ok y) D P)
  (hO : OwnAt (kitDf W0 (∃ y, r1 = .ok y)) TDf base w9 u (D ++ [x])) (hg : w4.grownBy w9 vD.ownBlock) (hu : u.ownBlock = vD.ownBlock \/ ∃ b, u.ownBlock = some b /\ w4.heap.size <= b) (hx : ∀ b, (kitDf W0 (∃ y, r1 = .ok y)).uses x b -> vP.ownBlock ≠ some b)
  (hn : x.name = n) (ht : ∀ y, r1 = .ok y -> x.x.t = y) {e : Ending} (he : FEnd e) :
  FormPost W0 w base m U vS S e (w9.setCell ⟨U, 1, none⟩ u) (mapF (fun y => (D.map DfV.pr ++ [(n, y)], P.map UpV.pr)) r1) := by
 obtain ⟨e0, hf, h0, hc⟩ := hF
 obtain ⟨hU9, hG9⟩ := hU.def_ hO hg hu hx
 have hGG : zy base U m.F w (w9.setCell ⟨U, 1, none⟩ u) := ((zy.ofF hg1 h.bs).trans (zy.below hb (Nat.le_trans h.bs hg1.size))).trans hG9.wide
 have hf9 := (hf.next hb).carry h.off h.geU (Nat.le_trans h.geU (Nat.le_of_lt h.ltU)) h.ltF h.neU hG9 rfl
 cases r1 with
 | ok y =>
  have := h0 y rfl
  subst this
  exact ⟨he, hGG, hf9, _, _, _, _, hU9.weak (fun _ => ⟨y, rfl⟩), by rw [List.map_append]; congr 1; simp [DfV.pr, hn, ht y rfl], rfl⟩
 | err c =>
  obtain ⟨rfl, h1⟩ := hc c rfl
  exact ⟨he, hGG, hf9, h1⟩
theorem df_if {W0 w w' : World} {m : Fm} {v : EV} {r : Fd Ex} {base : Nat} {nm : ByteArray} (h : ExFact W0 w w' m v r) (hb : base <= w.heap.size) {u : Value} (hu : ∀ b, u.ownBlock = some b -> b < w.heap.size) :
  (kitDf W0 (∃ y, r = .ok y)).ok w' ⟨nm, v⟩ /\ (∀ b, (kitDf W0 (∃ y, r = .ok y)).uses ⟨nm, v⟩ b -> base <= b) /\ ∀ b, (kitDf W0 (∃ y, r = .ok y)).uses ⟨nm, v⟩ b -> u.ownBlock ≠ some b := by
 refine ⟨?_, ?_, ?_⟩
 ·
  rintro ⟨y, rfl⟩
  exact h.2.2.2.1
 ·
  rintro b ⟨⟨y, rfl⟩, h1, _⟩
  have h2 : v.lo = w.heap.size := h.2.1
  have h1' : v.lo <= b := h1
  omega
 rintro b ⟨⟨y, rfl⟩, h1, _⟩ e
 have h2 : v.lo = w.heap.size := h.2.1
 have h1' : v.lo <= b := h1
 have := hu b e
 omega
theorem exFact_former {W0 w w' : World} {m : Fm} {v : EV} {r : Fd Ex} (hf : zx W0 w m 0) (h : ExFact W0 w w' m v r) : ∃ e, zx W0 w' m e /\ (∀ y, r = .ok y -> e = 0) /\ ∀ c, r = .err c -> e = c /\ 1 <= c := by
 cases r with
 | ok y => exact ⟨0, hf.next h.2.2.2.2, fun _ _ => rfl, fun c h => by cases h⟩
 | err c => exact ⟨c, h.2, fun y h => (by cases h), fun c' h' => by cases h'; exact ⟨rfl, h.1⟩⟩
theorem exFact_tree {W0 w w' : World} {m : Fm} {v : EV} {r : Fd Ex} (h : ExFact W0 w w' m v r) : ∀ y, r = .ok y -> v.t = y := by
 rintro y rfl
 exact h.1
theorem FormPost.from {W0 w w2 : World} {base : Nat} {m : Fm} {U : Nat} {vS : Value} {S : List NE} {e : Ending} {w' : World} {r : Fd Un} (h : FormPost W0 w2 base m U vS S e w' r) (hg : zy base U m.F w w2) : FormPost W0 w base m U vS S e w' r := by
 cases r with
 | ok st => exact ⟨h.1, hg.trans h.2.1, h.2.2⟩
 | err c => exact ⟨h.1, hg.trans h.2.1, h.2.2⟩
def lamV (nA : Option Addr) (nc : Nat) (ss : List ByteArray) (L : Nat) (t : Ex) (lo hi : Nat) : EV := ⟨6, 0, 0, ⟨#[]⟩, none, 0, 0, ⟨#[]⟩, 0, nA, ss.length, nc, some ⟨L, 0, none⟩, 1, 1, .mk 6 dt0 ⟨#[]⟩ 0 ss [t], lo, hi⟩
theorem lamV_ok {W0 w : World} {nA : Option Addr} {nc : Nat} {ss : List ByteArray} {L : Nat} {v : EV} {lo hi : Nat} (hn : NmIn w lo hi nA nc ss) (hx : ExIn W0 w lo hi v.cells v.t) (hL : lo <= L) (hL2 : L < hi) (hhi : hi <= w.heap.size) (hrow : ∀ j, w.cell? ⟨L, j, none⟩ = v.cells.toArray[j]?) : (kitEx W0).ok w (lamV nA nc ss L v.t lo hi) := by
 refine ⟨?_, hhi⟩
 refine ExIn.mk (W0 := W0) (w := w) (lo := lo) (hi := hi) 6 0 0 ⟨#[]⟩ none 0 0 dt0 (dt0_in W0) ⟨#[]⟩ 0 nA nc ss hn (some ⟨L, 0, none⟩) 1 [v.t] [v.cells] rfl (Nat.le_refl _) (by unfold maxLen; omega) ?_ ?_
 ·
  intro _
  refine ⟨L, 0, rfl, hL, hL2, by omega, fun i hi => ?_⟩
  have h0 : i = 0 := by simpa using hi
  subst h0
  intro j hj
  have := hrow j
  simp only [List.getElem_cons_zero] at hj ⊢
  simpa using this
 intro i hi hi'
 have h0 : i = 0 := by simpa using hi
 subst h0
 exact hx
section
variable {W0 w2 w3 w4 W6 : World} {m : Fm} {r0 : Fd (List ByteArray)} {rb : Fd Ex} {nA : Option Addr} {nc : Nat} {ss : List ByteArray} {v : EV}
def lamR (ss : List ByteArray) (rb : Fd Ex) : Fd Ex := mapF (fun z => .mk 6 dt0 ⟨#[]⟩ 0 ss [z]) rb
theorem lamR_ok {y : Ex} (h : lamR ss rb = .ok y) : ∃ z, rb = .ok z /\ y = .mk 6 dt0 ⟨#[]⟩ 0 ss [z] := by
 cases rb with
 | ok z => cases h; exact ⟨z, rfl, rfl⟩
 | err c => cases h
theorem lam_df {base L : Nat} {nm : ByteArray} {u : Value} (hp : NmFact W0 w2 w3 m w2.heap.size w3.heap.size nA nc ss r0) (her : ∀ c, r0 = .err c -> rb = .err c) (hg3 : w2.heap.size <= w3.heap.size) (hg4 : w3.heap.size <= w4.heap.size) (hx : ExFact W0 w3 w4 m v rb) (hb : Below w4.heap.size w4 W6) (hL : w4.heap.size <= L) (hL2 : L < W6.heap.size) (hrow : ∀ j, W6.cell? ⟨L, j, none⟩ = v.cells.toArray[j]?) (hbase : base <= w2.heap.size) (hu : ∀ b, u.ownBlock = some b -> b < w2.heap.size) :
  (kitDf W0 (∃ y, lamR ss rb = .ok y)).ok W6 ⟨nm, lamV nA nc ss L v.t w2.heap.size W6.heap.size⟩ /\ (∀ b, (kitDf W0 (∃ y, lamR ss rb = .ok y)).uses ⟨nm, lamV nA nc ss L v.t w2.heap.size W6.heap.size⟩ b -> base <= b) /\ ∀ b, (kitDf W0 (∃ y, lamR ss rb = .ok y)).uses ⟨nm, lamV nA nc ss L v.t w2.heap.size W6.heap.size⟩ b -> u.ownBlock ≠ some b := by
 refine ⟨?_, ?_, ?_⟩
 ·
  rintro ⟨y, hy⟩
  obtain ⟨z, rfl, _⟩ := lamR_ok hy
  obtain ⟨h1, h2, h3, h4, h5⟩ := hx
  cases r0 with
  | err c => have := her c rfl; cases this
  | ok ns =>
   obtain ⟨rfl, hn, hb3⟩ := hp
   have hb34 : Below w3.heap.size w3 W6 := h5.trans (hb.mono hg4)
   refine lamV_ok (hn.mono (zw hb34) hb34.size (Nat.le_refl _) hb34.size) (h4.1.mono (zw (hb.mono (Nat.le_refl _))) hb.size (by rw [h2]; exact hg3) (by rw [h3]; exact hb.size)) (by omega) hL2 (Nat.le_refl _) hrow
 ·
  rintro b ⟨_, h1, _⟩
  have h1' : w2.heap.size <= b := h1
  omega
 rintro b ⟨_, h1, _⟩ e
 have h1' : w2.heap.size <= b := h1
 have := hu b e
 omega
theorem lam_former (hf : zx W0 w2 m 0) (hp : NmFact W0 w2 w3 m w2.heap.size w3.heap.size nA nc ss r0) (her : ∀ c, r0 = .err c -> rb = .err c) (hg3 : w2.heap.size <= w3.heap.size) (hx : ExFact W0 w3 w4 m v rb) : ∃ e, zx W0 w4 m e /\ (∀ y, lamR ss rb = .ok y -> e = 0) /\ ∀ c, lamR ss rb = .err c -> e = c /\ 1 <= c := by
 cases rb with
 | ok z =>
  cases r0 with
  | err c => have := her c rfl; cases this
  | ok ns => exact ⟨0, (hf.next hp.2.2).next hx.2.2.2.2, fun _ _ => rfl, fun c h => by cases h⟩
 | err c => exact ⟨c, hx.2, fun y h => (by cases h), fun c' h' => by cases h'; exact ⟨rfl, hx.1⟩⟩
theorem lam_tree {L lo hi : Nat} (hx : ExFact W0 w3 w4 m v rb) : ∀ y, lamR ss rb = .ok y -> (lamV nA nc ss L v.t lo hi).t = y := by
 intro y hy
 obtain ⟨z, rfl, rfl⟩ := lamR_ok hy
 rw [<- hx.1]; rfl
end
end Go.Proofs.YtjmeodadkjcmmaaDoor
