import Derived.Test.YtjmeodadkjcmmaaDoorFormD
import Derived.Deep.RegionHeld3
import Derived.Deep.DeepCutAuto
namespace Go.Proofs.YtjmeodadkjcmmaaDoor
open Go.RowKit Go.ChangeShapes Go.WideShapes Go.Deep Go.ChangeAt
set_option linter.unusedVariables false
set_option maxRecDepth 20000
theorem all_one (rec : Dt -> Fd Ex) (d : Dt) : allF rec [d] = mapF (fun x => [x]) (rec d) := by
 simp only [allF]
 cases rec d <;> rfl
theorem DsAt.tail {W0 w : World} {F b o cap : Nat} {d : Dt} {l : List Dt} (h : DsAt W0 w F (some ⟨b, o, none⟩) cap (d :: l)) : DsAt W0 w F (some ⟨b, o + 4, none⟩) (cap - 1) l :=
 ⟨by have := h.le; simp at this; omega, by have := h.cap_; omega, fun h0 => by
  obtain ⟨b', o', hA, l1, l2, hr⟩ := h.at_ (by simp)
  cases hA
  refine ⟨b, o + 4, rfl, l1, l2, fun i hi => ?_⟩
  obtain ⟨cs, r, hd⟩ := hr (i + 1) (by simpa using hi)
  rw [show o + (i + 1) * 4 = o + 4 + i * 4 by omega] at r
  exact ⟨cs, r, by simpa using hd⟩⟩
theorem DsAt.first {W0 w : World} {F cap : Nat} {A : Option Addr} {d : Dt} {l : List Dt} (h : DsAt W0 w F A cap (d :: l)) (hb : Below W0.heap.size W0 w) (hF : W0.heap.size <= F) :
  ∃ b o A' c', A = some ⟨b, o, none⟩ /\ b < w.heap.size /\ b ≠ F /\ w.cell? ⟨b, o, none⟩ = some (.int .i64 d.k) /\ w.cell? ⟨b, o + 1, none⟩ = some (.int .i64 d.n) /\ w.cell? ⟨b, o + 2, none⟩ = some (.string d.s) /\ w.cell? ⟨b, o + 3, none⟩ = some (.slice A' d.l.length c') ∧
   DtIn W0 0 W0.heap.size [.int .i64 d.k, .int .i64 d.n, .string d.s, .slice A' d.l.length c'] d /\ DsAt W0 w F A' c' d.l /\ DsAt W0 w F (some ⟨b, o + 4, none⟩) (cap - 1) l := by
 obtain ⟨b, o, rfl, hbw, hbF, cs, hrow, hd⟩ := h.nth 0 (by simp)
 obtain ⟨A', c', rfl, hi⟩ := hd.items hb hF
 refine ⟨b, o, A', c', rfl, hbw, hbF, ?_, ?_, ?_, ?_, hd, hi, h.tail⟩
 ·
  simpa using hrow 0 (by simp)
 ·
  simpa using hrow 1 (by simp)
 ·
  simpa using hrow 2 (by simp)
 simpa using hrow 3 (by simp)
def XsOut (W0 w : World) (m : Fm) (n : Nat) (r : Fd (List Ex)) (w' : World) (A : Option Addr) (cap : Nat) : Prop := match r with
 | .ok xs => ∃ X : List EV, X.length = n /\ OwnAt (kitEx W0) 63 w.heap.size w' (.slice A X.length cap) X /\ X.map (·.t) = xs /\ Below w.heap.size w w'
 | .err c => 1 <= c /\ zx W0 w' m c
theorem ExsPost.both {W0 w w' : World} {m : Fm} {n : Nat} {r : Fd (List Ex)} {e : Ending} (h : ExsPost W0 w m n r e w') : ∃ A cap, e = .returned (.slice A n cap) /\ n <= cap /\ w.grownBy w' (some m.F) /\ XsOut W0 w m n r w' A cap := by
 cases r with
 | ok xs =>
  obtain ⟨v, X, rfl, hO, hX, hl, hb⟩ := h
  obtain ⟨A, cp, rfl, hXc, _⟩ := hO.form
  exact ⟨A, cp, by rw [hl], by omega, zb hb _, X, hl, hO, hX, hb⟩
 | err c =>
  obtain ⟨v, X, rfl, hO, hl, hc, hF, hg⟩ := h
  obtain ⟨A, cp, rfl, hXc, _⟩ := hO.form
  exact ⟨A, cp, by rw [hl], by omega, hg, hc, hF⟩
def Ex.kind : Ex -> Int | .mk k _ _ _ _ _ => k
theorem ExIn.kind {W0 w : World} {lo hi : Nat} {c : List Value} {t : Ex} (h : ExIn W0 w lo hi c t) : c[0]? = some (.int .i64 t.kind) := by cases h; rfl
def Two (W0 w : World) (m : Fm) {α : Type} (r0 r : Fd α) : Prop := (zx W0 w m 0 /\ r0 = r) \/ (∃ c, 1 <= c /\ zx W0 w m c /\ r = .err c)
theorem Two.next {W0 w w' : World} {m : Fm} {α : Type} {r0 r : Fd α} (h : Two W0 w m r0 r) (hb : Below w.heap.size w w') : Two W0 w' m r0 r := by
 rcases h with ⟨h1, h2⟩ | ⟨c, h1, h2, h3⟩
 ·
  exact Or.inl ⟨h1.next hb, h2⟩
 exact Or.inr ⟨c, h1, h2.next hb, h3⟩
theorem Two.former {W0 w : World} {m : Fm} {α : Type} {r0 r : Fd α} (h : Two W0 w m r0 r) : ∃ e, zx W0 w m e := by
 rcases h with ⟨h1, h2⟩ | ⟨c, h1, h2, h3⟩
 ·
  exact ⟨_, h1⟩
 exact ⟨_, h2⟩
def XsTwo (W0 w : World) (m : Fm) (n : Nat) (r : Fd (List Ex)) (e : Ending) (w' : World) : Prop := ∃ A cap, e = .returned (.slice A n cap) /\ n <= cap /\ w.grownBy w' (some m.F) /\ XsOut W0 w m n r w' A cap
theorem exprs_two {W0 w : World} {m : Fm} {n : Nat} {rec : List ByteArray -> Dt -> Fd Ex} (he : ExprSays W0 m n rec) (A : Option Addr) (cap : Nat) (l : List Dt) (hl : DsAt W0 w m.F A cap l) (hgd : ∀ x ∈ l, Good n x) (hn : l.length <= 1048576) (B : Option Addr) (bc : Nat) (ls : List ByteArray) (hsc : ScAt w m.F B bc ls) (hls : ls.length <= 40)
  {r : Fd (List Ex)} (h : Two W0 w m (allF (rec ls) l) r) :
  Calls Tryd.prog 68 #[.pointer (some ⟨m.F, 0, none⟩), .slice A l.length cap, .slice B ls.length bc] w (XsTwo W0 w m l.length r) := by
 rcases h with ⟨h, rfl⟩ | ⟨c, hc, h, rfl⟩
 ·
  exact (exprs_any he h A cap l hl hgd hn B bc ls hsc hls).mono fun e w' hp => hp.both
 ·
  refine (exprs_idle h (by omega) A cap l hl hn B ls.length bc).mono fun e w' hp => ?_
  obtain ⟨v, X, rfl, hO, hl, hb⟩ := hp
  obtain ⟨A, cp, rfl, hXc, _⟩ := hO.form
  exact ⟨A, cp, by rw [hl], by omega, zb hb _, hc, h.next hb⟩
def ExTwo (W0 w : World) (m : Fm) (r : Fd Ex) (e : Ending) (w' : World) : Prop := ∃ v : EV, e = .returned v.agg /\ w.grownBy w' (some m.F) ∧
 (match r with | .ok x => v.t = x /\ v.lo = w.heap.size /\ v.hi = w'.heap.size /\ (kitEx W0).ok w' v /\ Below w.heap.size w w' | .err c => 1 <= c /\ zx W0 w' m c)
theorem body_two {W0 w : World} {m : Fm} {n : Nat} {rec : List ByteArray -> Dt -> Fd Ex} (he : ExprSays W0 m n rec) (A : Option Addr) (cap : Nat) (l : List Dt) (hl : DsAt W0 w m.F A cap l) (hgd : ∀ x ∈ l, Good n x) (hn : l.length <= 1048576) (B : Option Addr) (bc : Nat) (ls : List ByteArray) (hsc : ScAt w m.F B bc ls)
  {r : Fd Ex} (h : Two W0 w m (bodyF rec ls l) r) :
  Calls Tryd.prog 46 #[.pointer (some ⟨m.F, 0, none⟩), .slice A l.length cap, .slice B ls.length bc] w (ExTwo W0 w m r) := by
 rcases h with ⟨h, rfl⟩ | ⟨c, hc, h, rfl⟩
 ·
  refine (body_any he h A cap l hl hgd hn B bc ls hsc).mono fun e w' hp => ?_
  cases hr : bodyF rec ls l with
  | ok x =>
   rw [hr] at hp
   obtain ⟨v, rfl, h1, h2, h3, h4, h5⟩ := hp
   exact ⟨v, rfl, zb h5 _, h1, h2, h3, h4, h5⟩
  | err c =>
   rw [hr] at hp
   obtain ⟨v, rfl, h1, h2, h3⟩ := hp
   exact ⟨v, rfl, h3, h1, h2⟩
 refine (body_idle h (by omega) A cap l hl hn B ls.length bc).mono fun e w' hp => ?_
 obtain ⟨v, rfl, hb⟩ := hp
 exact ⟨v, rfl, zb hb _, hc, h.next hb⟩
theorem OwnAt.aside {α : Type} {K : Kit α} {ty : TypeId} {base : Nat} {w w' : World} {v : Value} {X : List α} {p : Nat} (h : OwnAt K ty base w v X) (hg : w.grownBy w' (some p)) (hp : p < base \/ w.heap.size <= p) : OwnAt K ty base w' v X := by
 refine h.grown hg ?_ ?_
 ·
  cases hv : v.ownBlock with
  | none => exact Or.inl rfl
  | some b =>
   right
   intro e
   have := h.row.lt b hv
   have := Option.some.inj e
   omega
 intro x hx b hb e
 have h1 := h.from_ x hx b hb
 have h2 := K.lt _ _ _ (h.each x hx) hb
 have := Option.some.inj e
 omega
structure Nine (w : World) (p : Nat) (k : Int) (S : ByteArray) (N : Int) (nA : Option Addr) (nl nc : Nat) (A : Option Addr) (al ac : Nat) : Prop where
 lt : p < w.heap.size
 c0 : w.cell? ⟨p, 0, none⟩ = some (.int .i64 k)
 c1 : w.cell? ⟨p, 1, none⟩ = some (.int .i64 0)
 c2 : w.cell? ⟨p, 2, none⟩ = some (.int .i64 0)
 c3 : w.cell? ⟨p, 3, none⟩ = some (.string ⟨#[]⟩)
 c4 : w.cell? ⟨p, 4, none⟩ = some (.slice none 0 0)
 c5 : w.cell? ⟨p, 5, none⟩ = some (.string S)
 c6 : w.cell? ⟨p, 6, none⟩ = some (.int .i64 N)
 c7 : w.cell? ⟨p, 7, none⟩ = some (.slice nA nl nc)
 c8 : w.cell? ⟨p, 8, none⟩ = some (.slice A al ac)
 fz : ∀ j, w.frozen? ⟨p, j, none⟩ = false
theorem nine_new (w : World) (t : TypeId) (k : Int) (S : ByteArray) (N : Int) (nA : Option Addr) (nl nc : Nat) (A : Option Addr) (al ac : Nat) :
  Nine (w.alloc (.cells #[.int .i64 k, .int .i64 0, .int .i64 0, .string ⟨#[]⟩, .slice none 0 0, .string S, .int .i64 N, .slice nA nl nc, .slice A al ac] t)) w.heap.size k S N nA nl nc A al ac :=
 ⟨by simp, za _ _ _ 0, za _ _ _ 1, za _ _ _ 2, za _ _ _ 3, za _ _ _ 4, za _ _ _ 5, za _ _ _ 6, za _ _ _ 7, za _ _ _ 8, fun j => by simp⟩
theorem nine_set {w : World} {p : Nat} {x0 x1 x2 x3 x4 x5 x6 x7 x8 : Value} (hlt : p < w.heap.size) (e0 : w.cell? ⟨p, 0, none⟩ = some x0) (e1 : w.cell? ⟨p, 1, none⟩ = some x1) (e2 : w.cell? ⟨p, 2, none⟩ = some x2) (e3 : w.cell? ⟨p, 3, none⟩ = some x3) (e4 : w.cell? ⟨p, 4, none⟩ = some x4) (e5 : w.cell? ⟨p, 5, none⟩ = some x5) (e6 : w.cell? ⟨p, 6, none⟩ = some x6) (e7 : w.cell? ⟨p, 7, none⟩ = some x7) (e8 : w.cell? ⟨p, 8, none⟩ = some x8) (hf : ∀ j, w.frozen? ⟨p, j, none⟩ = false)
  (k : Int) (S : ByteArray) (N : Int) (nA : Option Addr) (nl nc : Nat) (A : Option Addr) (al ac : Nat) :
  Nine (((((((((w.setCell ⟨p, 0, none⟩ (.int .i64 k)).setCell ⟨p, 1, none⟩ (.int .i64 0)).setCell ⟨p, 2, none⟩ (.int .i64 0)).setCell ⟨p, 3, none⟩ (.string ⟨#[]⟩)).setCell ⟨p, 4, none⟩ (.slice none 0 0)).setCell ⟨p, 5, none⟩ (.string S)).setCell ⟨p, 6, none⟩ (.int .i64 N)).setCell ⟨p, 7, none⟩ (.slice nA nl nc)).setCell ⟨p, 8, none⟩ (.slice A al ac)) p k S N nA nl nc A al ac := by
 have s : ∀ {w : World} {i : Nat} {u v : Value}, w.cell? ⟨p, i, none⟩ = some v -> (w.setCell ⟨p, i, none⟩ u).cell? ⟨p, i, none⟩ = some u := fun h => zk h
 have o : ∀ {w : World} {i j : Nat} {u v : Value}, w.cell? ⟨p, i, none⟩ = some v -> i ≠ j -> (w.setCell ⟨p, j, none⟩ u).cell? ⟨p, i, none⟩ = some v := fun h hn => zj h hn
 refine ⟨by simpa using hlt, ?_, ?_, ?_, ?_, ?_, ?_, ?_, ?_, ?_, fun j => by simpa using hf j⟩
 ·
  exact o (o (o (o (o (o (o (o (s e0) (by decide)) (by decide)) (by decide)) (by decide)) (by decide)) (by decide)) (by decide)) (by decide)
 ·
  exact o (o (o (o (o (o (o (s (o e1 (by decide))) (by decide)) (by decide)) (by decide)) (by decide)) (by decide)) (by decide)) (by decide)
 ·
  exact o (o (o (o (o (o (s (o (o e2 (by decide)) (by decide))) (by decide)) (by decide)) (by decide)) (by decide)) (by decide)) (by decide)
 ·
  exact o (o (o (o (o (s (o (o (o e3 (by decide)) (by decide)) (by decide))) (by decide)) (by decide)) (by decide)) (by decide)) (by decide)
 ·
  exact o (o (o (o (s (o (o (o (o e4 (by decide)) (by decide)) (by decide)) (by decide))) (by decide)) (by decide)) (by decide)) (by decide)
 ·
  exact o (o (o (s (o (o (o (o (o e5 (by decide)) (by decide)) (by decide)) (by decide)) (by decide))) (by decide)) (by decide)) (by decide)
 ·
  exact o (o (s (o (o (o (o (o (o e6 (by decide)) (by decide)) (by decide)) (by decide)) (by decide)) (by decide))) (by decide)) (by decide)
 ·
  exact o (s (o (o (o (o (o (o (o e7 (by decide)) (by decide)) (by decide)) (by decide)) (by decide)) (by decide)) (by decide))) (by decide)
 exact s (o (o (o (o (o (o (o (o e8 (by decide)) (by decide)) (by decide)) (by decide)) (by decide)) (by decide)) (by decide)) (by decide))
theorem OwnAt.lower {α : Type} {K : Kit α} {ty : TypeId} {base b0 : Nat} {w : World} {v : Value} {X : List α} (h : OwnAt K ty base w v X) (hb : b0 <= base) : OwnAt K ty b0 w v X :=
 ⟨⟨h.row.1, by
  rcases h.row.2 with ⟨h1, h2⟩ | ⟨g, cap, cur, h1, h2, h3⟩
  ·
   exact Or.inl ⟨h1, h2⟩
  exact Or.inr ⟨g, cap, cur, h1, Nat.le_trans hb h2, h3⟩⟩, h.each, fun x hx b hbx => Nat.le_trans hb (h.from_ x hx b hbx), h.apart⟩
def Laid9 (W0 w : World) (m : Fm) (k : Int) (S : ByteArray) (n : Nat) (r : Fd (List Ex)) (v : Value) (w' : World) : Prop := ∃ p A cap, v = .pointer (some ⟨p, 0, none⟩) /\ w.heap.size <= p /\ n <= cap /\ Nine w' p k S 0 none 0 0 A n cap /\ w.grownBy w' (some m.F) ∧
 (match r with | .ok xs => (∃ X : List EV, X.length = n /\ (∀ w'', w'.grownBy w'' (some p) -> OwnAt (kitEx W0) 63 w.heap.size w'' (.slice A X.length cap) X) /\ X.map (·.t) = xs) /\ Below w.heap.size w w' | .err c => 1 <= c /\ zx W0 w' m c)
theorem laid9_after {W0 w w1 w3 : World} {m : Fm} {k : Int} {S : ByteArray} {n : Nat} {r : Fd (List Ex)} {A : Option Addr} {cap : Nat} {t : TypeId} (hb : Below w.heap.size w w1) (hc : n <= cap) (hg : w1.grownBy w3 (some m.F)) (hx : XsOut W0 w1 m n r w3 A cap) :
  Laid9 W0 w m k S n r (.pointer (some ⟨w3.heap.size, 0, none⟩)) (w3.alloc (.cells #[.int .i64 k, .int .i64 0, .int .i64 0, .string ⟨#[]⟩, .slice none 0 0, .string S, .int .i64 0, .slice none 0 0, .slice A n cap] t)) := by
 have hb3 : Below w3.heap.size w3 (w3.alloc (.cells #[.int .i64 k, .int .i64 0, .int .i64 0, .string ⟨#[]⟩, .slice none 0 0, .string S, .int .i64 0, .slice none 0 0, .slice A n cap] t)) := (Below.refl _ _).alloc (Nat.le_refl _) _
 refine ⟨w3.heap.size, A, cap, rfl, Nat.le_trans hb.size hg.size, hc, nine_new _ _ _ _ _ _ _ _ _ _ _, grownF_below ((zb hb _).trans hg) hb3, ?_⟩
 cases r with
 | ok xs =>
  obtain ⟨X, h1, h2, h3, h4⟩ := hx
  exact ⟨⟨X, h1, fun w'' hg'' => (h2.aside ((zb hb3 _).trans hg'') (Or.inr (Nat.le_refl _))).lower hb.size, h3⟩, (hb.trans (h4.mono hb.size)).trans (hb3.mono (Nat.le_trans hb.size h4.size))⟩
 | err c => exact ⟨hx.1, hx.2.next hb3⟩
theorem laid9_before {W0 w w0 w1 w3 : World} {m : Fm} {k : Int} {S : ByteArray} {n p : Nat} {r : Fd (List Ex)} {A : Option Addr} {cap : Nat} (hwp : w0.heap.size = p) (hb0 : Below w.heap.size w w0) (hb1 : Below (w0.alloc (.cells #[.int .i64 0, .int .i64 0, .int .i64 0, .string ⟨#[]⟩, .slice none 0 0, .string ⟨#[]⟩, .int .i64 0, .slice none 0 0, .slice none 0 0] 63)).heap.size (w0.alloc (.cells #[.int .i64 0, .int .i64 0, .int .i64 0, .string ⟨#[]⟩, .slice none 0 0, .string ⟨#[]⟩, .int .i64 0, .slice none 0 0, .slice none 0 0] 63)) w1) (hc : n <= cap) (hg : w1.grownBy w3 (some m.F)) (hx : XsOut W0 w1 m n r w3 A cap) (hF0 : m.F < w.heap.size) (h : ∃ e, zx W0 w m e) :
  Laid9 W0 w m k S n r (.pointer (some ⟨p, 0, none⟩)) (((((((((w3.setCell ⟨p, 0, none⟩ (.int .i64 k)).setCell ⟨p, 1, none⟩ (.int .i64 0)).setCell ⟨p, 2, none⟩ (.int .i64 0)).setCell ⟨p, 3, none⟩ (.string ⟨#[]⟩)).setCell ⟨p, 4, none⟩ (.slice none 0 0)).setCell ⟨p, 5, none⟩ (.string S)).setCell ⟨p, 6, none⟩ (.int .i64 0)).setCell ⟨p, 7, none⟩ (.slice none 0 0)).setCell ⟨p, 8, none⟩ (.slice A n cap)) := by
 subst hwp
 have hz : (w0.alloc (.cells #[.int .i64 0, .int .i64 0, .int .i64 0, .string ⟨#[]⟩, .slice none 0 0, .string ⟨#[]⟩, .int .i64 0, .slice none 0 0, .slice none 0 0] 63)).heap.size = w0.heap.size + 1 := by simp
 have hs1 : w0.heap.size < w1.heap.size := by have := hb1.size; omega
 have hs3 : w0.heap.size < w3.heap.size := Nat.lt_of_lt_of_le hs1 hg.size
 have hne : w0.heap.size ≠ m.F := by have := hb0.size; omega
 have hcell : ∀ j, w3.cell? ⟨w0.heap.size, j, none⟩ = (w0.alloc (.cells #[.int .i64 0, .int .i64 0, .int .i64 0, .string ⟨#[]⟩, .slice none 0 0, .string ⟨#[]⟩, .int .i64 0, .slice none 0 0, .slice none 0 0] 63)).cell? ⟨w0.heap.size, j, none⟩ := fun j =>
  ((gcell hg).1 _ j hs1 hne).trans (hb1.cell (p := ⟨w0.heap.size, j, none⟩) (by show w0.heap.size < _; omega))
 have hfz : ∀ j, w3.frozen? ⟨w0.heap.size, j, none⟩ = false := fun j =>
  (((gcell hg).2 _ j hs1 hne).trans (hb1.frozen (p := ⟨w0.heap.size, j, none⟩) (by show w0.heap.size < _; omega))).trans (by simp)
 have h01 : Below w.heap.size w w1 := (hb0.alloc hb0.size _).trans (hb1.mono (by have := hb0.size; omega))
 have hg9 := za1 w3 w0.heap.size (.int .i64 k) (.int .i64 0) (.int .i64 0) (.string ⟨#[]⟩) (.slice none 0 0) (.string S) (.int .i64 0) (.slice none 0 0) (.slice A n cap)
 have hb9 := below9 w.heap.size w0.heap.size hb0.size w3 (.int .i64 k) (.int .i64 0) (.int .i64 0) (.string ⟨#[]⟩) (.slice none 0 0) (.string S) (.int .i64 0) (.slice none 0 0) (.slice A n cap)
 refine ⟨w0.heap.size, A, cap, rfl, hb0.size, hc, nine_set hs3 ((hcell 0).trans (za _ _ _ 0)) ((hcell 1).trans (za _ _ _ 1)) ((hcell 2).trans (za _ _ _ 2)) ((hcell 3).trans (za _ _ _ 3)) ((hcell 4).trans (za _ _ _ 4)) ((hcell 5).trans (za _ _ _ 5)) ((hcell 6).trans (za _ _ _ 6)) ((hcell 7).trans (za _ _ _ 7)) ((hcell 8).trans (za _ _ _ 8)) hfz _ _ _ _ _ _ _ _ _, ?_, ?_⟩
 ·
  have hw3 : w.grownBy w3 (some m.F) := (zb h01 _).trans hg
  exact ⟨hb9.os.trans hw3.os, hb9.tape.trans hw3.tape, hb9.output.trans hw3.output, Nat.le_trans hw3.size hb9.size, fun k hk hn => (hb9.block k hk).trans (hw3.block k hk hn)⟩
 ·
  cases r with
  | ok xs =>
   obtain ⟨X, h1, h2, h3, h4⟩ := hx
   exact ⟨⟨X, h1, fun w'' hg'' => (h2.aside (hg9.trans hg'') (Or.inl hs1)).lower h01.size, h3⟩, (h01.trans (h4.mono h01.size)).trans hb9⟩
  | err c =>
   obtain ⟨e, he⟩ := h
   exact ⟨hx.1, (he.later hx.2 ((zb h01 _).trans hg) hb9).1⟩
theorem set_count {p : Pl} {rec : List ByteArray -> Dt -> Fd Ex} {ls : List ByteArray} {l : List Dt} (h : l.length ≠ 2) : setF p rec ls l = .err 10 := by
 match l, h with
 | [], _ => rfl
 | [_], _ => rfl
 | [_, _], h => exact absurd rfl h
 | _ :: _ :: _ :: _, _ => rfl
theorem set_form {p : Pl} {rec : List ByteArray -> Dt -> Fd Ex} {ls : List ByteArray} {h b : Dt} (hk : h.k ≠ 3) : setF p rec ls [h, b] = .err 4 := by
 simp only [setF]; rw [if_neg hk]
theorem set_bad {p : Pl} {rec : List ByteArray -> Dt -> Fd Ex} {ls : List ByteArray} {h b : Dt} {e : Int} (hk : h.k = 3) (hn : namedF p ls h.s = .err e) : setF p rec ls [h, b] = .err e := by
 simp only [setF]; rw [if_pos hk, hn]
theorem set_ok {p : Pl} {rec : List ByteArray -> Dt -> Fd Ex} {ls : List ByteArray} {h b : Dt} {x : Ex} (hk : h.k = 3) (hn : namedF p ls h.s = .ok x) :
  setF p rec ls [h, b] = mapF (fun xs => .mk 8 dt0 h.s (if inL ls h.s = true then 1 else 0) [] xs) (allF (rec ls) [b]) := by
 simp only [setF]; rw [if_pos hk, hn, all_one]
 cases rec ls b <;> rfl
theorem named_kind {p : Pl} {ls : List ByteArray} {s : ByteArray} {x : Ex} (h : namedF p ls s = .ok x) : x = eK (if inL ls s = true then 2 else 3) s [] := by
 unfold namedF at h
 by_cases h1 : inL ls s = true
 ·
  rw [if_pos h1] at h ⊢; cases h; rfl
 rw [if_neg h1] at h ⊢
 split at h
 ·
  cases h
 split at h
 ·
  cases h
 split at h
 ·
  cases h; rfl
 cases h
theorem World.grownBy.rfl' (w : World) (row : Option Nat) : w.grownBy w row := ⟨rfl, rfl, rfl, Nat.le_refl _, fun _ _ _ => rfl⟩
theorem set_fin {W0 w wa wc : World} {m : Fm} {k : Int} {s : ByteArray} {n p cap : Nat} {A : Option Addr} {r3 : Fd (List Ex)} (hp : w.heap.size < p)
  (hx : match r3 with | .ok xs => (∃ X : List EV, X.length = n /\ (∀ w'', wc.grownBy w'' (some p) -> OwnAt (kitEx W0) 63 wa.heap.size w'' (.slice A X.length cap) X) /\ X.map (·.t) = xs) /\ Below wa.heap.size wa wc | .err c => 1 <= c /\ zx W0 wc m c)
  (h : zx W0 w m 0) (hg : w.grownBy wc (some m.F)) (hwa : w.heap.size < wa.heap.size) (hbw : ∀ xs, r3 = .ok xs -> Below w.heap.size w wa) (w1 w' : World) (N : Int) (h1 : wc.grownBy w1 (some p)) (h2 : w1.grownBy w' (some w.heap.size)) :
  ExPost W0 w m (mapF (fun xs => Ex.mk k dt0 s N [] xs) r3) (.returned (.agg #[.int .i64 k, .int .i64 0, .int .i64 0, .string ⟨#[]⟩, .slice none 0 0, .string s, .int .i64 N, .slice none 0 0, .slice A n cap])) w' := by
 have hb1 : Below w.heap.size wc w1 := ⟨h1.os, h1.tape, h1.output, h1.size, fun k hk => h1.block k (Nat.lt_of_lt_of_le hk hg.size) (fun e => by have := Option.some.inj e; omega)⟩
 have hb2 : Below w.heap.size w1 w' := ⟨h2.os, h2.tape, h2.output, h2.size, fun k hk => h2.block k (Nat.lt_of_lt_of_le hk (Nat.le_trans hg.size h1.size)) (fun e => by have := Option.some.inj e; omega)⟩
 cases r3 with
 | ok xs =>
  obtain ⟨⟨X, hn, hO, rfl⟩, hb⟩ := hx
  subst hn
  exact got_build (hO w1 h1) hwa (((hbw _ rfl).trans (hb.mono (Nat.le_of_lt hwa))).trans hb1) h2 k s N none 0 [] (NmIn.nil _ _ _)
 | err c =>
  obtain ⟨e1, e2⟩ := h.later hx.2 hg (hb1.trans hb2)
  exact ⟨⟨k, 0, 0, ⟨#[]⟩, none, 0, 0, s, N, none, 0, 0, A, n, cap, eC dt0, 0, 0⟩, rfl, hx.1, e1, e2⟩
theorem set_mid {W0 W w1 : World} {m : Fm} {rec : List ByteArray -> Dt -> Fd Ex} {ls : List ByteArray} {d y : Dt} {s : ByteArray} {r : Fd Ex} {e : Ending} (hk : d.k = 3) (hs : d.s = s) (hr : setF m.pl rec ls [d, y] = r) (hp : ExPost W0 W m (namedF m.pl ls s) e w1) (hF : zx W0 W m 0) :
  ∃ (v : EV) (r3 : Fd (List Ex)), e = .returned v.agg /\ W.grownBy w1 (some m.F) /\ Two W0 w1 m (allF (rec ls) [y]) r3 /\ r = mapF (fun xs => .mk 8 dt0 s (if (v.k == 2) = true then 1 else 0) [] xs) r3 /\ (∀ xs, r3 = .ok xs -> Below W.heap.size W w1) := by
 cases hnm : namedF m.pl ls s with
 | ok x =>
  rw [hnm] at hp
  obtain ⟨v1, rfl, htx, hlo, hhi, hok, hb1⟩ := hp
  have hk1 : v1.k = (if inL ls s = true then 2 else 3) := by
   have := hok.1.kind
   rw [htx, named_kind hnm] at this
   simpa [EV.cells, Ex.kind, eK] using this
  have hkB : (v1.k == 2) = inL ls s := by rw [hk1]; cases inL ls s <;> rfl
  refine ⟨v1, _, rfl, zb hb1 _, Or.inl ⟨hF.next hb1, rfl⟩, ?_, fun _ _ => hb1⟩
  rw [<- hr, set_ok (rec := rec) (b := y) hk (by rw [hs]; exact hnm), hs, hkB]
 | err c =>
  rw [hnm] at hp
  obtain ⟨v1, rfl, hc1, hF1, hg1⟩ := hp
  refine ⟨v1, .err c, rfl, hg1, Or.inr ⟨c, hc1, hF1, rfl⟩, ?_, fun xs h => by cases h⟩
  rw [<- hr, set_bad (rec := rec) (b := y) hk (by rw [hs]; exact hnm)]
  rfl
set_option maxHeartbeats 4000000 in
theorem set_any {W0 w : World} {m : Fm} {n : Nat} {rec : List ByteArray -> Dt -> Fd Ex} (he : ExprSays W0 m n rec) (h : zx W0 w m 0) (A : Option Addr) (cap : Nat) (l : List Dt) (hl : DsAt W0 w m.F A cap l) (hgd : ∀ x ∈ l, Good n x) (hn : l.length <= 1048576) (B : Option Addr) (bc : Nat) (ls : List ByteArray) (hsc : ScAt w m.F B bc ls) (hls : ls.length <= 40) :
  Calls Tryd.prog 81 #[.pointer (some ⟨m.F, 0, none⟩), .slice A l.length cap, .slice B ls.length bc] w (ExPost W0 w m (setF m.pl rec ls l)) := by
 have H := Lib.hid h
 have HE := Lib.hid he
 have HSC := Lib.hid hsc
 have hlt := h.lt
 have hne := World.new_ne w _ h.c0
 have hbc := hsc.le
 have hcap := hl.le
 have hcapm := hl.cap_
 unfold maxLen at hcapm
 by_cases h2 : l.length = 2
 case neg =>
  rw [set_count h2]
  have hl2 : ((l.length : Int) != 2) = true := by simp; omega
  clear h hl he hgd hsc h2
  go_enter Tryd.func81, Tryd.ntmps81
  go_wp2_with fail
  refine (ze (H.out.next ((Below.refl _ _).alloc (Nat.le_refl _) _)) 10).mono ?_
  rintro e w2 ⟨rfl, hF, hg⟩
  obtain ⟨g1, g2⟩ := gcell hg
  have HF := Lib.hid hF
  have HG := Lib.hid hg
  have hsz : w.heap.size < w2.heap.size := Nat.lt_of_lt_of_le (by simp) hg.size
  clear hF hg
  unfold evz EV.agg
  go_wp2_with fail
  exact bodyPost_ret (v := evz.agg) (by simp [results, Tryd.results81, go_sem, evz, EV.agg, g1, hne]) rfl (zo H.out HF.out HG.out (by decide) evz (za1 _ _ _ _ _ _ _ _ _ _ _))
 obtain ⟨d, y, rfl⟩ : ∃ d y, l = [d, y] := by
  match l, h2 with
  | [d, y], _ => exact ⟨d, y, rfl⟩
 obtain ⟨b, o, A', c', rfl, hbw, hbF, c0, c1, c2, c3, hd, hi, ht⟩ := hl.first h.below h.ge
 have hneB := World.new_ne w _ c0
 have hds := (hgd d (by simp)).wide
 have HGD := Lib.hid (show ∀ x ∈ [y], Good n x from fun x hx => hgd x (by simp at hx; simp [hx]))
 have HT := Lib.hid ht
 simp only [List.length_cons, List.length_nil, Nat.zero_add, Nat.reduceAdd] at *
 clear h hl he hgd hsc h2 hd hi ht
 by_cases hk : d.k = 3
 case neg =>
  rw [set_form hk]
  have hk2 : (d.k != 3) = true := by simpa using hk
  clear hk
  go_enter Tryd.func81, Tryd.ntmps81
  go_wp2_with fail
  refine (ze (H.out.next ((Below.refl _ _).alloc (Nat.le_refl _) _)) 4).mono ?_
  rintro e w2 ⟨rfl, hF, hg⟩
  obtain ⟨g1, g2⟩ := gcell hg
  have HF := Lib.hid hF
  have HG := Lib.hid hg
  have hsz : w.heap.size < w2.heap.size := Nat.lt_of_lt_of_le (by simp) hg.size
  clear hF hg
  unfold evz EV.agg
  go_wp2_with fail
  exact bodyPost_ret (v := evz.agg) (by simp [results, Tryd.results81, go_sem, evz, EV.agg, g1, hne]) rfl (zo H.out HF.out HG.out (by decide) evz (za1 _ _ _ _ _ _ _ _ _ _ _))
 have hk2 : (d.k != 3) = false := by simpa using hk
 obtain ⟨r, hr⟩ : ∃ r, setF m.pl rec ls [d, y] = r := ⟨_, rfl⟩
 have HR := Lib.hid hr
 rw [hr]
 have HK := Lib.hid hk
 clear hr hk
 obtain ⟨s, hs⟩ : ∃ s, d.s = s := ⟨_, rfl⟩
 have HS := Lib.hid hs
 rw [hs] at c2 hds
 clear hs
 go_enter Tryd.func81, Tryd.ntmps81
 go_wp2_with fail
 refine (variable_any (H.out.next ((Below.refl _ _).alloc (Nat.le_refl _) _)) s hds B bc ls (HSC.out.below ((Below.refl _ _).alloc (Nat.le_refl _) _))).mono ?_
 intro e w1 hpost
 obtain ⟨v1, r3, rfl, hg1, htwo, hrr, hbk⟩ := set_mid (rec := rec) (y := y) HK.out HS.out HR.out hpost (H.out.next ((Below.refl _ _).alloc (Nat.le_refl _) _))
 obtain ⟨g1, g2⟩ := gcell hg1
 have hsz : w.heap.size < w1.heap.size := Nat.lt_of_lt_of_le (by simp) hg1.size
 have hsb : b < w1.heap.size := by omega
 have hsF : m.F < w1.heap.size := by omega
 have hneF : w1.heap.size ≠ m.F := by omega
 have hneF2 : w1.heap.size + 1 ≠ m.F := by omega
 have hneB1 : w1.heap.size ≠ b := by omega
 have hneB2 : w1.heap.size + 1 ≠ b := by omega
 have HG1 := Lib.hid ((zb ((Below.refl w.heap.size w).alloc (Nat.le_refl _) (.cells #[.int .i64 0, .int .i64 0, .int .i64 0, .string ⟨#[]⟩, .slice none 0 0, .string ⟨#[]⟩, .int .i64 0, .slice none 0 0, .slice none 0 0] 63)) (some m.F)).trans hg1)
 have HTW := Lib.hid htwo
 have m1 : w1.cell? ⟨b, o + 2, none⟩ = some (.string s) := (g1 b (o + 2) (by simp; omega) hbF).trans ((World.cell?_alloc_lt _ _ ⟨b, o + 2, none⟩ hbw).trans c2)
 obtain ⟨kb, hkb⟩ : ∃ kb, (v1.k == 2) = kb := ⟨_, rfl⟩
 rw [hkb] at hrr
 have HRR := Lib.hid hrr
 have HBK := Lib.hid (fun xs h => ((Below.refl w.heap.size w).alloc (Nat.le_refl _) (.cells #[.int .i64 0, .int .i64 0, .int .i64 0, .string ⟨#[]⟩, .slice none 0 0, .string ⟨#[]⟩, .int .i64 0, .slice none 0 0, .slice none 0 0] 63)).trans ((hbk xs h).mono (by simp)))
 have hcap1 : ¬ cap = 1 := by omega
 unfold EV.agg
 clear htwo hrr hpost hbk
 obtain ⟨wa, hwa⟩ : ∃ wa : World, wa = w1.alloc (.cells #[.int .i64 v1.k, .int .i64 v1.dk, .int .i64 v1.dn, .string v1.ds, .slice v1.dA v1.dl v1.dc, .string v1.S, .int .i64 v1.N, .slice v1.nA v1.nl v1.nc, .slice v1.aA v1.al v1.ac] 63) := ⟨_, rfl⟩
 go_upto_region 6 with fail
 go_cut [8] (fun v wx => Laid9 W0 (w1.alloc (.cells #[.int .i64 v1.k, .int .i64 v1.dk, .int .i64 v1.dn, .string v1.ds, .slice v1.dA v1.dl v1.dc, .string v1.S, .int .i64 v1.N, .slice v1.nA v1.nl v1.nc, .slice v1.aA v1.al v1.ac] 63)) m 8 s 1 r3 v wx)
 case first =>
  rw [<- hwa]
  have hza : wa.heap.size = w1.heap.size + 1 := by rw [hwa]; simp
  have hba : Below w1.heap.size w1 wa := by rw [hwa]; exact (Below.refl _ _).alloc (Nat.le_refl _) _
  have ma : wa.cell? ⟨b, o + 2, none⟩ = some (.string s) := (hba.cell (p := ⟨b, o + 2, none⟩) hsb).trans m1
  have HTA := Lib.hid (HTW.out.next hba)
  have hnB := World.new_ne wa _ ma
  have hsb2 : b < wa.heap.size := by omega
  have hFa : m.F < wa.heap.size := by omega
  have hneFa : wa.heap.size ≠ m.F := by omega
  have HDS := Lib.hid ((HT.out.grown HG1.out).below hba)
  have HSA := Lib.hid ((HSC.out.grown HG1.out).below hba)
  have HWA := Lib.hid hwa
  clear hwa hba g1 g2 m1 hza hneF2 hneB2
  go_region_held3 (fun w' => w'.cell? ⟨b, o + 2, none⟩ = some (.string s)) (go_keep)
   (first | (go_at_call 68; refine (exprs_two HE.out (some ⟨b, o + 4, none⟩) (cap - 1) [y] (HDS.out.below (by first | exact Below.refl _ _ | exact (Below.refl _ _).drew | exact (Below.refl _ _).alloc (Nat.le_refl _) _ | exact ((Below.refl _ _).alloc (Nat.le_refl _) _).drew | exact ((Below.refl _ _).drew).alloc (Nat.le_refl _) _ | exact (((Below.refl _ _).drew).alloc (Nat.le_refl _) _).drew | exact ((Below.refl _ _).alloc (Nat.le_refl _) _).alloc (by simp) _)) HGD.out (by simp) B bc ls (HSA.out.below (by first | exact Below.refl _ _ | exact (Below.refl _ _).drew | exact (Below.refl _ _).alloc (Nat.le_refl _) _ | exact ((Below.refl _ _).alloc (Nat.le_refl _) _).drew | exact ((Below.refl _ _).drew).alloc (Nat.le_refl _) _ | exact (((Below.refl _ _).drew).alloc (Nat.le_refl _) _).drew | exact ((Below.refl _ _).alloc (Nat.le_refl _) _).alloc (by simp) _)) hls (HTA.out.next (by first | exact Below.refl _ _ | exact (Below.refl _ _).drew | exact (Below.refl _ _).alloc (Nat.le_refl _) _ | exact ((Below.refl _ _).alloc (Nat.le_refl _) _).drew | exact ((Below.refl _ _).drew).alloc (Nat.le_refl _) _ | exact (((Below.refl _ _).drew).alloc (Nat.le_refl _) _).drew | exact ((Below.refl _ _).alloc (Nat.le_refl _) _).alloc (by simp) _))).mono ?_; rintro e w3 ⟨A3, cp3, rfl, hle3, hg3, hx3⟩; change 1 <= cp3 at hle3; change XsOut W0 _ m 1 r3 w3 A3 cp3 at hx3; have m0 : w3.cell? ⟨b, o + 2, none⟩ = some (.string s) := ((gcell hg3).1 b (o + 2) (by simp; omega) hbF).trans (by first | exact ma | exact (World.cell?_alloc_lt _ _ ⟨b, o + 2, none⟩ hsb2).trans ma); obtain ⟨g3, g4⟩ := gcell hg3; have HX3 := Lib.hid hx3; have HG3 := Lib.hid hg3; clear hg3 hx3))
  all_goals (go_wp2_with fail)
  all_goals go_meet
  all_goals rw [<- HWA.out]
  all_goals (first | (with_reducible refine laid9_after ?_ hle3 HG3.out HX3.out) | (with_reducible refine laid9_before rfl (Below.refl _ _) ((Below.refl _ _).drew) hle3 HG3.out HX3.out hFa HTA.out.former))
  all_goals exact (by first | exact Below.refl _ _ | exact (Below.refl _ _).drew | exact (Below.refl _ _).alloc (Nat.le_refl _) _ | exact ((Below.refl _ _).alloc (Nat.le_refl _) _).drew | exact ((Below.refl _ _).drew).alloc (Nat.le_refl _) _ | exact (((Below.refl _ _).drew).alloc (Nat.le_refl _) _).drew | exact ((Below.refl _ _).alloc (Nat.le_refl _) _).alloc (by simp) _)
 obtain ⟨p, A3, cp3, rfl, hp, hle3, hN, hg3, hx3⟩ := hcut
 obtain ⟨g3, g4⟩ := gcell hg3
 have hza : w1.heap.size + 1 <= p := by simpa using hp
 have hzc : w1.heap.size + 1 <= wc.heap.size := by simpa using hg3.size
 have hpw : w.heap.size ≠ p := by omega
 have hp1 : w1.heap.size ≠ p := by omega
 have hpF : p ≠ m.F := by omega
 have hwc : w.heap.size < wc.heap.size := by omega
 have q0 := hN.c0
 have q1 := hN.c1
 have q2 := hN.c2
 have q3 := hN.c3
 have q4 := hN.c4
 have q5 := hN.c5
 have q6 := hN.c6
 have q7 := hN.c7
 have q8 := hN.c8
 have qf := hN.fz
 have hqlt := hN.lt
 have R : ∀ j, wc.cell? ⟨w.heap.size, j, none⟩ = (w.alloc (.cells #[.int .i64 0, .int .i64 0, .int .i64 0, .string ⟨#[]⟩, .slice none 0 0, .string ⟨#[]⟩, .int .i64 0, .slice none 0 0, .slice none 0 0] 63)).cell? ⟨w.heap.size, j, none⟩ := fun j => (g3 _ j (by simp; omega) hne).trans ((World.cell?_alloc_lt _ _ ⟨w.heap.size, j, none⟩ hsz).trans (g1 _ j (by simp) hne))
 have HGA := Lib.hid ((HG1.out.trans (zb ((Below.refl w1.heap.size w1).alloc (Nat.le_refl _) _) _)).trans hg3)
 have HX3 := Lib.hid hx3
 have HFIN := Lib.hid (set_fin (w := w) (wc := wc) (p := p) (s := s) (k := 8) (A := A3) (cap := cp3) (n := 1) (r3 := r3) (by omega) HX3.out H.out HGA.out (by simp; omega) (fun xs h => (HBK.out xs h).trans (((Below.refl w1.heap.size w1).alloc (Nat.le_refl _) _).mono (by omega))))
 clear hN hg3 hx3 hwa HTW
 cases kb
 ·
  go_wp2_with fail
  exact bodyPost_ret (v := .agg #[.int .i64 8, .int .i64 0, .int .i64 0, .string ⟨#[]⟩, .slice none 0 0, .string s, .int .i64 0, .slice none 0 0, .slice A3 1 cp3]) (by simp [results, Tryd.results81, go_sem, R]) rfl (by rw [HRR.out]; exact HFIN.out wc _ 0 (World.grownBy.rfl' _ _) (za1 _ _ _ _ _ _ _ _ _ _ _))
 go_wp2_with fail
 exact bodyPost_ret (v := .agg #[.int .i64 8, .int .i64 0, .int .i64 0, .string ⟨#[]⟩, .slice none 0 0, .string s, .int .i64 1, .slice none 0 0, .slice A3 1 cp3]) (by simp [results, Tryd.results81, go_sem, R]) rfl (by rw [HRR.out]; exact HFIN.out _ _ 1 (zd _ _ _ _) (za1 _ _ _ _ _ _ _ _ _ _ _))
end Go.Proofs.YtjmeodadkjcmmaaDoor
