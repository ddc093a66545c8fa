import Derived.Test.YtjmeodadkjcmmaaDoorGUn
namespace Go.Proofs.YtjmeodadkjcmmaaDoor
open Go.RowKit Go.ChangeShapes Go.WideShapes Go.Deep Go.ChangeAt
set_option linter.unusedVariables false
set_option maxRecDepth 20000
theorem formed_zero {W0 w w7 : World} {c : Int} (hc : 1 <= c) (hb : Below (w.alloc (.cells #[.int .i64 0, .int .i64 0, .int .i64 0, .string ⟨#[]⟩, .slice none 0 0, .string ⟨#[]⟩, .int .i64 0, .slice none 0 0, .slice none 0 0] 63)).heap.size (w.alloc (.cells #[.int .i64 0, .int .i64 0, .int .i64 0, .string ⟨#[]⟩, .slice none 0 0, .string ⟨#[]⟩, .int .i64 0, .slice none 0 0, .slice none 0 0] 63)) w7) : Formed W0 w (.err c) (.pointer (some ⟨w.heap.size, 0, none⟩)) (.int .i64 c) w7 := by
 have hlt : w.heap.size < (w.alloc (.cells #[.int .i64 0, .int .i64 0, .int .i64 0, .string ⟨#[]⟩, .slice none 0 0, .string ⟨#[]⟩, .int .i64 0, .slice none 0 0, .slice none 0 0] 63)).heap.size := by simp
 have hz : ∀ j, w7.cell? ⟨w.heap.size, j, none⟩ = (#[.int .i64 0, .int .i64 0, .int .i64 0, .string ⟨#[]⟩, .slice none 0 0, .string ⟨#[]⟩, .int .i64 0, .slice none 0 0, .slice none 0 0] : Array Value)[j]? := fun j => (hb.cell (p := ⟨w.heap.size, j, none⟩) hlt).trans (za _ _ _ j)
 have hbw : Below w.heap.size w (w.alloc (.cells #[.int .i64 0, .int .i64 0, .int .i64 0, .string ⟨#[]⟩, .slice none 0 0, .string ⟨#[]⟩, .int .i64 0, .slice none 0 0, .slice none 0 0] 63)) := (Below.refl _ _).alloc (Nat.le_refl _) _
 exact ⟨w.heap.size, evz, c, rfl, rfl, Nat.le_refl _, ⟨Nat.lt_of_lt_of_le hlt hb.size, hz 0, hz 1, hz 2, hz 3, hz 4, hz 5, hz 6, hz 7, hz 8⟩, hbw.trans (hb.mono hbw.size), rfl, hc⟩
theorem zero_at {w w7 : World} (hb : Below (w.alloc (.cells #[.int .i64 0, .int .i64 0, .int .i64 0, .string ⟨#[]⟩, .slice none 0 0, .string ⟨#[]⟩, .int .i64 0, .slice none 0 0, .slice none 0 0] 63)).heap.size (w.alloc (.cells #[.int .i64 0, .int .i64 0, .int .i64 0, .string ⟨#[]⟩, .slice none 0 0, .string ⟨#[]⟩, .int .i64 0, .slice none 0 0, .slice none 0 0] 63)) w7) : (∀ j, w7.cell? ⟨w.heap.size, j, none⟩ = (#[.int .i64 0, .int .i64 0, .int .i64 0, .string ⟨#[]⟩, .slice none 0 0, .string ⟨#[]⟩, .int .i64 0, .slice none 0 0, .slice none 0 0] : Array Value)[j]?) /\ (∀ j, w7.frozen? ⟨w.heap.size, j, none⟩ = false) /\ w.heap.size < w7.heap.size /\ Below w.heap.size w w7 := by
 have hlt : w.heap.size < (w.alloc (.cells #[.int .i64 0, .int .i64 0, .int .i64 0, .string ⟨#[]⟩, .slice none 0 0, .string ⟨#[]⟩, .int .i64 0, .slice none 0 0, .slice none 0 0] 63)).heap.size := by simp
 have hbw : Below w.heap.size w (w.alloc (.cells #[.int .i64 0, .int .i64 0, .int .i64 0, .string ⟨#[]⟩, .slice none 0 0, .string ⟨#[]⟩, .int .i64 0, .slice none 0 0, .slice none 0 0] 63)) := (Below.refl _ _).alloc (Nat.le_refl _) _
 exact ⟨fun j => (hb.cell (p := ⟨w.heap.size, j, none⟩) hlt).trans (za _ _ _ j), fun j => (hb.frozen (p := ⟨w.heap.size, j, none⟩) hlt).trans (zi _ _ _ j), Nat.lt_of_lt_of_le hlt hb.size, hbw.trans (hb.mono hbw.size)⟩
theorem formed_lam {W0 w w7 wc : World} {nA : Option Addr} {nc : Nat} {ns : List ByteArray} {v : EV} {c : Int} {rb : Fd Ex} (hb7 : Below (w.alloc (.cells #[.int .i64 0, .int .i64 0, .int .i64 0, .string ⟨#[]⟩, .slice none 0 0, .string ⟨#[]⟩, .int .i64 0, .slice none 0 0, .slice none 0 0] 63)).heap.size (w.alloc (.cells #[.int .i64 0, .int .i64 0, .int .i64 0, .string ⟨#[]⟩, .slice none 0 0, .string ⟨#[]⟩, .int .i64 0, .slice none 0 0, .slice none 0 0] 63)) w7) (hn : NmIn w7 (w.alloc (.cells #[.int .i64 0, .int .i64 0, .int .i64 0, .string ⟨#[]⟩, .slice none 0 0, .string ⟨#[]⟩, .int .i64 0, .slice none 0 0, .slice none 0 0] 63)).heap.size w7.heap.size nA nc ns) (hbw : Below w7.heap.size w7 wc) (hx : RefFact W0 w7 wc v c rb) :
  Formed W0 w (mapF (fun y => .mk 6 dt0 ⟨#[]⟩ 0 ns [y]) rb) (.pointer (some ⟨w.heap.size, 0, none⟩)) (.int .i64 c)
   ((((((((((wc.alloc (.cells #[.int .i64 v.k, .int .i64 v.dk, .int .i64 v.dn, .string v.ds, .slice v.dA v.dl v.dc, .string v.S, .int .i64 v.N, .slice v.nA v.nl v.nc, .slice v.aA v.al v.ac] 63)).setCell ⟨w.heap.size, 0, none⟩ (.int .i64 6)).setCell ⟨w.heap.size, 1, none⟩ (.int .i64 0)).setCell ⟨w.heap.size, 2, none⟩ (.int .i64 0)).setCell ⟨w.heap.size, 3, none⟩ (.string ⟨#[]⟩)).setCell ⟨w.heap.size, 4, none⟩ (.slice none 0 0)).setCell ⟨w.heap.size, 5, none⟩ (.string ⟨#[]⟩)).setCell ⟨w.heap.size, 6, none⟩ (.int .i64 0)).setCell ⟨w.heap.size, 7, none⟩ (.slice nA ns.length nc)).setCell ⟨w.heap.size, 8, none⟩ (.slice (some ⟨wc.heap.size, 0, none⟩) 1 1)) := by
 obtain ⟨hz, hf, hlt, hb⟩ := zero_at hb7
 have s1 : w.heap.size + 1 = (w.alloc (.cells #[.int .i64 0, .int .i64 0, .int .i64 0, .string ⟨#[]⟩, .slice none 0 0, .string ⟨#[]⟩, .int .i64 0, .slice none 0 0, .slice none 0 0] 63)).heap.size := by simp
 have s7 := hb7.size
 have sc := hbw.size
 have ha : Below wc.heap.size wc (wc.alloc (.cells #[.int .i64 v.k, .int .i64 v.dk, .int .i64 v.dn, .string v.ds, .slice v.dA v.dl v.dc, .string v.S, .int .i64 v.N, .slice v.nA v.nl v.nc, .slice v.aA v.al v.ac] 63)) := (Below.refl _ _).alloc (Nat.le_refl _) _
 have sa : (wc.alloc (.cells #[.int .i64 v.k, .int .i64 v.dk, .int .i64 v.dn, .string v.ds, .slice v.dA v.dl v.dc, .string v.S, .int .i64 v.N, .slice v.nA v.nl v.nc, .slice v.aA v.al v.ac] 63)).heap.size = wc.heap.size + 1 := by simp
 obtain ⟨wa, hwa⟩ : ∃ wa, (wc.alloc (.cells #[.int .i64 v.k, .int .i64 v.dk, .int .i64 v.dn, .string v.ds, .slice v.dA v.dl v.dc, .string v.S, .int .i64 v.N, .slice v.nA v.nl v.nc, .slice v.aA v.al v.ac] 63)) = wa := ⟨_, rfl⟩
 have hrow : ∀ j, wa.cell? ⟨wc.heap.size, j, none⟩ = v.cells.toArray[j]? := fun j => by rw [<- hwa]; exact za _ _ _ j
 rw [hwa] at ha sa ⊢
 have hba : Below w7.heap.size w7 wa := hbw.trans (ha.mono sc)
 have hza : ∀ j, wa.cell? ⟨w.heap.size, j, none⟩ = (#[.int .i64 0, .int .i64 0, .int .i64 0, .string ⟨#[]⟩, .slice none 0 0, .string ⟨#[]⟩, .int .i64 0, .slice none 0 0, .slice none 0 0] : Array Value)[j]? := fun j => (hba.cell (p := ⟨w.heap.size, j, none⟩) hlt).trans (hz j)
 have hg := za1 wa w.heap.size (.int .i64 6) (.int .i64 0) (.int .i64 0) (.string ⟨#[]⟩) (.slice none 0 0) (.string ⟨#[]⟩) (.int .i64 0) (.slice nA ns.length nc) (.slice (some ⟨wc.heap.size, 0, none⟩) 1 1)
 have hE := evAt_set (w := wa) (p := w.heap.size) (v := lamV nA nc ns wc.heap.size v.t (w.heap.size + 1) wa.heap.size) (by omega) (hza 0) (hza 1) (hza 2) (hza 3) (hza 4) (hza 5) (hza 6) (hza 7) (hza 8)
 refine ⟨w.heap.size, lamV nA nc ns wc.heap.size v.t (w.heap.size + 1) wa.heap.size, c, rfl, rfl, Nat.le_refl _, hE, zu (hb.trans (hba.mono (by omega))) (Nat.le_refl _) hg, ?_⟩
 cases rb with
 | err e => exact hx
 | ok y =>
  obtain ⟨rfl, rfl, h3, h4, h5⟩ := hx
  refine ⟨rfl, rfl, Nat.le_succ _, hg.size, ?_⟩
  have hok : (kitEx W0).ok wa (lamV nA nc ns wc.heap.size v.t (w.heap.size + 1) wa.heap.size) :=
   lamV_ok (hn.mono (zw hba) hba.size (by omega) hba.size) (h5.1.mono (zw ha) ha.size (by omega) (by omega)) (by omega) (by omega) (Nat.le_refl _) hrow
  exact (kitEx W0).kept _ _ _ (some w.heap.size) hok hg (fun b hb e => by
   have h1 : w.heap.size + 1 <= b := hb.1
   have := Option.some.inj e
   omega)
theorem dfv_if {W0 w w' : World} {v : EV} {c : Int} {r : Fd Ex} {base : Nat} {nm : ByteArray} (h : RefFact W0 w w' v c r) (hb : base <= w.heap.size) {u z : Value} (hu : ∀ b, u.ownBlock = some b -> b < w.heap.size) (hz : ∀ b, z.ownBlock = some b -> b < w.heap.size) :
  (∀ W, Below w'.heap.size w' W -> (kitDf W0 (∃ y, r = .ok y)).ok W ⟨nm, v⟩) /\ (∀ b, (kitDf W0 (∃ y, r = .ok y)).uses ⟨nm, v⟩ b -> base <= b) /\ (∀ b, (kitDf W0 (∃ y, r = .ok y)).uses ⟨nm, v⟩ b -> u.ownBlock ≠ some b) /\ ∀ b, (kitDf W0 (∃ y, r = .ok y)).uses ⟨nm, v⟩ b -> z.ownBlock ≠ some b := by
 have key : ∀ b, (kitDf W0 (∃ y, r = .ok y)).uses ⟨nm, v⟩ b -> w.heap.size <= b := by
  rintro b ⟨⟨y, rfl⟩, h1, _⟩
  have h2 : w.heap.size <= v.lo := h.2.2.1
  have h1' : v.lo <= b := h1
  omega
 refine ⟨fun W hW => ?_, fun b h1 => Nat.le_trans hb (key b h1), fun b h1 e => by have := key b h1; have := hu b e; omega, fun b h1 e => by have := key b h1; have := hz b e; omega⟩
 rintro ⟨y, rfl⟩
 exact (kitEx W0).kept _ _ _ none h.2.2.2.2 (zb hW _) (fun b _ => by simp)
def DMid (W0 wz : World) (base : Nat) (m : Fm) (U : Nat) (vS vP : Value) (S : List NE) (p : Prop) (D : List DfV) (P : List UpV) (w' : World) : Prop := ∃ vD, UnAt W0 w' base m U vS vD vP S p D P /\ zy base U U wz w'
theorem two_set {w : World} {p : Nat} {x0 x1 u0 u1 : Value} (e0 : w.cell? ⟨p, 0, none⟩ = some x0) (e1 : w.cell? ⟨p, 1, none⟩ = some x1) :
  ((w.setCell ⟨p, 0, none⟩ u0).setCell ⟨p, 1, none⟩ u1).cell? ⟨p, 0, none⟩ = some u0 /\ ((w.setCell ⟨p, 0, none⟩ u0).setCell ⟨p, 1, none⟩ u1).cell? ⟨p, 1, none⟩ = some u1 /\ w.grownBy ((w.setCell ⟨p, 0, none⟩ u0).setCell ⟨p, 1, none⟩ u1) (some p) :=
 ⟨zj (zk e0) (by decide), zk (zj e1 (by decide)), (zd _ _ _ _).trans (zd _ _ _ _)⟩
theorem below_g {w w6 w7 w8 : World} {g : Nat} (h6 : Below w.heap.size w w6) (h7 : Below w6.heap.size w6 w7) (hgw : w.heap.size <= g) (hg : w7.grownBy w8 (some g)) : Below w.heap.size w w8 := zu (h6.trans (h7.mono h6.size)) hgw hg
theorem upv_ok {W0 w6 w7 w8 : World} {g cap : Nat} {A : Option Addr} {xs : List Ex} {n : ByteArray} (hA : ArgsIn W0 w7 w6.heap.size w7.heap.size A cap xs) (hg : w7.grownBy w8 (some g)) (hgl : g < w6.heap.size) : (kitUp W0 True).ok w8 ⟨n, A, xs.length, cap, xs, w6.heap.size, w7.heap.size⟩ :=
 fun _ => ⟨rfl, hA.mono (zm hg (fun b h1 h2 e => by have := Option.some.inj e; omega)) hg.size (Nat.le_refl _) (Nat.le_refl _), hg.size⟩
theorem defT_view {g : Dt} {gs : List Dt} {n : ByteArray} (h : defT (g :: gs) = some n) : (g.k = 3 /\ n = g.s /\ ∃ b, gs = [b]) \/ (g.k = 4 /\ ∃ g0 ps b m, g.l = g0 :: ps /\ n = g0.s /\ gs = b :: m) := by
 by_cases hk : g.k = 4
 ·
  right
  cases hl : g.l with
  | nil => rw [def_nil hk hl] at h; cases h
  | cons g0 ps =>
   rw [def_list hk hl] at h
   split at h
   ·
    rename_i hc
    cases h
    match gs, hc.2 with
    | b :: m, _ => exact ⟨hk, g0, ps, b, m, rfl, rfl, rfl⟩
   cases h
 left
 rw [def_name hk] at h
 split at h
 ·
  rename_i hc
  cases h
  refine ⟨?_, rfl, List.length_eq_one_iff.1 hc.2⟩
  by_cases h3 : g.k = 3
  ·
   exact h3
  have := bind_kind h3
  rw [hc.1] at this
  cases this
 cases h
def NmAt (w : World) (r : Fd (List ByteArray)) (v c : Value) (w' : World) : Prop := RefNm w r (.returned (.tuple #[v, c])) w'
theorem RefNm.both {w w' : World} {r : Fd (List ByteArray)} {e : Ending} (h : RefNm w r e w') : ∃ (v : Value) (c : Int), e = .returned (.tuple #[v, .int .i64 c]) /\ NmAt w r v (.int .i64 c) w' := by
 cases r with
 | ok ns =>
  obtain ⟨A, cap, rfl, h2⟩ := h
  exact ⟨_, 0, rfl, A, cap, rfl, h2⟩
 | err c =>
  obtain ⟨v, rfl, h2⟩ := h
  exact ⟨v, c, rfl, v, rfl, h2⟩
theorem NmAt.parts {w w' : World} {r : Fd (List ByteArray)} {v c : Value} (h : NmAt w r v c w') : Below w.heap.size w w' /\ ((∃ ns A cap, r = .ok ns /\ c = .int .i64 0 /\ v = .slice A ns.length cap /\ NmIn w' w.heap.size w'.heap.size A cap ns) \/ ∃ e, r = .err e /\ c = .int .i64 e /\ 1 <= e) := by
 cases r with
 | ok ns =>
  obtain ⟨A, cap, he, h2, h3⟩ := h
  simp only [Ending.returned.injEq, Value.tuple.injEq, Array.mk.injEq, List.cons.injEq, and_true] at he
  obtain ⟨rfl, rfl⟩ := he
  exact ⟨h3, Or.inl ⟨ns, A, cap, rfl, rfl, rfl, h2⟩⟩
 | err e =>
  obtain ⟨v', he, h2, h3⟩ := h
  simp only [Ending.returned.injEq, Value.tuple.injEq, Array.mk.injEq, List.cons.injEq, and_true] at he
  obtain ⟨rfl, rfl⟩ := he
  exact ⟨h3, Or.inr ⟨e, rfl, rfl, h2⟩⟩
theorem refFact_two {W0 w w' : World} {v : EV} {c : Int} {r : Fd Ex} (h : RefFact W0 w w' v c r) : (∃ y, r = .ok y /\ c = 0 /\ v.t = y) \/ (r = .err c /\ 1 <= c) := by
 cases r with
 | ok y => exact Or.inl ⟨y, rfl, h.1, h.2.1⟩
 | err e => obtain ⟨rfl, h1⟩ := h; exact Or.inr ⟨rfl, h1⟩
end Go.Proofs.YtjmeodadkjcmmaaDoor
