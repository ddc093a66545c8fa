import Derived.Test.YtjmeodadkjcmmaaDoorGRef
import Derived.Deep.RegionHeld3
namespace Go.Proofs.YtjmeodadkjcmmaaDoor
open Go.RowKit Go.ChangeShapes Go.WideShapes Go.Deep Go.ChangeAt
set_option linter.unusedVariables false
set_option maxRecDepth 20000
theorem ref_copy {W0 w w1 w3 w' : World} {v : EV} {c : Int} {r : Fd Ex} {g : Nat} (hb1 : Below w.heap.size w w1) (hb3 : Below w1.heap.size w1 w3) (hx : RefFact W0 w1 w3 v c r) (hg : w3.grownBy w' (some g)) (hgw : w.heap.size <= g) (hg1 : g < w1.heap.size) : RefPost W0 w r (.returned (.tuple #[v.agg, .int .i64 c])) w' := by
 have hb : Below w.heap.size w w' := by
  have h := hb1.trans (hb3.mono hb1.size)
  have hs := h.size
  exact ⟨hg.os.trans h.os, hg.tape.trans h.tape, hg.output.trans h.output, Nat.le_trans h.size hg.size, fun k hk => (hg.block k (by omega) (fun e => by have := Option.some.inj e; omega)).trans (h.block k hk)⟩
 cases r with
 | ok x =>
  obtain ⟨rfl, ht, h2, h3, hok⟩ := hx
  refine ⟨{ v with lo := w.heap.size, hi := w'.heap.size }, rfl, ht, rfl, rfl, ⟨?_, Nat.le_refl _⟩, hb⟩
  have h4 := hb1.size
  exact hok.1.mono (zm hg (fun b l1 l2 e => by have := Option.some.inj e; omega)) hg.size (by show w.heap.size <= v.lo; omega) (by show v.hi <= w'.heap.size; exact Nat.le_trans h3 hg.size)
 | err e =>
  obtain ⟨rfl, h1⟩ := hx
  exact ⟨v, rfl, h1, hb⟩
set_option maxHeartbeats 4000000 in
theorem formedBody_one {W0 w : World} {m : Fm} {n : Nat} {rec : List ByteArray -> Dt -> Fd Ex} (he : RefSays W0 m n rec) (A : Option Addr) (cap : Nat) (d : Dt) (B : Option Addr) (bc : Nat) (ls : List ByteArray) (h : zc1 W0 w m B bc ls) (hl : DsAt W0 w m.F A cap [d]) (hgd : Good n d) (hls : ls.length <= 40) :
  Calls Tryd.prog 26 #[.agg #[.slice m.G m.gl m.gc, .slice m.S m.sl m.sc, .slice m.O m.ol m.oc, .bool m.up, .slice B ls.length bc], .slice A 1 cap] w (RefPost W0 w (rec ls d)) := by
 have HL := Lib.hid hl
 have H := Lib.hid h
 obtain ⟨b, o, rfl, hbw, _, cs, hrow, hd⟩ := hl.nth 0 (by simp)
 obtain ⟨A', c', rfl, _⟩ := hd.items h.below h.ge
 have q0 : w.cell? ⟨b, o, none⟩ = some (.int .i64 d.k) := by simpa using hrow 0 (by simp)
 have q1 : w.cell? ⟨b, o + 1, none⟩ = some (.int .i64 d.n) := by simpa using hrow 1 (by simp)
 have q2 : w.cell? ⟨b, o + 2, none⟩ = some (.string d.s) := by simpa using hrow 2 (by simp)
 have q3 : w.cell? ⟨b, o + 3, none⟩ = some (.slice A' d.l.length c') := by simpa using hrow 3 (by simp)
 have hcp : 1 <= cap := by have := hl.le; simpa using this
 obtain ⟨K, hK⟩ : ∃ K, ls.length = K := ⟨_, rfl⟩
 have hK40 : K <= 40 := by omega
 have hK2 : ¬ (40 : Int) < (K : Int) := by omega
 obtain ⟨w2, hw2⟩ : ∃ w2, (w.alloc (.cells #[.slice m.G m.gl m.gc, .slice m.S m.sl m.sc, .slice m.O m.ol m.oc, .bool m.up, .slice B K bc] 60)).alloc (.cells #[.int .i64 0, .int .i64 0, .int .i64 0, .string ⟨#[]⟩, .slice none 0 0, .string ⟨#[]⟩, .int .i64 0, .slice none 0 0, .slice none 0 0] 63) = w2 := ⟨_, rfl⟩
 have hb2 : Below w.heap.size w w2 := by rw [<- hw2]; exact ((Below.refl _ _).alloc (Nat.le_refl _) _).alloc (by simp) _
 have hs2 : w2.heap.size = w.heap.size + 2 := by rw [<- hw2]; simp
 have z : (w.alloc (.cells #[.slice m.G m.gl m.gc, .slice m.S m.sl m.sc, .slice m.O m.ol m.oc, .bool m.up, .slice B K bc] 60)).heap.size = w.heap.size + 1 := by simp
 have p0 : ∀ j, w2.cell? ⟨w.heap.size, j, none⟩ = (#[.slice m.G m.gl m.gc, .slice m.S m.sl m.sc, .slice m.O m.ol m.oc, .bool m.up, .slice B K bc] : Array Value)[j]? := fun j => by rw [<- hw2]; exact (World.cell?_alloc_lt _ _ ⟨w.heap.size, j, none⟩ (by simp)).trans (za _ _ _ j)
 have g0 : ∀ j, w2.cell? ⟨w.heap.size + 1, j, none⟩ = (#[.int .i64 0, .int .i64 0, .int .i64 0, .string ⟨#[]⟩, .slice none 0 0, .string ⟨#[]⟩, .int .i64 0, .slice none 0 0, .slice none 0 0] : Array Value)[j]? := fun j => by rw [<- hw2, <- z]; exact za _ _ _ j
 have f0 : ∀ j, w2.frozen? ⟨w.heap.size + 1, j, none⟩ = false := fun j => by rw [<- hw2, <- z]; exact zi _ _ _ j
 have c0 : w2.cell? ⟨b, o, none⟩ = some (.int .i64 d.k) := (hb2.cell (p := ⟨b, o, none⟩) hbw).trans q0
 have c1 : w2.cell? ⟨b, o + 1, none⟩ = some (.int .i64 d.n) := (hb2.cell (p := ⟨b, o + 1, none⟩) hbw).trans q1
 have c2 : w2.cell? ⟨b, o + 2, none⟩ = some (.string d.s) := (hb2.cell (p := ⟨b, o + 2, none⟩) hbw).trans q2
 have c3 : w2.cell? ⟨b, o + 3, none⟩ = some (.slice A' d.l.length c') := (hb2.cell (p := ⟨b, o + 3, none⟩) hbw).trans q3
 have a0 : w2.cell? ⟨w.heap.size, 0, none⟩ = some (.slice m.G m.gl m.gc) := p0 0
 have a1 : w2.cell? ⟨w.heap.size, 1, none⟩ = some (.slice m.S m.sl m.sc) := p0 1
 have a2 : w2.cell? ⟨w.heap.size, 2, none⟩ = some (.slice m.O m.ol m.oc) := p0 2
 have a3 : w2.cell? ⟨w.heap.size, 3, none⟩ = some (.bool m.up) := p0 3
 have a4 : w2.cell? ⟨w.heap.size, 4, none⟩ = some (.slice B K bc) := p0 4
 have hbw2 : b < w2.heap.size := Nat.lt_of_lt_of_le hbw hb2.size
 have hneb : w.heap.size + 1 ≠ b := by omega
 have HB2 := Lib.hid hb2
 have HG := Lib.hid (And.intro g0 f0)
 have HS2 := Lib.hid hs2
 have HC := Lib.hid (fun (W : World) (hb : Below w2.heap.size w2 W) => he W d A' c' B bc ls ((H.out.next hb2).next hb) hgd hd hls)
 rw [hK] at HC
 rw [hK]
 clear h hl he hgd hls q0 q1 q2 q3 hrow hd hb2 z p0 g0 f0 hs2 hK
 go_enter Tryd.func26, Tryd.ntmps26
 go_upto_region 6 with fail
 clear hw2
 go_region_held3 (fun w' => w'.cell? ⟨w.heap.size, 0, none⟩ = some (.slice m.G m.gl m.gc) /\ w'.cell? ⟨w.heap.size, 1, none⟩ = some (.slice m.S m.sl m.sc) /\ w'.cell? ⟨w.heap.size, 2, none⟩ = some (.slice m.O m.ol m.oc) /\ w'.cell? ⟨w.heap.size, 3, none⟩ = some (.bool m.up) /\ w'.cell? ⟨w.heap.size, 4, none⟩ = some (.slice B K bc) /\ w'.cell? ⟨b, o, none⟩ = some (.int .i64 d.k) /\ w'.cell? ⟨b, o + 1, none⟩ = some (.int .i64 d.n) /\ w'.cell? ⟨b, o + 2, none⟩ = some (.string d.s) /\ w'.cell? ⟨b, o + 3, none⟩ = some (.slice A' d.l.length c')) (go_keep)
  (first | (go_at_call 23; refine (HC.out _ (by first | exact Below.refl _ _ | exact (Below.refl _ _).drew)).mono ?_; intro e w3 hp; obtain ⟨v, c, rfl, hb3, hx⟩ := hp.both; have HX := Lib.hid hx; have ya0 : w3.cell? ⟨w.heap.size, 0, none⟩ = some (.slice m.G m.gl m.gc) := (hb3.cell (p := ⟨w.heap.size, 0, none⟩) (by show w.heap.size < _; simp; have := HS2.out; omega)).trans (by first | exact a0 | simpa using a0); have ya1 : w3.cell? ⟨w.heap.size, 1, none⟩ = some (.slice m.S m.sl m.sc) := (hb3.cell (p := ⟨w.heap.size, 1, none⟩) (by show w.heap.size < _; simp; have := HS2.out; omega)).trans (by first | exact a1 | simpa using a1); have ya2 : w3.cell? ⟨w.heap.size, 2, none⟩ = some (.slice m.O m.ol m.oc) := (hb3.cell (p := ⟨w.heap.size, 2, none⟩) (by show w.heap.size < _; simp; have := HS2.out; omega)).trans (by first | exact a2 | simpa using a2); have ya3 : w3.cell? ⟨w.heap.size, 3, none⟩ = some (.bool m.up) := (hb3.cell (p := ⟨w.heap.size, 3, none⟩) (by show w.heap.size < _; simp; have := HS2.out; omega)).trans (by first | exact a3 | simpa using a3); have ya4 : w3.cell? ⟨w.heap.size, 4, none⟩ = some (.slice B K bc) := (hb3.cell (p := ⟨w.heap.size, 4, none⟩) (by show w.heap.size < _; simp; have := HS2.out; omega)).trans (by first | exact a4 | simpa using a4); have yc0 : w3.cell? ⟨b, o, none⟩ = some (.int .i64 d.k) := (hb3.cell (p := ⟨b, o, none⟩) (by show b < _; simp; omega)).trans (by first | exact c0 | simpa using c0); have yc1 : w3.cell? ⟨b, o + 1, none⟩ = some (.int .i64 d.n) := (hb3.cell (p := ⟨b, o + 1, none⟩) (by show b < _; simp; omega)).trans (by first | exact c1 | simpa using c1); have yc2 : w3.cell? ⟨b, o + 2, none⟩ = some (.string d.s) := (hb3.cell (p := ⟨b, o + 2, none⟩) (by show b < _; simp; omega)).trans (by first | exact c2 | simpa using c2); have yc3 : w3.cell? ⟨b, o + 3, none⟩ = some (.slice A' d.l.length c') := (hb3.cell (p := ⟨b, o + 3, none⟩) (by show b < _; simp; omega)).trans (by first | exact c3 | simpa using c3); have R : ∀ j, w3.cell? ⟨w.heap.size + 1, j, none⟩ = (#[.int .i64 0, .int .i64 0, .int .i64 0, .string ⟨#[]⟩, .slice none 0 0, .string ⟨#[]⟩, .int .i64 0, .slice none 0 0, .slice none 0 0] : Array Value)[j]? := fun j => (hb3.cell (p := ⟨w.heap.size + 1, j, none⟩) (by show w.heap.size + 1 < _; simp; have := HS2.out; omega)).trans (HG.out.1 j); have RF : ∀ j, w3.frozen? ⟨w.heap.size + 1, j, none⟩ = false := fun j => (hb3.frozen (p := ⟨w.heap.size + 1, j, none⟩) (by show w.heap.size + 1 < _; simp; have := HS2.out; omega)).trans (HG.out.2 j); have HB3 := Lib.hid hb3; clear hb3 hx hp; unfold EV.agg))
 go_wp2_with fail
 exact bodyPost_ret (v := .tuple #[v.agg, .int .i64 c]) (by simp [results, Tryd.results26, go_sem, R, EV.agg]) rfl (ref_copy HB2.out.drew HB3.out HX.out (za1 _ _ _ _ _ _ _ _ _ _ _) (Nat.le_succ _) (by have := HS2.out; show w.heap.size + 1 < w2.heap.size; omega))
theorem formedBody_any {W0 w : World} {m : Fm} {n : Nat} {rec : List ByteArray -> Dt -> Fd Ex} (he : RefSays W0 m n rec) (A : Option Addr) (cap : Nat) (l : List Dt) (B : Option Addr) (bc : Nat) (ls : List ByteArray) (h : zc1 W0 w m B bc ls) (hl : DsAt W0 w m.F A cap l) (hgd : ∀ x ∈ l, Good n x) (hn : l.length <= 1048576) :
  Calls Tryd.prog 26 #[.agg #[.slice m.G m.gl m.gc, .slice m.S m.sl m.sc, .slice m.O m.ol m.oc, .bool m.up, .slice B ls.length bc], .slice A l.length cap] w (RefPost W0 w (bodyF rec ls l)) := by
 by_cases h1 : l.length ≠ 1 \/ 40 < ls.length
 ·
  exact formedBody_few he A cap l B bc ls h hl hgd hn h1
 have hl1 : l.length = 1 := by omega
 obtain ⟨d, rfl⟩ := List.length_eq_one_iff.1 hl1
 have := formedBody_one he A cap d B bc ls h hl (hgd d (by simp)) (by omega)
 rw [show bodyF rec ls [d] = rec ls d from by simp only [bodyF]; rw [if_neg (by omega)]]
 exact this
end Go.Proofs.YtjmeodadkjcmmaaDoor
