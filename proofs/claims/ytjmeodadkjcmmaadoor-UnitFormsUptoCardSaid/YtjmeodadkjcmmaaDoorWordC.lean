import Derived.Test.YtjmeodadkjcmmaaDoorWordB
namespace Go.Proofs.YtjmeodadkjcmmaaDoor
open Go.RowKit Go.ChangeShapes Go.WideShapes Go.Deep Go.ChangeAt
set_option linter.unusedVariables false
set_option maxRecDepth 20000
theorem ExIn.kindC {W0 w : World} {lo hi : Nat} {k dk dn : Int} {ds : ByteArray} {dA : Option Addr} {dl dc : Nat} {S : ByteArray} {N : Int} {nA : Option Addr} {nl nc : Nat} {aA : Option Addr} {al ac : Nat} {K : Int} {d : Dt} {S' : ByteArray} {N' : Int} {names : List ByteArray} {args : List Ex} (h : ExIn W0 w lo hi [.int .i64 k, .int .i64 dk, .int .i64 dn, .string ds, .slice dA dl dc, .string S, .int .i64 N, .slice nA nl nc, .slice aA al ac] (.mk K d S' N' names args)) : k = K := by
 cases h
 rfl
theorem named_kindC {p : Pl} {ls : List ByteArray} {s : ByteArray} {x : Ex} (h : namedF p ls s = .ok x) : x = eK (if inL ls s = true then 2 else 3) s [] := by
 unfold namedF at h
 split at h
 ·
  rename_i h1
  rw [if_pos h1]
  cases h
  rfl
 rename_i h1
 rw [if_neg h1]
 split at h
 ·
  cases h
 split at h
 ·
  cases h
 split at h
 ·
  cases h
  rfl
 cases h
theorem setN_bad {p : Pl} {rec : List ByteArray -> Dt -> Fd Ex} {ls : List ByteArray} {h b : Dt} {e : Int} (hk : h.k = 3) (hn : namedF p ls h.s = .err e) : setF p rec ls [h, b] = .err e := by
 simp only [setF]; rw [if_pos hk, hn]
theorem setN_ok {p : Pl} {rec : List ByteArray -> Dt -> Fd Ex} {ls : List ByteArray} {h b : Dt} {x : Ex} (hk : h.k = 3) (hn : namedF p ls h.s = .ok x) : setF p rec ls [h, b] = mapF (fun y => .mk 8 dt0 h.s (if inL ls h.s = true then 1 else 0) [] [y]) (rec ls b) := by
 simp only [setF]; rw [if_pos hk, hn]
def OneAt (w : World) (K : Int) (S : ByteArray) (u : EV) (v17 : Value) (w' : World) : Prop := ∃ P L : Nat, v17 = .pointer (some ⟨P, 0, none⟩) /\ w.heap.size <= P /\ w.heap.size <= L /\ L ≠ P /\ L < w'.heap.size /\ EvAt w' P (oneV K S 0 none 0 [] L u.t 0 0) /\ (∀ j, w'.cell? ⟨L, j, none⟩ = u.cells.toArray[j]?) /\ (∀ j, w'.frozen? ⟨P, j, none⟩ = false) /\ Below w.heap.size w w'
theorem EvAt.belowC {w w' : World} {p : Nat} {v : EV} (h : EvAt w p v) (hb : Below w.heap.size w w') : EvAt w' p v :=
 ⟨Nat.lt_of_lt_of_le h.lt hb.size, (hb.cell (p := ⟨p, 0, none⟩) h.lt).trans h.c0, (hb.cell (p := ⟨p, 1, none⟩) h.lt).trans h.c1, (hb.cell (p := ⟨p, 2, none⟩) h.lt).trans h.c2, (hb.cell (p := ⟨p, 3, none⟩) h.lt).trans h.c3, (hb.cell (p := ⟨p, 4, none⟩) h.lt).trans h.c4, (hb.cell (p := ⟨p, 5, none⟩) h.lt).trans h.c5, (hb.cell (p := ⟨p, 6, none⟩) h.lt).trans h.c6, (hb.cell (p := ⟨p, 7, none⟩) h.lt).trans h.c7, (hb.cell (p := ⟨p, 8, none⟩) h.lt).trans h.c8⟩
theorem OneAt.drewC {w w' : World} {K : Int} {S : ByteArray} {u : EV} {v : Value} (h : OneAt w K S u v w') : OneAt w K S u v w'.drew := by
 obtain ⟨P, L, h1, h2, h3, h4, h5, h6, h7, h8, h9⟩ := h
 exact ⟨P, L, h1, h2, h3, h4, h5, ⟨h6.lt, h6.c0, h6.c1, h6.c2, h6.c3, h6.c4, h6.c5, h6.c6, h6.c7, h6.c8⟩, h7, h8, h9.drew⟩
theorem one_ab {w : World} {K : Int} {S : ByteArray} {u : EV} {T T2 : TypeId} : OneAt w K S u (.pointer (some ⟨w.heap.size + 1, 0, none⟩)) ((w.alloc (.cells #[.int .i64 u.k, .int .i64 u.dk, .int .i64 u.dn, .string u.ds, .slice u.dA u.dl u.dc, .string u.S, .int .i64 u.N, .slice u.nA u.nl u.nc, .slice u.aA u.al u.ac] T)).alloc (.cells #[.int .i64 K, .int .i64 0, .int .i64 0, .string ⟨#[]⟩, .slice none 0 0, .string S, .int .i64 0, .slice none 0 0, .slice (some ⟨w.heap.size, 0, none⟩) 1 1] T2)).drew := by
 refine OneAt.drewC ?_
 have z : (w.alloc (.cells #[.int .i64 u.k, .int .i64 u.dk, .int .i64 u.dn, .string u.ds, .slice u.dA u.dl u.dc, .string u.S, .int .i64 u.N, .slice u.nA u.nl u.nc, .slice u.aA u.al u.ac] T)).heap.size = w.heap.size + 1 := by simp
 have hE := evAt_new (w.alloc (.cells #[.int .i64 u.k, .int .i64 u.dk, .int .i64 u.dn, .string u.ds, .slice u.dA u.dl u.dc, .string u.S, .int .i64 u.N, .slice u.nA u.nl u.nc, .slice u.aA u.al u.ac] T)) T2 (oneV K S 0 none 0 [] w.heap.size u.t 0 0)
 rw [z] at hE
 refine ⟨w.heap.size + 1, w.heap.size, rfl, by omega, Nat.le_refl _, by omega, by simp; omega, hE, fun j => ?_, fun j => ?_, ((Below.refl _ _).alloc (Nat.le_refl _) _).alloc (by simp) _⟩
 ·
  exact (World.cell?_alloc_lt _ _ ⟨w.heap.size, j, none⟩ (by simp)).trans (za _ _ _ j)
 rw [<- z]; exact zi _ _ _ j
theorem one_ba {w : World} {K : Int} {S : ByteArray} {u : EV} {T T2 : TypeId} : OneAt w K S u (.pointer (some ⟨w.heap.size, 0, none⟩)) ((w.alloc (.cells #[.int .i64 K, .int .i64 0, .int .i64 0, .string ⟨#[]⟩, .slice none 0 0, .string S, .int .i64 0, .slice none 0 0, .slice (some ⟨w.heap.size + 1, 0, none⟩) 1 1] T2)).alloc (.cells #[.int .i64 u.k, .int .i64 u.dk, .int .i64 u.dn, .string u.ds, .slice u.dA u.dl u.dc, .string u.S, .int .i64 u.N, .slice u.nA u.nl u.nc, .slice u.aA u.al u.ac] T)).drew := by
 refine OneAt.drewC ?_
 have hE := evAt_new w T2 (oneV K S 0 none 0 [] (w.heap.size + 1) u.t 0 0)
 obtain ⟨w1, hw1⟩ : ∃ w1, w.alloc (.cells #[.int .i64 K, .int .i64 0, .int .i64 0, .string ⟨#[]⟩, .slice none 0 0, .string S, .int .i64 0, .slice none 0 0, .slice (some ⟨w.heap.size + 1, 0, none⟩) 1 1] T2) = w1 := ⟨_, rfl⟩
 have hE1 : EvAt w1 w.heap.size (oneV K S 0 none 0 [] (w.heap.size + 1) u.t 0 0) := by rw [<- hw1]; exact hE
 have z : w1.heap.size = w.heap.size + 1 := by rw [<- hw1]; simp
 have hf : ∀ j, w1.frozen? ⟨w.heap.size, j, none⟩ = false := fun j => by rw [<- hw1]; exact zi _ _ _ j
 have hb : Below w.heap.size w w1 := by rw [<- hw1]; exact (Below.refl _ _).alloc (Nat.le_refl _) _
 rw [hw1]
 have ha : Below w1.heap.size w1 (w1.alloc (.cells #[.int .i64 u.k, .int .i64 u.dk, .int .i64 u.dn, .string u.ds, .slice u.dA u.dl u.dc, .string u.S, .int .i64 u.N, .slice u.nA u.nl u.nc, .slice u.aA u.al u.ac] T)) := (Below.refl _ _).alloc (Nat.le_refl _) _
 refine ⟨w.heap.size, w.heap.size + 1, rfl, Nat.le_refl _, by omega, by omega, by simp [z], hE1.belowC ha, fun j => ?_, fun j => (ha.frozen (p := ⟨w.heap.size, j, none⟩) (by show w.heap.size < _; omega)).trans (hf j), hb.trans (ha.mono (by omega))⟩
 rw [<- z]
 exact za _ _ _ j
theorem one_fact {W0 w2 w5 w6 w7 W3 : World} {K : Int} {S : ByteArray} {N : Int} {P L : Nat} {u : EV} {c : Int} {rb r : Fd Ex} (h25 : Below w2.heap.size w2 w5) (h56 : Below w5.heap.size w5 w6) (hx : RefFact W0 w5 w6 u c rb) (h67 : Below w6.heap.size w6 w7) (hL : w6.heap.size <= L) (hLlt : L < w7.heap.size) (hrow : ∀ j, w7.cell? ⟨L, j, none⟩ = u.cells.toArray[j]?) (hg : w7.grownBy W3 (some P)) (hP : w6.heap.size <= P) (hne : L ≠ P) (hr : r = mapF (fun y => .mk K dt0 S N [] [y]) rb) :
  RefFact W0 w2 W3 (oneV K S N none 0 [] L u.t w2.heap.size W3.heap.size) c r := by
 subst hr
 cases rb with
 | err e => exact hx
 | ok x =>
  obtain ⟨rfl, rfl, h1, h2, h3⟩ := hx
  have s1 := h25.size
  have s2 := h56.size
  have s3 := h67.size
  have s4 := hg.size
  refine ⟨rfl, rfl, Nat.le_refl _, Nat.le_refl _, ?_⟩
  exact oneV_ok (NmIn.nil _ _ _) ((h3.1.mono (zw h67) h67.size (Nat.le_refl _) (Nat.le_refl _)).mono (zm hg (fun b h4 h5 e => by have := Option.some.inj e; omega)) hg.size (by omega) (by omega)) (by omega) (by omega) (Nat.le_refl _) (fun j => (World.cell?_of_block (a := ⟨L, j, none⟩) (hg.block L hLlt (fun e => hne (Option.some.inj e)))).trans (hrow j))
set_option maxHeartbeats 8000000 in
theorem word_set {W0 w : World} {m : Fm} {n : Nat} {rec : List ByteArray -> Dt -> Fd Ex} (A : Option Addr) (cap : Nat) (l : List Dt) (B : Option Addr) (bc : Nat) (ls : List ByteArray) (h : zc1 W0 w m B bc ls) (hl : DsAt W0 w m.F A cap l) (hn : l.length <= 1048576) (hls : ls.length <= 40) (s : ByteArray) (he : RefSays W0 m n rec) (hgd : ∀ x ∈ l, Good n x) (hu : m.up = false) (hs : s.toList = wSet) : Calls Tryd.prog 53 #[.agg #[.slice m.G m.gl m.gc, .slice m.S m.sl m.sc, .slice m.O m.ol m.oc, .bool m.up, .slice B ls.length bc], .string s, .slice A l.length cap] w (RefPost W0 w (wordF m.pl rec ls s.toList l)) := by
 have HL := Lib.hid hl
 have H := Lib.hid h
 have HNN := Lib.hid hn
 obtain ⟨N, hN⟩ : ∃ N, l.length = N := ⟨_, rfl⟩
 have HN := Lib.hid hN
 obtain ⟨K, hK⟩ : ∃ K, ls.length = K := ⟨_, rfl⟩
 have HK := Lib.hid hK
 have HK40 := Lib.hid hls
 have hcp : N <= cap := by rw [<- hN]; exact hl.le
 have hcm : cap <= 9223372036854775807 := by have := hl.cap_; unfold maxLen at this; omega
 have hNm : N <= 9223372036854775807 := by omega
 rw [hN, hK]
 obtain ⟨r, hr⟩ : ∃ r, wordF m.pl rec ls s.toList l = r := ⟨_, rfl⟩
 have HR := Lib.hid hr
 rw [hr]
 clear hr
 obtain ⟨up, hup⟩ : ∃ up, m.up = up := ⟨_, rfl⟩
 have HUP := Lib.hid hup
 rw [hup]
 obtain ⟨w2, hw2⟩ : ∃ w2, (w.alloc (.cells #[.slice m.G m.gl m.gc, .slice m.S m.sl m.sc, .slice m.O m.ol m.oc, .bool up, .slice B K bc] 60)).alloc (.cells #[.int .i64 0, .int .i64 0, .int .i64 0, .string ⟨#[]⟩, .slice none 0 0, .string ⟨#[]⟩, .int .i64 0, .slice none 0 0, .slice none 0 0] 63) = w2 := ⟨_, rfl⟩
 have hb2 : Below w.heap.size w w2 := by rw [<- hw2]; exact ((Below.refl _ _).alloc (Nat.le_refl _) _).alloc (by simp) _
 have hs2 : w2.heap.size = w.heap.size + 2 := by rw [<- hw2]; simp
 have z : (w.alloc (.cells #[.slice m.G m.gl m.gc, .slice m.S m.sl m.sc, .slice m.O m.ol m.oc, .bool up, .slice B K bc] 60)).heap.size = w.heap.size + 1 := by simp
 have p0 : ∀ j, w2.cell? ⟨w.heap.size, j, none⟩ = (#[.slice m.G m.gl m.gc, .slice m.S m.sl m.sc, .slice m.O m.ol m.oc, .bool up, .slice B K bc] : Array Value)[j]? := fun j => by rw [<- hw2]; exact (World.cell?_alloc_lt _ _ ⟨w.heap.size, j, none⟩ (by simp)).trans (za _ _ _ j)
 have R : ∀ j, w2.cell? ⟨w.heap.size + 1, j, none⟩ = (#[.int .i64 0, .int .i64 0, .int .i64 0, .string ⟨#[]⟩, .slice none 0 0, .string ⟨#[]⟩, .int .i64 0, .slice none 0 0, .slice none 0 0] : Array Value)[j]? := fun j => by rw [<- hw2, <- z]; exact za _ _ _ j
 have RF : ∀ j, w2.frozen? ⟨w.heap.size + 1, j, none⟩ = false := fun j => by rw [<- hw2, <- z]; exact zi _ _ _ j
 have a0 : w2.cell? ⟨w.heap.size, 0, none⟩ = some (.slice m.G m.gl m.gc) := p0 0
 have a1 : w2.cell? ⟨w.heap.size, 1, none⟩ = some (.slice m.S m.sl m.sc) := p0 1
 have a2 : w2.cell? ⟨w.heap.size, 2, none⟩ = some (.slice m.O m.ol m.oc) := p0 2
 have a3 : w2.cell? ⟨w.heap.size, 3, none⟩ = some (.bool up) := p0 3
 have a4 : w2.cell? ⟨w.heap.size, 4, none⟩ = some (.slice B K bc) := p0 4
 have HB2 := Lib.hid hb2
 have HS2 := Lib.hid hs2
 have HRF := Lib.hid (And.intro R RF)
 clear h hl hn hls hN hK hup hb2 hs2 z p0
 have b0 : (s.toList == [113, 117, 111, 116, 101]) = false := by rw [hs]; rfl
 have b1 : (s.toList == [105, 102]) = false := by rw [hs]; rfl
 have b2 : (s.toList == [98, 101, 103, 105, 110]) = false := by rw [hs]; rfl
 have b3 : (s.toList == [108, 97, 109, 98, 100, 97]) = false := by rw [hs]; rfl
 have b4 : (s.toList == [108, 101, 116]) = false := by rw [hs]; rfl
 have b5 : (s.toList == [115, 101, 116, 33]) = true := by rw [hs]; rfl
 have b6 : (s.toList == [119, 97, 115]) = false := by rw [hs]; rfl
 have hr2 : r = setF m.pl rec ls l := by rw [<- HR.out]; unfold wordF; rw [if_neg (by rw [show m.pl.up = false from hu]; simp), if_neg (by rw [hs]; decide), if_neg (by rw [hs]; decide), if_neg (by rw [hs]; decide), if_neg (by rw [hs]; decide), if_neg (by rw [hs]; decide), if_pos hs]
 obtain rfl : up = false := by rw [<- HUP.out, hu]
 have HE := Lib.hid he
 have HR2 := Lib.hid hr2
 clear hs hu he hr2 HR
 by_cases h2 : N = 2
 case neg =>
  obtain rfl : r = .err 10 := by rw [HR2.out]; exact set_count (by rw [HN.out]; exact h2)
  have i1 : ((N : Int) != 2) = true := by rw [bne_iff_ne]; omega
  go_enter Tryd.func53, Tryd.ntmps53
  go_upto_region 1 with fail
  clear hw2
  go_wp2_with fail
  exact bodyPost_ret (v := .tuple #[evz.agg, .int .i64 10]) (by simp [results, Tryd.results53, go_sem, evz, EV.agg, R]) rfl (zn (by decide) (zg (by omega) HB2.out _ _ _ _ _ _ _ _ _))
 obtain ⟨d, y, rfl⟩ : ∃ d y, l = [d, y] := by
  match l, HN.out.trans h2 with
  | [d, y], _ => exact ⟨d, y, rfl⟩
 subst h2
 obtain ⟨b, o, A', c', rfl, hbw, hbF, d0, d1, d2, d3, hd, hi, ht⟩ := (HL.out.below HB2.out).first (H.out.next HB2.out).below H.out.ge
 obtain ⟨b', o', A2, c2, he2, hbw', hbF', y0, y1, y2, y3, hdy, hiy, _⟩ := ht.first (H.out.next HB2.out).below H.out.ge
 have he3 := Option.some.inj he2
 injection he3 with e1 e2
 subst e1
 subst e2
 have hds := (hgd d (by simp)).wide
 have HGY := Lib.hid (hgd y (by simp))
 have HDY := Lib.hid hdy
 obtain ⟨S, hS⟩ : ∃ S, d.s = S := ⟨_, rfl⟩
 have HS := Lib.hid hS
 rw [hS] at d2 hds
 have hb2 := HB2.out
 have hs2 := HS2.out
 have hszW : w.heap.size < w2.heap.size := by omega
 clear hd hi ht hdy hiy he2 hgd hS
 by_cases hk : d.k = 3
 case neg =>
  obtain rfl : r = .err 4 := by rw [HR2.out, set_form hk]
  have hk2 : (d.k != 3) = true := by simpa using hk
  go_enter Tryd.func53, Tryd.ntmps53
  go_upto_region 1 with fail
  clear hw2
  go_wp2_with fail
  exact bodyPost_ret (v := .tuple #[evz.agg, .int .i64 4]) (by simp [results, Tryd.results53, go_sem, evz, EV.agg, R]) rfl (zn (by decide) (zg (by omega) HB2.out _ _ _ _ _ _ _ _ _))
 have hk2 : (d.k != 3) = false := by simpa using hk
 obtain ⟨r0, hr0⟩ : ∃ r0, namedF m.pl ls S = r0 := ⟨_, rfl⟩
 have HR0 := Lib.hid hr0
 have HNM := Lib.hid (fun (W : World) (hb : Below w2.heap.size w2 W) => by
  have := named_ref ((H.out.next hb2).next hb) S hds
  rwa [HUP.out, HK.out, hr0] at this)
 have HKD := Lib.hid hk
 have hbwW := hbw
 have w2p0 := a0
 have w2p1 := a1
 have w2p2 := a2
 have w2p3 := a3
 have w2p4 := a4
 have w2d0 := d2
 have hnw : w2.heap.size ≠ w.heap.size := by omega
 have hnb : w2.heap.size ≠ b := by omega
 clear hr0 hk hb2 hs2 a0 a1 a2 a3 a4
 go_enter Tryd.func53, Tryd.ntmps53
 go_upto_region 1 with fail
 clear hw2
 go_upto_region 31 with fail
 go_cut [14, 15] (fun v14 v15 wx => Formed W0 w2 r0 v14 v15 wx)
 case first =>
  go_region_held3 (fun w' => w'.cell? ⟨w.heap.size, 0, none⟩ = some (.slice m.G m.gl m.gc) /\ w'.cell? ⟨w.heap.size, 1, none⟩ = some (.slice m.S m.sl m.sc) /\ w'.cell? ⟨w.heap.size, 2, none⟩ = some (.slice m.O m.ol m.oc) /\ w'.cell? ⟨w.heap.size, 3, none⟩ = some (.bool false) /\ w'.cell? ⟨w.heap.size, 4, none⟩ = some (.slice B K bc) /\ w'.cell? ⟨b, o + 2, none⟩ = some (.string S)) (go_keep)
   (first | (go_at_call 51; refine (HNM.out _ (by (with_reducible repeat' (first | exact Below.refl _ _ | apply Below.drew | apply below_drewN | refine Below.alloc ?_ ?_ _)); all_goals (try simp); all_goals (try omega))).mono ?_; intro e w3 hp; obtain ⟨v3, e3, rfl, hb3, hx3⟩ := hp.both; have hw3 := (show Below w2.heap.size w2 _ from (by (with_reducible repeat' (first | exact Below.refl _ _ | apply Below.drew | apply below_drewN | refine Below.alloc ?_ ?_ _)); all_goals (try simp); all_goals (try omega))).trans (hb3.mono (by first | exact Nat.le_refl _ | (simp; done) | (simp; omega))); have w3p0 : w3.cell? ⟨w.heap.size, 0, none⟩ = some (.slice m.G m.gl m.gc) := (hw3.cell (p := ⟨w.heap.size, 0, none⟩) hszW).trans w2p0; have w3p1 : w3.cell? ⟨w.heap.size, 1, none⟩ = some (.slice m.S m.sl m.sc) := (hw3.cell (p := ⟨w.heap.size, 1, none⟩) hszW).trans w2p1; have w3p2 : w3.cell? ⟨w.heap.size, 2, none⟩ = some (.slice m.O m.ol m.oc) := (hw3.cell (p := ⟨w.heap.size, 2, none⟩) hszW).trans w2p2; have w3p3 : w3.cell? ⟨w.heap.size, 3, none⟩ = some (.bool false) := (hw3.cell (p := ⟨w.heap.size, 3, none⟩) hszW).trans w2p3; have w3p4 : w3.cell? ⟨w.heap.size, 4, none⟩ = some (.slice B K bc) := (hw3.cell (p := ⟨w.heap.size, 4, none⟩) hszW).trans w2p4; have w3d0 : w3.cell? ⟨b, o + 2, none⟩ = some (.string S) := (hw3.cell (p := ⟨b, o + 2, none⟩) hbwW).trans w2d0; clear hw3; obtain ⟨g3, g4⟩ := bcell hb3; have HX3 := Lib.hid hx3; have HB3 := Lib.hid hb3; have hsz3 := hb3.size; (try simp at hsz3); (try replace hsz3 := Nat.lt_of_succ_le hsz3); have hnw3 : w3.heap.size ≠ w.heap.size := (by omega); have hnb3 : w3.heap.size ≠ b := (by omega); clear hp hb3 hx3; unfold EV.agg))
  all_goals (go_wp2_with fail)
  all_goals go_meet
  all_goals (first | (with_reducible refine formed_after ?_ HB3.out HX3.out) | (with_reducible refine zl ?_ ?_ ((Below.refl _ _).drew) HB3.out HX3.out) | (with_reducible refine zl ?_ ?_ (Below.refl _ _) HB3.out HX3.out))
  all_goals (first | exact (by (with_reducible repeat' (first | exact Below.refl _ _ | apply Below.drew | apply below_drewN | refine Below.alloc ?_ ?_ _)); all_goals (try simp); all_goals (try omega)) | simp)
 obtain ⟨p, v, c, rfl, rfl, hp, hE, hbw1, hx⟩ := hcut
 obtain ⟨w5, rfl⟩ : ∃ w5, w5 = wc := ⟨_, rfl⟩
 have hs5 := hbw1.size
 have hs2 := HS2.out
 have w5R : ∀ j, w5.cell? ⟨w.heap.size + 1, j, none⟩ = (#[.int .i64 0, .int .i64 0, .int .i64 0, .string ⟨#[]⟩, .slice none 0 0, .string ⟨#[]⟩, .int .i64 0, .slice none 0 0, .slice none 0 0] : Array Value)[j]? := fun j => (hbw1.cell (p := ⟨w.heap.size + 1, j, none⟩) (by show w.heap.size + 1 < _; omega)).trans (HRF.out.1 j)
 have w5RF : ∀ j, w5.frozen? ⟨w.heap.size + 1, j, none⟩ = false := fun j => (hbw1.frozen (p := ⟨w.heap.size + 1, j, none⟩) (by show w.heap.size + 1 < _; omega)).trans (HRF.out.2 j)
 have HZ5 := Lib.hid (And.intro w5R w5RF)
 have HB25 := Lib.hid hbw1
 have HB5 := Lib.hid (HB2.out.trans (hbw1.mono HB2.out.size))
 cases r0 with
 | err e =>
  obtain ⟨rfl, h1⟩ := hx
  have hcb : (c != 0) = true := by rw [bne_iff_ne]; omega
  obtain rfl : r = .err c := by rw [HR2.out]; exact setN_bad HKD.out (by rw [HS.out]; exact HR0.out)
  have hlt5 : w.heap.size + 1 < w5.heap.size := by omega
  clear hE hbw1
  go_wp2_with fail
  exact bodyPost_ret (v := .tuple #[evz.agg, .int .i64 c]) (by simp [results, Tryd.results53, go_sem, evz, EV.agg, w5R]) rfl (zn h1 (zg (by omega) HB5.out _ _ _ _ _ _ _ _ _))
 | ok x =>
  obtain ⟨rfl, hvt, hlo, hhi, hok⟩ := hx
  have hx0 := named_kindC HR0.out
  have hvk : v.k = if inL ls S = true then 2 else 3 := by
   have h0 := hok.1
   rw [hvt, hx0] at h0
   exact h0.kindC
  obtain ⟨kb, hkb⟩ : ∃ kb, (v.k == 2) = kb := ⟨_, rfl⟩
  have HKB := Lib.hid (show (if inL ls S = true then (1 : Int) else 0) = if kb = true then 1 else 0 from by rw [<- hkb, hvk]; cases inL ls S <;> rfl)
  obtain ⟨rb, hrb⟩ : ∃ rb, rec ls y = rb := ⟨_, rfl⟩
  have HRR := Lib.hid (show r = mapF (fun z => .mk 8 dt0 S (if kb = true then 1 else 0) [] [z]) rb from by rw [HR2.out, setN_ok HKD.out (by rw [HS.out]; exact HR0.out), hrb, HS.out, HKB.out])
  have q0 := hE.c0
  have hplt := hE.lt
  have hb5 := HB5.out
  have HFM := Lib.hid (fun (W : World) (hb : Below w5.heap.size w5 W) => by
   have := HE.out W y A2 c2 B bc ls ((H.out.next hb5).next hb) HGY.out HDY.out HK40.out
   rwa [HUP.out, HK.out, hrb] at this)
  have hszV : w.heap.size < w5.heap.size := by omega
  have hbwV : b < w5.heap.size := by omega
  have w5p0 : w5.cell? ⟨w.heap.size, 0, none⟩ = some (.slice m.G m.gl m.gc) := (hbw1.cell (p := ⟨w.heap.size, 0, none⟩) hszW).trans w2p0
  have w5p1 : w5.cell? ⟨w.heap.size, 1, none⟩ = some (.slice m.S m.sl m.sc) := (hbw1.cell (p := ⟨w.heap.size, 1, none⟩) hszW).trans w2p1
  have w5p2 : w5.cell? ⟨w.heap.size, 2, none⟩ = some (.slice m.O m.ol m.oc) := (hbw1.cell (p := ⟨w.heap.size, 2, none⟩) hszW).trans w2p2
  have w5p3 : w5.cell? ⟨w.heap.size, 3, none⟩ = some (.bool false) := (hbw1.cell (p := ⟨w.heap.size, 3, none⟩) hszW).trans w2p3
  have w5p4 : w5.cell? ⟨w.heap.size, 4, none⟩ = some (.slice B K bc) := (hbw1.cell (p := ⟨w.heap.size, 4, none⟩) hszW).trans w2p4
  have w5d0 : w5.cell? ⟨b, o + 2, none⟩ = some (.string S) := (hbw1.cell (p := ⟨b, o + 2, none⟩) hbwW).trans w2d0
  have w5y0 : w5.cell? ⟨b, o + 4, none⟩ = some (.int .i64 y.k) := (hbw1.cell (p := ⟨b, o + 4, none⟩) hbwW).trans y0
  have w5y1 : w5.cell? ⟨b, o + 4 + 1, none⟩ = some (.int .i64 y.n) := (hbw1.cell (p := ⟨b, o + 4 + 1, none⟩) hbwW).trans y1
  have w5y2 : w5.cell? ⟨b, o + 4 + 2, none⟩ = some (.string y.s) := (hbw1.cell (p := ⟨b, o + 4 + 2, none⟩) hbwW).trans y2
  have w5y3 : w5.cell? ⟨b, o + 4 + 3, none⟩ = some (.slice A2 y.l.length c2) := (hbw1.cell (p := ⟨b, o + 4 + 3, none⟩) hbwW).trans y3
  have hszW := hszV
  have hbwW := hbwV
  have hpW : p ≠ w.heap.size + 1 := by omega
  have hnw5 : w5.heap.size ≠ w.heap.size := by omega
  have hnb5 : w5.heap.size ≠ b := by omega
  clear hE hbw1 hlo hhi hok hvt hx0 hvk hrb hb5 w2p0 w2p1 w2p2 w2p3 w2p4 w2d0 d0 d1 d2 d3 y0 y1 y2 y3 hs2
  go_upto_region 34 with fail
  go_cut [16, 15] (fun v16 v15 wx => Formed W0 w5 rb v16 v15 wx)
  case first =>
   go_region_held3 (fun w' => w'.cell? ⟨w.heap.size, 0, none⟩ = some (.slice m.G m.gl m.gc) /\ w'.cell? ⟨w.heap.size, 1, none⟩ = some (.slice m.S m.sl m.sc) /\ w'.cell? ⟨w.heap.size, 2, none⟩ = some (.slice m.O m.ol m.oc) /\ w'.cell? ⟨w.heap.size, 3, none⟩ = some (.bool false) /\ w'.cell? ⟨w.heap.size, 4, none⟩ = some (.slice B K bc) /\ w'.cell? ⟨b, o + 4, none⟩ = some (.int .i64 y.k) /\ w'.cell? ⟨b, o + 4 + 1, none⟩ = some (.int .i64 y.n) /\ w'.cell? ⟨b, o + 4 + 2, none⟩ = some (.string y.s) /\ w'.cell? ⟨b, o + 4 + 3, none⟩ = some (.slice A2 y.l.length c2)) (go_keep)
    (first | (go_at_call 23; refine (HFM.out _ (by (with_reducible repeat' (first | exact Below.refl _ _ | apply Below.drew | apply below_drewN | refine Below.alloc ?_ ?_ _)); all_goals (try simp); all_goals (try omega))).mono ?_; intro e w3 hp; obtain ⟨v3, e3, rfl, hb3, hx3⟩ := hp.both; have hw3 := (show Below w5.heap.size w5 _ from (by (with_reducible repeat' (first | exact Below.refl _ _ | apply Below.drew | apply below_drewN | refine Below.alloc ?_ ?_ _)); all_goals (try simp); all_goals (try omega))).trans (hb3.mono (by first | exact Nat.le_refl _ | (simp; done) | (simp; omega))); have w3p0 : w3.cell? ⟨w.heap.size, 0, none⟩ = some (.slice m.G m.gl m.gc) := (hw3.cell (p := ⟨w.heap.size, 0, none⟩) hszW).trans w5p0; have w3p1 : w3.cell? ⟨w.heap.size, 1, none⟩ = some (.slice m.S m.sl m.sc) := (hw3.cell (p := ⟨w.heap.size, 1, none⟩) hszW).trans w5p1; have w3p2 : w3.cell? ⟨w.heap.size, 2, none⟩ = some (.slice m.O m.ol m.oc) := (hw3.cell (p := ⟨w.heap.size, 2, none⟩) hszW).trans w5p2; have w3p3 : w3.cell? ⟨w.heap.size, 3, none⟩ = some (.bool false) := (hw3.cell (p := ⟨w.heap.size, 3, none⟩) hszW).trans w5p3; have w3p4 : w3.cell? ⟨w.heap.size, 4, none⟩ = some (.slice B K bc) := (hw3.cell (p := ⟨w.heap.size, 4, none⟩) hszW).trans w5p4; have w3y0 : w3.cell? ⟨b, o + 4, none⟩ = some (.int .i64 y.k) := (hw3.cell (p := ⟨b, o + 4, none⟩) hbwW).trans w5y0; have w3y1 : w3.cell? ⟨b, o + 4 + 1, none⟩ = some (.int .i64 y.n) := (hw3.cell (p := ⟨b, o + 4 + 1, none⟩) hbwW).trans w5y1; have w3y2 : w3.cell? ⟨b, o + 4 + 2, none⟩ = some (.string y.s) := (hw3.cell (p := ⟨b, o + 4 + 2, none⟩) hbwW).trans w5y2; have w3y3 : w3.cell? ⟨b, o + 4 + 3, none⟩ = some (.slice A2 y.l.length c2) := (hw3.cell (p := ⟨b, o + 4 + 3, none⟩) hbwW).trans w5y3; clear hw3; obtain ⟨g3, g4⟩ := bcell hb3; have HX3 := Lib.hid hx3; have HB3 := Lib.hid hb3; have hsz3 := hb3.size; (try simp at hsz3); (try replace hsz3 := Nat.lt_of_succ_le hsz3); have hnw3 : w3.heap.size ≠ w.heap.size := (by omega); have hnb3 : w3.heap.size ≠ b := (by omega); clear hp hb3 hx3; unfold EV.agg))
   all_goals (go_wp2_with fail)
   all_goals go_meet
   all_goals (first | (with_reducible refine formed_after ?_ HB3.out HX3.out) | (with_reducible refine zl ?_ ?_ ((Below.refl _ _).drew) HB3.out HX3.out) | (with_reducible refine zl ?_ ?_ (Below.refl _ _) HB3.out HX3.out))
   all_goals (first | exact (by (with_reducible repeat' (first | exact Below.refl _ _ | apply Below.drew | apply below_drewN | refine Below.alloc ?_ ?_ _)); all_goals (try simp); all_goals (try omega)) | simp)
  obtain ⟨q, u, c, rfl, rfl, hq, hF, hbw2, hx2⟩ := hcut
  have f0 := hF.c0
  have f1 := hF.c1
  have f2 := hF.c2
  have f3 := hF.c3
  have f4 := hF.c4
  have f5 := hF.c5
  have f6 := hF.c6
  have f7 := hF.c7
  have f8 := hF.c8
  have hqlt := hF.lt
  have hs6 := hbw2.size
  have w6d0 : wc.cell? ⟨b, o + 2, none⟩ = some (.string S) := (hbw2.cell (p := ⟨b, o + 2, none⟩) hbwV).trans w5d0
  have w6q0 : wc.cell? ⟨p, 0, none⟩ = some (.int .i64 v.k) := (hbw2.cell (p := ⟨p, 0, none⟩) hplt).trans q0
  have hbw6 : b < wc.heap.size := by omega
  have hnb6 : wc.heap.size ≠ b := by omega
  have hnq6 : wc.heap.size ≠ q := by omega
  clear hF
  obtain ⟨w6, rfl⟩ : ∃ w6, w6 = wc := ⟨_, rfl⟩
  have HX2 := Lib.hid (show RefFact W0 w5 w6 u c rb from by cases rb <;> exact hx2)
  have HB6 := Lib.hid hbw2
  clear hx2 hbw2
  go_upto_region 35 with fail
  go_cut [17] (fun v17 wx => OneAt w6 8 S u v17 wx)
  case first =>
   go_region
   all_goals (go_wp2_with fail)
   all_goals go_meet
   all_goals (first | exact one_ab | exact one_ba)
  obtain ⟨P, L, rfl, hP, hL, hne, hLlt, hO, hrow, hfz, hb7⟩ := hcut
  have hs7 := hb7.size
  have g0 : wc.cell? ⟨P, 0, none⟩ = some (.int .i64 8) := hO.c0
  have g1 : wc.cell? ⟨P, 1, none⟩ = some (.int .i64 0) := hO.c1
  have g2 : wc.cell? ⟨P, 2, none⟩ = some (.int .i64 0) := hO.c2
  have g3 : wc.cell? ⟨P, 3, none⟩ = some (.string ⟨#[]⟩) := hO.c3
  have g4 : wc.cell? ⟨P, 4, none⟩ = some (.slice none 0 0) := hO.c4
  have g5 : wc.cell? ⟨P, 5, none⟩ = some (.string S) := hO.c5
  have g6 : wc.cell? ⟨P, 6, none⟩ = some (.int .i64 0) := hO.c6
  have g7 : wc.cell? ⟨P, 7, none⟩ = some (.slice none 0 0) := hO.c7
  have g8 : wc.cell? ⟨P, 8, none⟩ = some (.slice (some ⟨L, 0, none⟩) 1 1) := hO.c8
  have hPlt := hO.lt
  have w7q0 : wc.cell? ⟨p, 0, none⟩ = some (.int .i64 v.k) := (hb7.cell (p := ⟨p, 0, none⟩) (by show p < w6.heap.size; omega)).trans w6q0
  have R7 : ∀ j, wc.cell? ⟨w.heap.size + 1, j, none⟩ = (#[.int .i64 0, .int .i64 0, .int .i64 0, .string ⟨#[]⟩, .slice none 0 0, .string ⟨#[]⟩, .int .i64 0, .slice none 0 0, .slice none 0 0] : Array Value)[j]? := fun j => (hb7.cell (p := ⟨w.heap.size + 1, j, none⟩) (by show w.heap.size + 1 < w6.heap.size; omega)).trans ((HB6.out.cell (p := ⟨w.heap.size + 1, j, none⟩) (by show w.heap.size + 1 < w5.heap.size; omega)).trans (w5R j))
  have RF7 : ∀ j, wc.frozen? ⟨w.heap.size + 1, j, none⟩ = false := fun j => (hb7.frozen (p := ⟨w.heap.size + 1, j, none⟩) (by show w.heap.size + 1 < w6.heap.size; omega)).trans ((HB6.out.frozen (p := ⟨w.heap.size + 1, j, none⟩) (by show w.heap.size + 1 < w5.heap.size; omega)).trans (w5RF j))
  have HB7 := Lib.hid hb7
  have HRW := Lib.hid hrow
  have hnP : P ≠ w.heap.size + 1 := by omega
  have hnP2 : w.heap.size + 1 ≠ P := by omega
  have hnPp : P ≠ p := by omega
  have HB26 := Lib.hid (show Below w2.heap.size w2 w5 from HB25.out)
  have HBA := Lib.hid (show Below w2.heap.size w2 wc from (HB25.out.trans (HB6.out.mono HB25.out.size)).trans (hb7.mono (Nat.le_trans HB25.out.size HB6.out.size)))
  clear hO hrow hb7 w5R w5RF w6q0 w6d0 f0 f1 f2 f3 f4 f5 f6 f7 f8
  cases kb
  case false =>
   go_wp2_with fail
   exact bodyPost_ret (v := .tuple #[.agg #[.int .i64 8, .int .i64 0, .int .i64 0, .string ⟨#[]⟩, .slice none 0 0, .string S, .int .i64 0, .slice none 0 0, .slice (some ⟨L, 0, none⟩) 1 1], .int .i64 c]) (by simp [results, Tryd.results53, go_sem, R7]) rfl (ref_copy (v := oneV 8 S 0 none 0 [] L u.t w2.heap.size wc.heap.size) HB2.out HBA.out (one_fact HB25.out HB6.out HX2.out HB7.out hL hLlt HRW.out (World.grownBy.rfl' _ (some P)) hP hne HRR.out) (za1 _ _ _ _ _ _ _ _ _ _ _) (Nat.le_succ _) (by have := HS2.out; omega))
  go_wp2_with fail
  exact bodyPost_ret (v := .tuple #[.agg #[.int .i64 8, .int .i64 0, .int .i64 0, .string ⟨#[]⟩, .slice none 0 0, .string S, .int .i64 1, .slice none 0 0, .slice (some ⟨L, 0, none⟩) 1 1], .int .i64 c]) (by simp [results, Tryd.results53, go_sem, R7]) rfl (ref_copy (v := oneV 8 S 1 none 0 [] L u.t w2.heap.size (wc.setCell ⟨P, 6, none⟩ (.int .i64 1)).heap.size) HB2.out (HBA.out.setCell (p := ⟨P, 6, none⟩) (by show w2.heap.size <= P; have := HB25.out.size; have := HB6.out.size; omega) _) (one_fact HB25.out HB6.out HX2.out HB7.out hL hLlt HRW.out (zd wc P 6 (.int .i64 1)) hP hne HRR.out) (za1 _ _ _ _ _ _ _ _ _ _ _) (Nat.le_succ _) (by have := HS2.out; omega))
end Go.Proofs.YtjmeodadkjcmmaaDoor
