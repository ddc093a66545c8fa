import Derived.Test.YtjmeodadkjcmmaaDoorWordA
namespace Go.Proofs.YtjmeodadkjcmmaaDoor
open Go.RowKit Go.ChangeShapes Go.WideShapes Go.Deep Go.ChangeAt
set_option linter.unusedVariables false
set_option maxRecDepth 20000
def oneV (K : Int) (S : ByteArray) (N : Int) (nA : Option Addr) (nc : Nat) (ss : List ByteArray) (L : Nat) (t : Ex) (lo hi : Nat) : EV := ⟨K, 0, 0, ⟨#[]⟩, none, 0, 0, S, N, nA, ss.length, nc, some ⟨L, 0, none⟩, 1, 1, .mk K dt0 S N ss [t], lo, hi⟩
theorem oneV_ok {W0 w : World} {K : Int} {S : ByteArray} {N : Int} {nA : Option Addr} {nc : Nat} {ss : List ByteArray} {L : Nat} {v : EV} {lo hi : Nat} (hn : NmIn w lo hi nA nc ss) (hx : ExIn W0 w lo hi v.cells v.t) (hL : lo <= L) (hL2 : L < hi) (hhi : hi <= w.heap.size) (hrow : ∀ j, w.cell? ⟨L, j, none⟩ = v.cells.toArray[j]?) : (kitEx W0).ok w (oneV K S N nA nc ss L v.t lo hi) := by
 refine ⟨?_, hhi⟩
 refine ExIn.mk (W0 := W0) (w := w) (lo := lo) (hi := hi) K 0 0 ⟨#[]⟩ none 0 0 dt0 (dt0_in W0) S N nA nc ss hn (some ⟨L, 0, none⟩) 1 [v.t] [v.cells] rfl (Nat.le_refl _) (by unfold maxLen; omega) ?_ ?_
 ·
  intro _
  refine ⟨L, 0, rfl, hL, hL2, by omega, fun i hi => ?_⟩
  have h0 : i = 0 := by simpa using hi
  subst h0
  intro j hj
  have := hrow j
  simp only [List.getElem_cons_zero] at hj ⊢
  simpa using this
 intro i hi hi'
 have h0 : i = 0 := by simpa using hi
 subst h0
 exact hx
theorem late9s {wc : World} {g : Nat} {ob : Obj} (hg : g < wc.heap.size) {u0 u1 u2 u3 u4 u5 u6 u7 u8 : Value} :
  (((((((((wc.alloc ob).setCell ⟨g, 0, none⟩ u0).setCell ⟨g, 1, none⟩ u1).setCell ⟨g, 2, none⟩ u2).setCell ⟨g, 3, none⟩ u3).setCell ⟨g, 4, none⟩ u4).setCell ⟨g, 5, none⟩ u5).setCell ⟨g, 6, none⟩ u6).setCell ⟨g, 7, none⟩ u7).setCell ⟨g, 8, none⟩ u8 = (((((((((wc.setCell ⟨g, 0, none⟩ u0).setCell ⟨g, 1, none⟩ u1).setCell ⟨g, 2, none⟩ u2).setCell ⟨g, 3, none⟩ u3).setCell ⟨g, 4, none⟩ u4).setCell ⟨g, 5, none⟩ u5).setCell ⟨g, 6, none⟩ u6).setCell ⟨g, 7, none⟩ u7).setCell ⟨g, 8, none⟩ u8).alloc ob := by
 rw [World.setCell_alloc_past (hn := hg), World.setCell_alloc_past (hn := by simpa using hg), World.setCell_alloc_past (hn := by simpa using hg), World.setCell_alloc_past (hn := by simpa using hg), World.setCell_alloc_past (hn := by simpa using hg), World.setCell_alloc_past (hn := by simpa using hg), World.setCell_alloc_past (hn := by simpa using hg), World.setCell_alloc_past (hn := by simpa using hg), World.setCell_alloc_past (hn := by simpa using hg)]
theorem below_undrew {W W2 : World} (h : Below W.drew.heap.size W.drew W2) : Below W.heap.size W W2 := ((Below.refl _ _).drew).trans h
theorem lam_fact {W0 w2 w1 wc : World} {nA : Option Addr} {nc : Nat} {ns : List ByteArray} {v : EV} {c : Int} {rb r : Fd Ex} {T : TypeId} (hn : NmIn w1 w2.heap.size w1.heap.size nA nc ns) (hb1 : Below w2.heap.size w2 w1) (hbc : Below w1.heap.size w1 wc) (hx : RefFact W0 w1 wc v c rb) (hr : r = mapF (fun y => .mk 6 dt0 ⟨#[]⟩ 0 ns [y]) rb) :
  RefFact W0 w2 (wc.alloc (.cells v.cells.toArray T)) (oneV 6 ⟨#[]⟩ 0 nA nc ns wc.heap.size v.t w2.heap.size (wc.heap.size + 1)) c r := by
 subst hr
 cases rb with
 | err e => exact hx
 | ok x =>
  obtain ⟨rfl, rfl, h1, h2, h3⟩ := hx
  have ha : Below wc.heap.size wc (wc.alloc (.cells v.cells.toArray T)) := (Below.refl _ _).alloc (Nat.le_refl _) _
  have hz : (wc.alloc (.cells v.cells.toArray T)).heap.size = wc.heap.size + 1 := by simp
  have s1 := hb1.size
  have s2 := hbc.size
  refine ⟨rfl, rfl, Nat.le_refl _, by rw [hz]; exact Nat.le_refl _, ?_⟩
  have hk : Below w1.heap.size w1 (wc.alloc (.cells v.cells.toArray T)) := hbc.trans (ha.mono s2)
  exact oneV_ok (hn.mono (zw hk) hk.size (Nat.le_refl _) (by omega)) (h3.1.mono (zw ha) ha.size (by omega) (by omega)) (by omega) (by omega) (by omega) (fun j => za _ _ _ j)
set_option maxHeartbeats 8000000 in
theorem word_lambda {W0 w : World} {m : Fm} {n : Nat} {rec : List ByteArray -> Dt -> Fd Ex} (A : Option Addr) (cap : Nat) (l : List Dt) (B : Option Addr) (bc : Nat) (ls : List ByteArray) (h : zc1 W0 w m B bc ls) (hl : DsAt W0 w m.F A cap l) (hn : l.length <= 1048576) (hls : ls.length <= 40) (s : ByteArray) (he : RefSays W0 m n rec) (hgd : ∀ x ∈ l, Good n x) (hu : m.up = false) (hs : s.toList = wLambda) : Calls Tryd.prog 53 #[.agg #[.slice m.G m.gl m.gc, .slice m.S m.sl m.sc, .slice m.O m.ol m.oc, .bool m.up, .slice B ls.length bc], .string s, .slice A l.length cap] w (RefPost W0 w (wordF m.pl rec ls s.toList l)) := by
 have HL := Lib.hid hl
 have H := Lib.hid h
 have HNN := Lib.hid hn
 obtain ⟨N, hN⟩ : ∃ N, l.length = N := ⟨_, rfl⟩
 have HN := Lib.hid hN
 obtain ⟨K, hK⟩ : ∃ K, ls.length = K := ⟨_, rfl⟩
 have HK := Lib.hid hK
 have HK40 := Lib.hid hls
 have hcp : N <= cap := by rw [<- hN]; exact hl.le
 have hcm : cap <= 9223372036854775807 := by have := hl.cap_; unfold maxLen at this; omega
 have hNm : N <= 9223372036854775807 := by omega
 rw [hN, hK]
 obtain ⟨r, hr⟩ : ∃ r, wordF m.pl rec ls s.toList l = r := ⟨_, rfl⟩
 have HR := Lib.hid hr
 rw [hr]
 clear hr
 obtain ⟨up, hup⟩ : ∃ up, m.up = up := ⟨_, rfl⟩
 have HUP := Lib.hid hup
 rw [hup]
 obtain ⟨w2, hw2⟩ : ∃ w2, (w.alloc (.cells #[.slice m.G m.gl m.gc, .slice m.S m.sl m.sc, .slice m.O m.ol m.oc, .bool up, .slice B K bc] 60)).alloc (.cells #[.int .i64 0, .int .i64 0, .int .i64 0, .string ⟨#[]⟩, .slice none 0 0, .string ⟨#[]⟩, .int .i64 0, .slice none 0 0, .slice none 0 0] 63) = w2 := ⟨_, rfl⟩
 have hb2 : Below w.heap.size w w2 := by rw [<- hw2]; exact ((Below.refl _ _).alloc (Nat.le_refl _) _).alloc (by simp) _
 have hs2 : w2.heap.size = w.heap.size + 2 := by rw [<- hw2]; simp
 have z : (w.alloc (.cells #[.slice m.G m.gl m.gc, .slice m.S m.sl m.sc, .slice m.O m.ol m.oc, .bool up, .slice B K bc] 60)).heap.size = w.heap.size + 1 := by simp
 have p0 : ∀ j, w2.cell? ⟨w.heap.size, j, none⟩ = (#[.slice m.G m.gl m.gc, .slice m.S m.sl m.sc, .slice m.O m.ol m.oc, .bool up, .slice B K bc] : Array Value)[j]? := fun j => by rw [<- hw2]; exact (World.cell?_alloc_lt _ _ ⟨w.heap.size, j, none⟩ (by simp)).trans (za _ _ _ j)
 have R : ∀ j, w2.cell? ⟨w.heap.size + 1, j, none⟩ = (#[.int .i64 0, .int .i64 0, .int .i64 0, .string ⟨#[]⟩, .slice none 0 0, .string ⟨#[]⟩, .int .i64 0, .slice none 0 0, .slice none 0 0] : Array Value)[j]? := fun j => by rw [<- hw2, <- z]; exact za _ _ _ j
 have RF : ∀ j, w2.frozen? ⟨w.heap.size + 1, j, none⟩ = false := fun j => by rw [<- hw2, <- z]; exact zi _ _ _ j
 have a0 : w2.cell? ⟨w.heap.size, 0, none⟩ = some (.slice m.G m.gl m.gc) := p0 0
 have a1 : w2.cell? ⟨w.heap.size, 1, none⟩ = some (.slice m.S m.sl m.sc) := p0 1
 have a2 : w2.cell? ⟨w.heap.size, 2, none⟩ = some (.slice m.O m.ol m.oc) := p0 2
 have a3 : w2.cell? ⟨w.heap.size, 3, none⟩ = some (.bool up) := p0 3
 have a4 : w2.cell? ⟨w.heap.size, 4, none⟩ = some (.slice B K bc) := p0 4
 have HB2 := Lib.hid hb2
 have HS2 := Lib.hid hs2
 have HRF := Lib.hid (And.intro R RF)
 clear h hl hn hls hN hK hup hb2 hs2 z p0
 have b0 : (s.toList == [113, 117, 111, 116, 101]) = false := by rw [hs]; rfl
 have b1 : (s.toList == [105, 102]) = false := by rw [hs]; rfl
 have b2 : (s.toList == [98, 101, 103, 105, 110]) = false := by rw [hs]; rfl
 have b3 : (s.toList == [108, 97, 109, 98, 100, 97]) = true := by rw [hs]; rfl
 have b4 : (s.toList == [108, 101, 116]) = false := by rw [hs]; rfl
 have b5 : (s.toList == [115, 101, 116, 33]) = false := by rw [hs]; rfl
 have b6 : (s.toList == [119, 97, 115]) = false := by rw [hs]; rfl
 have hr2 : r = lambdaF rec ls l := by rw [<- HR.out]; unfold wordF; rw [if_neg (by rw [show m.pl.up = false from hu]; simp), if_neg (by rw [hs]; decide), if_neg (by rw [hs]; decide), if_neg (by rw [hs]; decide), if_pos hs]
 obtain rfl : up = false := by rw [<- HUP.out, hu]
 have HE := Lib.hid he
 have HGD := Lib.hid hgd
 have HR2 := Lib.hid hr2
 clear hs hu he hgd hr2 HR
 by_cases h2 : N < 2
 ·
  obtain rfl : r = .err 10 := by
   rw [HR2.out]
   match l, HN.out with
   | [], _ => rfl
   | [d], _ => rfl
   | a :: b :: q, h => exfalso; simp at h; omega
  go_enter Tryd.func53, Tryd.ntmps53
  go_upto_region 1 with fail
  clear hw2
  go_wp2_with fail
  exact bodyPost_ret (v := .tuple #[evz.agg, .int .i64 10]) (by simp [results, Tryd.results53, go_sem, evz, EV.agg, R]) rfl (zn (by decide) (zg (by omega) HB2.out _ _ _ _ _ _ _ _ _))
 obtain ⟨d, rest, hr1, rfl⟩ : ∃ d rest, 1 <= rest.length /\ l = d :: rest := by
  match l, HN.out with
  | [], h => exfalso; simp at h; omega
  | [_], h => exfalso; simp at h; omega
  | d :: b0 :: m0, _ => exact ⟨d, b0 :: m0, by simp, rfl⟩
 have HLA := Lib.hid (lambda_eq (rec := rec) (ls := ls) (d := d) hr1)
 obtain ⟨b, o, A', c', rfl, hbw, hbF, d0, d1, d2, d3, hd, hi, ht⟩ := (HL.out.below HB2.out).first (H.out.next HB2.out).below H.out.ge
 have HT := Lib.hid ht
 have HGR := Lib.hid (show ∀ x ∈ rest, Good n x from fun x hx => HGD.out x (List.mem_cons_of_mem _ hx))
 have HNR := Lib.hid (show rest.length = N - 1 from by rw [<- HN.out, List.length_cons]; rfl)
 have hgd1 := HGD.out d (List.mem_cons_self ..)
 have HBB := Lib.hid (boundBy_any (H.out.next HB2.out).below H.out.ge (H.out.next HB2.out).lt d.k d.n d.s A' c' d.l hi (fun x hx => ⟨(hgd1.low hx).wide, fun hk => (hgd1.low hx).name hk⟩))
 obtain ⟨r0, hr0⟩ : ∃ r0, boundF d.k d.l = r0 := ⟨_, rfl⟩
 have HR0 := Lib.hid hr0
 rw [hr0] at HBB
 have hi0 : ¬ (N : Int) < 2 := by omega
 have hcap1 : ¬ cap = 1 := by omega
 have hi1 : (1 : Int) <= (N : Int) := by omega
 have hi2 : (N : Int) <= (cap : Int) := by omega
 have hi3 : IntKind.i64.wrap 1 = 1 := IntWalk.i64_in _ (by omega)
 have hN1 : 1 <= N := by omega
 have hN0 : 0 < N := by omega
 have hszV : w.heap.size < w2.heap.size := by have := HS2.out; omega
 clear hd hi ht hr0 hr1 hgd1
 go_enter Tryd.func53, Tryd.ntmps53
 go_upto_region 1 with fail
 clear hw2
 go_wp2_with fail
 refine HBB.out.mono ?_
 intro e w1 hp
 cases r0 with
 | err c =>
  obtain ⟨v, rfl, hc, hb1⟩ := hp
  obtain rfl : r = .err c := by rw [HR2.out, HLA.out, HR0.out]; rfl
  have hcne : ¬ c = 0 := by omega
  have HB1 := Lib.hid hb1
  have R3 : ∀ j, w1.cell? ⟨w.heap.size + 1, j, none⟩ = (#[.int .i64 0, .int .i64 0, .int .i64 0, .string ⟨#[]⟩, .slice none 0 0, .string ⟨#[]⟩, .int .i64 0, .slice none 0 0, .slice none 0 0] : Array Value)[j]? := fun j => (hb1.cell (p := ⟨w.heap.size + 1, j, none⟩) (by show w.heap.size + 1 < _; have := HS2.out; omega)).trans (HRF.out.1 j)
  have RF3 : ∀ j, w1.frozen? ⟨w.heap.size + 1, j, none⟩ = false := fun j => (hb1.frozen (p := ⟨w.heap.size + 1, j, none⟩) (by show w.heap.size + 1 < _; have := HS2.out; omega)).trans (HRF.out.2 j)
  clear hb1 R RF a0 a1 a2 a3 a4 d0 d1 d2 d3
  go_wp2_with fail
  exact bodyPost_ret (v := .tuple #[evz.agg, .int .i64 c]) (by simp [results, Tryd.results53, go_sem, evz, EV.agg, R3]) rfl (zn hc (zg (by omega) (HB2.out.trans (HB1.out.mono HB2.out.size)) _ _ _ _ _ _ _ _ _))
 | ok ns =>
  obtain ⟨nA, nc, rfl, hnm, hb1⟩ := hp
  have h6 := boundF_len HR0.out
  obtain ⟨rb, hrb⟩ : ∃ rb, bodyF rec (ls ++ ns) rest = rb := ⟨_, rfl⟩
  have HRB := Lib.hid hrb
  have HRR := Lib.hid (show r = mapF (fun y => .mk 6 dt0 ⟨#[]⟩ 0 ns [y]) rb from by rw [HR2.out, HLA.out, HR0.out, <- hrb]; rfl)
  have hb1' := HB2.out.trans (hb1.mono HB2.out.size)
  have HPL := Lib.hid (H.out.next hb1')
  obtain ⟨KL, hKL⟩ : ∃ KL, (ls ++ ns).length = KL := ⟨_, rfl⟩
  have hins : ∀ W : World, Below w1.heap.size w1 W -> Calls Tryd.prog 25 #[.agg #[.slice m.G m.gl m.gc, .slice m.S m.sl m.sc, .slice m.O m.ol m.oc, .bool false, .slice B K bc], .slice nA ns.length nc] W (fun e W' => ∃ B3 bc3, e = .returned (.agg #[.slice m.G m.gl m.gc, .slice m.S m.sl m.sc, .slice m.O m.ol m.oc, .bool false, .slice B3 KL bc3]) /\ zc1 W0 W' m B3 bc3 (ls ++ ns) /\ Below W.heap.size W W') := fun W hW => by
   have := inside_any (HPL.out.next hW) nA nc ns (hnm.strs.below hW) hnm.cap_ hnm.le (by have := HK40.out; omega) (by omega)
   unfold InsidePost at this
   rw [HUP.out, HK.out, hKL] at this
   exact this
  have HINS := Lib.hid hins
  have hbody : ∀ (W : World) (B3 : Option Addr) (bc3 : Nat), Below w1.heap.size w1 W -> zc1 W0 W m B3 bc3 (ls ++ ns) -> Calls Tryd.prog 26 #[.agg #[.slice m.G m.gl m.gc, .slice m.S m.sl m.sc, .slice m.O m.ol m.oc, .bool false, .slice B3 KL bc3], .slice (some ⟨b, o + 4, none⟩) (N - 1) (cap - 1)] W (RefPost W0 W rb) := fun W B3 bc3 hW hP => by
   have := formedBody_any HE.out _ (cap - 1) rest B3 bc3 (ls ++ ns) hP ((HT.out.below hb1).below hW) HGR.out (by rw [HNR.out]; have := HNN.out; have := HN.out; omega)
   rw [HNR.out, HRB.out, HUP.out, hKL] at this
   exact this
  have HBODY := Lib.hid hbody
  have HNM := Lib.hid hnm
  have HB1 := Lib.hid hb1
  have n0 : w1.cell? ⟨w.heap.size, 0, none⟩ = some (.slice m.G m.gl m.gc) := (hb1.cell (p := ⟨w.heap.size, 0, none⟩) hszV).trans a0
  have n1 : w1.cell? ⟨w.heap.size, 1, none⟩ = some (.slice m.S m.sl m.sc) := (hb1.cell (p := ⟨w.heap.size, 1, none⟩) hszV).trans a1
  have n2 : w1.cell? ⟨w.heap.size, 2, none⟩ = some (.slice m.O m.ol m.oc) := (hb1.cell (p := ⟨w.heap.size, 2, none⟩) hszV).trans a2
  have n3 : w1.cell? ⟨w.heap.size, 3, none⟩ = some (.bool false) := (hb1.cell (p := ⟨w.heap.size, 3, none⟩) hszV).trans a3
  have n4 : w1.cell? ⟨w.heap.size, 4, none⟩ = some (.slice B K bc) := (hb1.cell (p := ⟨w.heap.size, 4, none⟩) hszV).trans a4
  have R3 : ∀ j, w1.cell? ⟨w.heap.size + 1, j, none⟩ = (#[.int .i64 0, .int .i64 0, .int .i64 0, .string ⟨#[]⟩, .slice none 0 0, .string ⟨#[]⟩, .int .i64 0, .slice none 0 0, .slice none 0 0] : Array Value)[j]? := fun j => (hb1.cell (p := ⟨w.heap.size + 1, j, none⟩) (by show w.heap.size + 1 < _; have := HS2.out; omega)).trans (HRF.out.1 j)
  have RF3 : ∀ j, w1.frozen? ⟨w.heap.size + 1, j, none⟩ = false := fun j => (hb1.frozen (p := ⟨w.heap.size + 1, j, none⟩) (by show w.heap.size + 1 < _; have := HS2.out; omega)).trans (HRF.out.2 j)
  have hszW : w.heap.size < w1.heap.size := Nat.lt_of_lt_of_le hszV hb1.size
  have hq1 : w1.heap.size ≠ w.heap.size := by omega
  clear hKL hrb hins hbody hnm hb1 hb1' R RF a0 a1 a2 a3 a4 d0 d1 d2 d3 h6
  go_upto_region 22 with fail
  go_cut [13, 12] (fun v13 v12 wx => Formed W0 w1 rb v13 v12 wx)
  case first =>
   go_region_held3 (fun w' => w'.cell? ⟨w.heap.size, 0, none⟩ = some (.slice m.G m.gl m.gc) /\ w'.cell? ⟨w.heap.size, 1, none⟩ = some (.slice m.S m.sl m.sc) /\ w'.cell? ⟨w.heap.size, 2, none⟩ = some (.slice m.O m.ol m.oc) /\ w'.cell? ⟨w.heap.size, 3, none⟩ = some (.bool false) /\ w'.cell? ⟨w.heap.size, 4, none⟩ = some (.slice B K bc)) (go_keep)
    (first | (go_at_call 25; refine (HINS.out _ (by (with_reducible repeat' (first | exact Below.refl _ _ | apply Below.drew | apply below_drewN | refine Below.alloc ?_ ?_ _)); all_goals (try simp); all_goals (try omega))).mono ?_; rintro e w3 ⟨B3, bc3, rfl, hP3, hb3⟩; have HKw3 := Lib.hid ((show Below w1.heap.size w1 _ from (by (with_reducible repeat' (first | exact Below.refl _ _ | apply Below.drew | apply below_drewN | refine Below.alloc ?_ ?_ _)); all_goals (try simp); all_goals (try omega))).trans (hb3.mono (by first | exact Nat.le_refl _ | (simp; done) | (simp; omega)))); have w3c0 : w3.cell? ⟨w.heap.size, 0, none⟩ = some (.slice m.G m.gl m.gc) := (HKw3.out.cell (p := ⟨w.heap.size, 0, none⟩) hszW).trans n0; have w3c1 : w3.cell? ⟨w.heap.size, 1, none⟩ = some (.slice m.S m.sl m.sc) := (HKw3.out.cell (p := ⟨w.heap.size, 1, none⟩) hszW).trans n1; have w3c2 : w3.cell? ⟨w.heap.size, 2, none⟩ = some (.slice m.O m.ol m.oc) := (HKw3.out.cell (p := ⟨w.heap.size, 2, none⟩) hszW).trans n2; have w3c3 : w3.cell? ⟨w.heap.size, 3, none⟩ = some (.bool false) := (HKw3.out.cell (p := ⟨w.heap.size, 3, none⟩) hszW).trans n3; have w3c4 : w3.cell? ⟨w.heap.size, 4, none⟩ = some (.slice B K bc) := (HKw3.out.cell (p := ⟨w.heap.size, 4, none⟩) hszW).trans n4; have HP3 := Lib.hid hP3; have HB3 := Lib.hid hb3; have hsz3 : w1.heap.size <= w3.heap.size := HKw3.out.size; have hq3 : w3.heap.size ≠ w.heap.size := (by omega); have hlt3 := hb3.size; (try simp at hlt3); (try replace hlt3 := Nat.lt_of_succ_le hlt3); obtain ⟨g3, g4⟩ := bcell hb3; clear hP3 hb3) | (go_at_call 26; refine (HBODY.out _ _ _ (HKw3.out.trans ((show Below w3.heap.size w3 _ from (by (with_reducible repeat' (first | exact Below.refl _ _ | apply Below.drew | apply below_drewN | refine Below.alloc ?_ ?_ _)); all_goals (try simp); all_goals (try omega))).mono hsz3)) (HP3.out.next (by (with_reducible repeat' (first | exact Below.refl _ _ | apply Below.drew | apply below_drewN | refine Below.alloc ?_ ?_ _)); all_goals (try simp); all_goals (try omega)))).mono ?_; intro e w4 hp4; obtain ⟨v4, c4, rfl, hb4, hx4⟩ := hp4.both; have HKw4 := Lib.hid ((HKw3.out.trans ((show Below w3.heap.size w3 _ from (by (with_reducible repeat' (first | exact Below.refl _ _ | apply Below.drew | apply below_drewN | refine Below.alloc ?_ ?_ _)); all_goals (try simp); all_goals (try omega))).mono hsz3)).trans (hb4.mono (Nat.le_trans hsz3 (by first | exact Nat.le_refl _ | (simp; done) | (simp; omega))))); have w4c0 : w4.cell? ⟨w.heap.size, 0, none⟩ = some (.slice m.G m.gl m.gc) := (HKw4.out.cell (p := ⟨w.heap.size, 0, none⟩) hszW).trans n0; have w4c1 : w4.cell? ⟨w.heap.size, 1, none⟩ = some (.slice m.S m.sl m.sc) := (HKw4.out.cell (p := ⟨w.heap.size, 1, none⟩) hszW).trans n1; have w4c2 : w4.cell? ⟨w.heap.size, 2, none⟩ = some (.slice m.O m.ol m.oc) := (HKw4.out.cell (p := ⟨w.heap.size, 2, none⟩) hszW).trans n2; have w4c3 : w4.cell? ⟨w.heap.size, 3, none⟩ = some (.bool false) := (HKw4.out.cell (p := ⟨w.heap.size, 3, none⟩) hszW).trans n3; have w4c4 : w4.cell? ⟨w.heap.size, 4, none⟩ = some (.slice B K bc) := (HKw4.out.cell (p := ⟨w.heap.size, 4, none⟩) hszW).trans n4; have hsz4 : w1.heap.size <= w4.heap.size := HKw4.out.size; have hq4 : w4.heap.size ≠ w.heap.size := (by omega); have HB4 := Lib.hid hb4; have HX4 := Lib.hid hx4; obtain ⟨g5, g6⟩ := bcell hb4; clear hp4 hb4 hx4; unfold EV.agg))
   all_goals (go_wp2_with fail)
   all_goals go_meet
   all_goals (first | (with_reducible refine formed_after ?_ HB4.out HX4.out) | (with_reducible refine zl ?_ ?_ (Below.refl _ _) HB4.out HX4.out) | (with_reducible refine zl ?_ ?_ ((Below.refl _ _).drew) HB4.out HX4.out) | (with_reducible refine zl ?_ ?_ HB3.out HB4.out HX4.out) | (with_reducible refine zl ?_ ?_ (below_undrew HB3.out) HB4.out HX4.out))
   all_goals (first | exact HKw3.out | exact (by (with_reducible repeat' (first | exact Below.refl _ _ | apply Below.drew | apply below_drewN | refine Below.alloc ?_ ?_ _)); all_goals (try simp); all_goals (try omega)) | simp)
  obtain ⟨p, v, c, rfl, rfl, hp, hE, hbw, hx⟩ := hcut
  have q0 := hE.c0
  have q1 := hE.c1
  have q2 := hE.c2
  have q3 := hE.c3
  have q4 := hE.c4
  have q5 := hE.c5
  have q6 := hE.c6
  have q7 := hE.c7
  have q8 := hE.c8
  have hplt := hE.lt
  have HBW := Lib.hid hbw
  have HF := Lib.hid (lam_fact (T := 63) HNM.out HB1.out hbw (show RefFact W0 w1 wc v c rb from by cases rb <;> exact hx) HRR.out)
  have R5 : ∀ j, wc.cell? ⟨w.heap.size + 1, j, none⟩ = (#[.int .i64 0, .int .i64 0, .int .i64 0, .string ⟨#[]⟩, .slice none 0 0, .string ⟨#[]⟩, .int .i64 0, .slice none 0 0, .slice none 0 0] : Array Value)[j]? := fun j => (hbw.cell (p := ⟨w.heap.size + 1, j, none⟩) (by show w.heap.size + 1 < _; have := HS2.out; have := HB1.out.size; omega)).trans (R3 j)
  have RF5 : ∀ j, wc.frozen? ⟨w.heap.size + 1, j, none⟩ = false := fun j => (hbw.frozen (p := ⟨w.heap.size + 1, j, none⟩) (by show w.heap.size + 1 < _; have := HS2.out; have := HB1.out.size; omega)).trans (RF3 j)
  have hlt5 : w.heap.size + 1 < wc.heap.size := by have := HS2.out; have := HB1.out.size; have := hbw.size; omega
  have hne5 : w.heap.size + 1 ≠ wc.heap.size := by omega
  have hne6 : wc.heap.size ≠ w.heap.size + 1 := by omega
  clear hE hx hbw R3 RF3 n0 n1 n2 n3 n4
  go_wp2_with fail
  rw [<- late9s hlt5]
  exact bodyPost_ret (v := .tuple #[.agg #[.int .i64 6, .int .i64 0, .int .i64 0, .string ⟨#[]⟩, .slice none 0 0, .string ⟨#[]⟩, .int .i64 0, .slice nA ns.length nc, .slice (some ⟨wc.heap.size, 0, none⟩) 1 1], .int .i64 c]) (by simp [results, Tryd.results53, go_sem, R5, hlt5]) rfl (ref_copy HB2.out ((HB1.out.trans (HBW.out.mono HB1.out.size)).alloc (Nat.le_trans HB1.out.size HBW.out.size) _) HF.out (za1 _ _ _ _ _ _ _ _ _ _ _) (Nat.le_succ _) (by have := HS2.out; omega))
end Go.Proofs.YtjmeodadkjcmmaaDoor
