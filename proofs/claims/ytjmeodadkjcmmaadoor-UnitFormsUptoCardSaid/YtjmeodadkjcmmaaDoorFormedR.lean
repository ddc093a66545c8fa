import Derived.Test.YtjmeodadkjcmmaaDoorGWordDE
import Derived.Test.YtjmeodadkjcmmaaDoorLetU
namespace Go.Proofs.YtjmeodadkjcmmaaDoor
open Go.RowKit Go.ChangeShapes Go.WideShapes Go.Deep Go.ChangeAt
set_option linter.unusedVariables false
set_option maxRecDepth 20000
def ShortSh (m : Fm) : Prop := ∀ x ∈ m.sh, x.name.size <= 16 /\ ∀ f ∈ x.ss, f.size <= 16
def ropV (k : Int) (nm : ByteArray) (nA : Option Addr) (nc : Nat) (ns : List ByteArray) : EV := ⟨k, 0, 0, ⟨#[]⟩, none, 0, 0, nm, 0, nA, ns.length, nc, none, 0, 0, eC dt0, 0, 0⟩
def RopFact (w' : World) (lo hi : Nat) (v : EV) (c : Int) (nm : ByteArray) : Option (Int × Nat × List ByteArray) -> Prop
 | none => v = evz /\ c = 0
 | some (k, want, ns) => ∃ nA nc, v = ropV k nm nA nc ns /\ c = want /\ NmIn w' lo hi nA nc ns
theorem RopPost.both {w w' : World} {nm : ByteArray} {o : Option (Int × Nat × List ByteArray)} {e : Ending} (h : RopPost w nm e w' o) : ∃ (v : EV) (c : Int), e = .returned (.tuple #[v.agg, .int .i64 c]) /\ Below w.heap.size w w' /\ RopFact w' w.heap.size w'.heap.size v c nm o := by
 cases o with
 | none =>
  obtain ⟨h1, hb⟩ := h
  exact ⟨evz, 0, h1, hb, rfl, rfl⟩
 | some t =>
  obtain ⟨k, want, ns⟩ := t
  obtain ⟨nA, nc, h1, hn, hb⟩ := h
  exact ⟨ropV k nm nA nc ns, want, h1, hb, nA, nc, rfl, rfl, hn⟩
def RopAt (w : World) (nm : ByteArray) (o : Option (Int × Nat × List ByteArray)) (v14 v15 : Value) (w' : World) : Prop := ∃ (p lo hi : Nat) (v : EV) (c : Int), v14 = .pointer (some ⟨p, 0, none⟩) /\ v15 = .int .i64 c /\ w.heap.size <= p /\ EvAt w' p v /\ (∀ j, w'.frozen? ⟨p, j, none⟩ = false) /\ Below w.heap.size w w' /\ w.heap.size <= lo /\ hi <= w'.heap.size /\ (p < lo \/ hi <= p) /\ RopFact w' lo hi v c nm o
theorem RopFact.next {w w' : World} {lo hi : Nat} {v : EV} {c : Int} {nm : ByteArray} {o : Option (Int × Nat × List ByteArray)} (h : RopFact w lo hi v c nm o) (hk : Keep lo hi w w') (hs : w.heap.size <= w'.heap.size) : RopFact w' lo hi v c nm o := by
 match o, h with
 | none, h => exact h
 | some (k, want, ns), ⟨nA, nc, h1, h2, h3⟩ => exact ⟨nA, nc, h1, h2, h3.mono hk hs (Nat.le_refl _) (Nat.le_refl _)⟩
theorem rop_after {w w1 w3 : World} {nm : ByteArray} {o : Option (Int × Nat × List ByteArray)} {v : EV} {c : Int} {t : TypeId} (hb : Below w.heap.size w w1) (hb3 : Below w1.heap.size w1 w3) (hx : RopFact w3 w1.heap.size w3.heap.size v c nm o) :
  RopAt w nm o (.pointer (some ⟨w3.heap.size, 0, none⟩)) (.int .i64 c) (w3.alloc (.cells #[.int .i64 v.k, .int .i64 v.dk, .int .i64 v.dn, .string v.ds, .slice v.dA v.dl v.dc, .string v.S, .int .i64 v.N, .slice v.nA v.nl v.nc, .slice v.aA v.al v.ac] t)) := by
 have ha : Below w3.heap.size w3 (w3.alloc (.cells #[.int .i64 v.k, .int .i64 v.dk, .int .i64 v.dn, .string v.ds, .slice v.dA v.dl v.dc, .string v.S, .int .i64 v.N, .slice v.nA v.nl v.nc, .slice v.aA v.al v.ac] t)) := (Below.refl _ _).alloc (Nat.le_refl _) _
 exact ⟨w3.heap.size, w1.heap.size, w3.heap.size, v, c, rfl, rfl, Nat.le_trans hb.size hb3.size, evAt_new _ _ _, fun j => zi _ _ _ j, (hb.trans (hb3.mono hb.size)).trans (ha.mono (Nat.le_trans hb.size hb3.size)), hb.size, ha.size, Or.inr (Nat.le_refl _), hx.next (zw ha) ha.size⟩
theorem rop_before {w w0 w1 w3 : World} {p : Nat} {nm : ByteArray} {o : Option (Int × Nat × List ByteArray)} {v : EV} {c : Int} (hp : w0.heap.size = p) (hb0 : Below w.heap.size w w0) (hb1 : Below (w0.alloc (.cells #[.int .i64 0, .int .i64 0, .int .i64 0, .string ⟨#[]⟩, .slice none 0 0, .string ⟨#[]⟩, .int .i64 0, .slice none 0 0, .slice none 0 0] 63)).heap.size (w0.alloc (.cells #[.int .i64 0, .int .i64 0, .int .i64 0, .string ⟨#[]⟩, .slice none 0 0, .string ⟨#[]⟩, .int .i64 0, .slice none 0 0, .slice none 0 0] 63)) w1) (hb3 : Below w1.heap.size w1 w3) (hx : RopFact w3 w1.heap.size w3.heap.size v c nm o) :
  RopAt w nm o (.pointer (some ⟨p, 0, none⟩)) (.int .i64 c) (((((((((w3.setCell ⟨p, 0, none⟩ (.int .i64 v.k)).setCell ⟨p, 1, none⟩ (.int .i64 v.dk)).setCell ⟨p, 2, none⟩ (.int .i64 v.dn)).setCell ⟨p, 3, none⟩ (.string v.ds)).setCell ⟨p, 4, none⟩ (.slice v.dA v.dl v.dc)).setCell ⟨p, 5, none⟩ (.string v.S)).setCell ⟨p, 6, none⟩ (.int .i64 v.N)).setCell ⟨p, 7, none⟩ (.slice v.nA v.nl v.nc)).setCell ⟨p, 8, none⟩ (.slice v.aA v.al v.ac)) := by
 subst hp
 have hz : (w0.alloc (.cells #[.int .i64 0, .int .i64 0, .int .i64 0, .string ⟨#[]⟩, .slice none 0 0, .string ⟨#[]⟩, .int .i64 0, .slice none 0 0, .slice none 0 0] 63)).heap.size = w0.heap.size + 1 := by simp
 have hs1 : w0.heap.size < w1.heap.size := by have := hb1.size; omega
 have hs3 : w0.heap.size < w3.heap.size := Nat.lt_of_lt_of_le hs1 hb3.size
 have hcell : ∀ j, w3.cell? ⟨w0.heap.size, j, none⟩ = (w0.alloc (.cells #[.int .i64 0, .int .i64 0, .int .i64 0, .string ⟨#[]⟩, .slice none 0 0, .string ⟨#[]⟩, .int .i64 0, .slice none 0 0, .slice none 0 0] 63)).cell? ⟨w0.heap.size, j, none⟩ := fun j =>
  (hb3.cell (p := ⟨w0.heap.size, j, none⟩) hs1).trans (hb1.cell (p := ⟨w0.heap.size, j, none⟩) (by show w0.heap.size < _; omega))
 have hfz : ∀ j, w3.frozen? ⟨w0.heap.size, j, none⟩ = false := fun j =>
  ((hb3.frozen (p := ⟨w0.heap.size, j, none⟩) hs1).trans (hb1.frozen (p := ⟨w0.heap.size, j, none⟩) (by show w0.heap.size < _; omega))).trans (zi _ _ _ j)
 have h01 : Below w.heap.size w w1 := (hb0.alloc hb0.size _).trans (hb1.mono (by have := hb0.size; omega))
 have hg9 := za1 w3 w0.heap.size (.int .i64 v.k) (.int .i64 v.dk) (.int .i64 v.dn) (.string v.ds) (.slice v.dA v.dl v.dc) (.string v.S) (.int .i64 v.N) (.slice v.nA v.nl v.nc) (.slice v.aA v.al v.ac)
 have hb9 := below9 w.heap.size w0.heap.size hb0.size w3 (.int .i64 v.k) (.int .i64 v.dk) (.int .i64 v.dn) (.string v.ds) (.slice v.dA v.dl v.dc) (.string v.S) (.int .i64 v.N) (.slice v.nA v.nl v.nc) (.slice v.aA v.al v.ac)
 refine ⟨w0.heap.size, w1.heap.size, w3.heap.size, v, c, rfl, rfl, hb0.size, evAt_set hs3 ((hcell 0).trans (za _ _ _ 0)) ((hcell 1).trans (za _ _ _ 1)) ((hcell 2).trans (za _ _ _ 2)) ((hcell 3).trans (za _ _ _ 3)) ((hcell 4).trans (za _ _ _ 4)) ((hcell 5).trans (za _ _ _ 5)) ((hcell 6).trans (za _ _ _ 6)) ((hcell 7).trans (za _ _ _ 7)) ((hcell 8).trans (za _ _ _ 8)), fun j => by simpa using hfz j, (h01.trans (hb3.mono h01.size)).trans hb9, h01.size, hg9.size, Or.inl hs1, hx.next (zm hg9 (fun b h1 h2 e => by have := Option.some.inj e; omega)) hg9.size⟩
theorem opF_kind {nm s : ByteArray} {fs : List ByteArray} {n : Nat} {k : Int} {want : Nat} {ns : List ByteArray} (h : opF nm fs s n = some (k, want, ns)) : k ≠ 0 := by
 unfold opF at h
 split at h
 ·
  cases h; decide
 split at h
 ·
  cases h; decide
 split at h
 ·
  cases h; decide
 split at h
 ·
  cases h; decide
 cases h
def RestAt (W0 w5 : World) (F J : Nat) (rest : List Dt) (v7 : Value) (wx : World) : Prop := w5 = wx /\ ∃ R rc, v7 = .slice R J rc /\ J <= rc /\ rc <= maxLen /\ DsAt W0 w5 F R rc rest
theorem callF_up {p : Pl} {rec : Dt -> Fd Ex} {l : List Dt} (h : p.up = true) : callF p rec l = .err 15 := by unfold callF; rw [if_pos h]
theorem callF_many {p : Pl} {rec : Dt -> Fd Ex} {l : List Dt} (h : p.up = false) (h7 : 7 < l.length) : callF p rec l = .err 10 := by unfold callF; rw [if_neg (by rw [h]; simp), if_pos h7]
theorem callF_ok {p : Pl} {rec : Dt -> Fd Ex} {l : List Dt} (h : p.up = false) (h7 : ¬ 7 < l.length) : callF p rec l = mapF (eK 9 ⟨#[]⟩) (allF rec l) := by unfold callF; rw [if_neg (by rw [h]; simp), if_neg h7]
set_option maxHeartbeats 16000000 in
theorem formed_one {W0 : World} {m : Fm} {n : Nat} {rec : List ByteArray -> Dt -> Fd Ex} (hsh : ShortSh m) (he : RefSays W0 m n rec) : RefSays W0 m (n + 1) (formF m.pl rec) := by
 intro w d A c B bc ls h hgd hd hls
 have HLET := Lib.hid (formedLet_any he)
 have hds := hgd.wide
 have hdl := hgd.len
 obtain ⟨N, hN⟩ : ∃ N, d.l.length = N := ⟨_, rfl⟩
 have HN := Lib.hid hN
 rw [hN] at hd hdl ⊢
 obtain ⟨K, hK⟩ : ∃ K, ls.length = K := ⟨_, rfl⟩
 have HK := Lib.hid hK
 have HK40 := Lib.hid hls
 obtain ⟨up, hup⟩ : ∃ up, m.up = up := ⟨_, rfl⟩
 have HUP := Lib.hid hup
 rw [hK, hup]
 obtain ⟨dk, hdk⟩ : ∃ dk, d.k = dk := ⟨_, rfl⟩
 have HDK := Lib.hid hdk
 have HD := Lib.hid hd
 rw [hdk]
 have H := Lib.hid h
 have HE := Lib.hid he
 have HGD := Lib.hid hgd
 have HSH := Lib.hid hsh
 obtain ⟨r, hr⟩ : ∃ r, formF m.pl rec ls d = r := ⟨_, rfl⟩
 have HR := Lib.hid hr
 rw [hr]
 obtain ⟨hk1, hk4⟩ := hgd.kind
 rw [hdk] at hk1 hk4
 obtain ⟨w2, hw2⟩ : ∃ w2, ((w.alloc (.cells #[.slice m.G m.gl m.gc, .slice m.S m.sl m.sc, .slice m.O m.ol m.oc, .bool up, .slice B K bc] 60)).alloc (.cells #[.int .i64 dk, .int .i64 d.n, .string d.s, .slice A N c] 38)).alloc (.cells #[.int .i64 0, .int .i64 0, .int .i64 0, .string ⟨#[]⟩, .slice none 0 0, .string ⟨#[]⟩, .int .i64 0, .slice none 0 0, .slice none 0 0] 63) = w2 := ⟨_, rfl⟩
 have hb2 : Below w.heap.size w w2 := by rw [<- hw2]; exact (((Below.refl _ _).alloc (Nat.le_refl _) _).alloc (by simp) _).alloc (by simp; omega) _
 have hs2 : w2.heap.size = w.heap.size + 3 := by rw [<- hw2]; simp
 have z1 : (w.alloc (.cells #[.slice m.G m.gl m.gc, .slice m.S m.sl m.sc, .slice m.O m.ol m.oc, .bool up, .slice B K bc] 60)).heap.size = w.heap.size + 1 := by simp
 have z2 : ((w.alloc (.cells #[.slice m.G m.gl m.gc, .slice m.S m.sl m.sc, .slice m.O m.ol m.oc, .bool up, .slice B K bc] 60)).alloc (.cells #[.int .i64 dk, .int .i64 d.n, .string d.s, .slice A N c] 38)).heap.size = w.heap.size + 1 + 1 := by simp
 have P : ∀ j, w2.cell? ⟨w.heap.size, j, none⟩ = (#[.slice m.G m.gl m.gc, .slice m.S m.sl m.sc, .slice m.O m.ol m.oc, .bool up, .slice B K bc] : Array Value)[j]? := fun j => by rw [<- hw2]; exact (World.cell?_alloc_lt _ _ ⟨w.heap.size, j, none⟩ (by simp; omega)).trans ((World.cell?_alloc_lt _ _ ⟨w.heap.size, j, none⟩ (by simp)).trans (za _ _ _ j))
 have D : ∀ j, w2.cell? ⟨w.heap.size + 1, j, none⟩ = (#[.int .i64 dk, .int .i64 d.n, .string d.s, .slice A N c] : Array Value)[j]? := fun j => by rw [<- hw2]; refine (World.cell?_alloc_lt _ _ ⟨w.heap.size + 1, j, none⟩ (by simp)).trans ?_; rw [<- z1]; exact za _ _ _ j
 have R : ∀ j, w2.cell? ⟨w.heap.size + 1 + 1, j, none⟩ = (#[.int .i64 0, .int .i64 0, .int .i64 0, .string ⟨#[]⟩, .slice none 0 0, .string ⟨#[]⟩, .int .i64 0, .slice none 0 0, .slice none 0 0] : Array Value)[j]? := fun j => by rw [<- hw2, <- z2]; exact za _ _ _ j
 have RF : ∀ j, w2.frozen? ⟨w.heap.size + 1 + 1, j, none⟩ = false := fun j => by rw [<- hw2, <- z2]; exact zi _ _ _ j
 have HB2 := Lib.hid hb2
 have HS2 := Lib.hid hs2
 have hs2a : w.heap.size + 3 <= w2.heap.size := by omega
 have hs2b : w2.heap.size <= w.heap.size + 3 := by omega
 have p0 : w2.cell? ⟨w.heap.size, 0, none⟩ = some (.slice m.G m.gl m.gc) := P 0
 have p1 : w2.cell? ⟨w.heap.size, 1, none⟩ = some (.slice m.S m.sl m.sc) := P 1
 have p2 : w2.cell? ⟨w.heap.size, 2, none⟩ = some (.slice m.O m.ol m.oc) := P 2
 have p3 : w2.cell? ⟨w.heap.size, 3, none⟩ = some (.bool up) := P 3
 have p4 : w2.cell? ⟨w.heap.size, 4, none⟩ = some (.slice B K bc) := P 4
 have b0 : w2.cell? ⟨w.heap.size + 1, 0, none⟩ = some (.int .i64 dk) := D 0
 have b1 : w2.cell? ⟨w.heap.size + 1, 1, none⟩ = some (.int .i64 d.n) := D 1
 have b2 : w2.cell? ⟨w.heap.size + 1, 2, none⟩ = some (.string d.s) := D 2
 have b3 : w2.cell? ⟨w.heap.size + 1, 3, none⟩ = some (.slice A N c) := D 3
 have HPD := Lib.hid (And.intro P (And.intro D (And.intro R RF)))
 clear h he hgd hd hr hN hK hup hls hsh hb2 hs2 z1 z2 P D hdk
 rcases (show (dk = 1 \/ dk = 2) \/ dk = 3 \/ dk = 4 by omega) with hk | hk | hk
 ·
  -- a constant
  obtain rfl : r = .ok (eC d) := by rw [<- HR.out]; unfold formF; rw [if_pos (by rw [HDK.out]; exact hk)]
  have hka : (dk == 1) = true \/ ((dk == 1) = false /\ (dk == 2) = true) := by
   rcases hk with h | h
   ·
    exact Or.inl (by rw [h]; rfl)
   exact Or.inr ⟨by rw [h]; rfl, by rw [h]; rfl⟩
  clear hk hk1 hk4
  rcases hka with ha | ⟨ha, hb⟩
  all_goals
   go_enter Tryd.func23, Tryd.ntmps23
   go_upto_region 1 with fail
   (try rw [hw2])
   clear hw2
   go_wp2_with fail
   exact bodyPost_ret (v := .tuple #[.agg #[.int .i64 1, .int .i64 dk, .int .i64 d.n, .string d.s, .slice A N c, .string ⟨#[]⟩, .int .i64 0, .slice none 0 0, .slice none 0 0], .int .i64 0]) (by simp [results, Tryd.results23, go_sem, R]) rfl (ref_plain 1 dk d.n d.s A N c d ⟨#[]⟩ 0 (by rw [<- HDK.out]; exact HD.out) (zg (by omega) HB2.out _ _ _ _ _ _ _ _ _))
 ·
  -- a name
  have hr2 : namedF m.pl ls d.s = r := by rw [<- HR.out]; unfold formF; rw [if_neg (by rw [HDK.out]; omega), if_pos (by exact HDK.out.trans hk)]
  have HAL := Lib.hid (show Calls Tryd.prog 51 #[.agg #[.slice m.G m.gl m.gc, .slice m.S m.sl m.sc, .slice m.O m.ol m.oc, .bool up, .slice B K bc], .string d.s] w2 (RefPost W0 w2 r) from by have := named_ref (H.out.next HB2.out) d.s hds; rwa [HUP.out, HK.out, hr2] at this)
  subst hk
  clear hk1 hk4 hr2
  go_enter Tryd.func23, Tryd.ntmps23
  go_upto_region 1 with fail
  (try rw [hw2])
  clear hw2
  go_wp2_with fail
  refine HAL.out.mono ?_
  intro e w3 hp
  obtain ⟨v, ce, rfl, hb3, hx⟩ := hp.both
  have HX := Lib.hid hx
  have HB3 := Lib.hid hb3
  have R3 : ∀ j, w3.cell? ⟨w.heap.size + 1 + 1, j, none⟩ = (#[.int .i64 0, .int .i64 0, .int .i64 0, .string ⟨#[]⟩, .slice none 0 0, .string ⟨#[]⟩, .int .i64 0, .slice none 0 0, .slice none 0 0] : Array Value)[j]? := fun j => (hb3.cell (p := ⟨w.heap.size + 1 + 1, j, none⟩) (by show w.heap.size + 1 + 1 < _; omega)).trans (R j)
  have RF3 : ∀ j, w3.frozen? ⟨w.heap.size + 1 + 1, j, none⟩ = false := fun j => (hb3.frozen (p := ⟨w.heap.size + 1 + 1, j, none⟩) (by show w.heap.size + 1 + 1 < _; omega)).trans (RF j)
  clear hb3 hx hp R RF
  unfold EV.agg
  go_wp2_with fail
  exact bodyPost_ret (v := .tuple #[v.agg, .int .i64 ce]) (by simp [results, Tryd.results23, go_sem, R3, EV.agg]) rfl (ref_copy HB2.out HB3.out HX.out (za1 _ _ _ _ _ _ _ _ _ _ _) (by omega) (by omega))
 subst hk
 rcases hdd : d.l with _ | ⟨hh, rest⟩
 ·
  obtain rfl : r = .err 4 := by rw [<- HR.out]; unfold formF; rw [if_neg (by rw [HDK.out]; omega), if_neg (by rw [HDK.out]; omega), hdd]
  have hL : ((N : Int) == 0) = true := by have := HN.out; rw [hdd] at this; rw [<- this]; rfl
  clear hk1 hk4 hdd
  go_enter Tryd.func23, Tryd.ntmps23
  go_upto_region 1 with fail
  (try rw [hw2])
  clear hw2
  go_wp2_with fail
  exact bodyPost_ret (v := .tuple #[evz.agg, .int .i64 4]) (by simp [results, Tryd.results23, go_sem, evz, EV.agg, R]) rfl (zn (by decide) (zg (by omega) HB2.out _ _ _ _ _ _ _ _ _))
 obtain ⟨A0, c00, hA0, hit⟩ := HD.out.items H.out.below H.out.ge
 obtain ⟨rfl, rfl⟩ : A = A0 /\ c = c00 := by have h := hA0; simp only [List.cons.injEq, Value.slice.injEq, and_true, true_and] at h; exact ⟨h.1, h.2.2⟩
 have hle := hit.le
 rw [HN.out] at hle
 have hcm := hit.cap_
 unfold maxLen at hcm
 rw [hdd] at hit
 have HIT := Lib.hid (hit.below HB2.out)
 obtain ⟨b, o, A', c', rfl, hbw, hbF, d0, d1, d2, d3, hdh, hih, htl⟩ := (hit.below HB2.out).first (H.out.next HB2.out).below H.out.ge
 have hrl : N = rest.length + 1 := by rw [<- HN.out, hdd]; rfl
 have HNR := Lib.hid (show rest.length = N - 1 by omega)
 have HDD := Lib.hid hdd
 have HGH := Lib.hid (show Good n hh from HGD.out.item (by rw [hdd]; simp))
 have HGR := Lib.hid (show ∀ x ∈ rest, Good n x from fun x hx => HGD.out.item (by rw [hdd]; exact List.mem_cons_of_mem _ hx))
 have HTL := Lib.hid htl
 have hL : ((N : Int) == 0) = false := by rw [beq_eq_false_iff_ne]; omega
 have hN1 : 1 <= N := by omega
 have hi1 : (1 : Int) <= (N : Int) := by omega
 have hi2 : (N : Int) <= (c : Int) := by omega
 have hi3 : IntKind.i64.wrap 1 = 1 := IntWalk.i64_in _ (by omega)
 have hi4 : 0 < N := by omega
 have HK4 := Lib.hid (show d.k = 4 from HDK.out)
 obtain ⟨hs, hhs⟩ : ∃ hs, hh.s = hs := ⟨_, rfl⟩
 have HHS := Lib.hid hhs
 obtain ⟨hk, hhk⟩ : ∃ hk, hh.k = hk := ⟨_, rfl⟩
 have HHK := Lib.hid hhk
 rw [hhs] at d2
 rw [hhk] at d0
 have hss : hs.size <= maxLen := by rw [<- hhs]; exact HGH.out.wide
 clear hk1 hk4 hdd hit hrl hA0 htl hdh hih hhs hhk
 go_enter Tryd.func23, Tryd.ntmps23
 go_upto_region 1 with fail
 (try rw [hw2])
 clear hw2
 go_upto_region 8 with fail
 obtain ⟨w5, hw5⟩ : ∃ w5, w2.alloc (.cells #[.int .i64 hk, .int .i64 hh.n, .string hs, .slice A' hh.l.length c'] 38) = w5 := ⟨_, rfl⟩
 have hb5 : Below w2.heap.size w2 w5 := by rw [<- hw5]; exact (Below.refl _ _).alloc (Nat.le_refl _) _
 have HH : ∀ j, w5.cell? ⟨w2.heap.size, j, none⟩ = (#[.int .i64 hk, .int .i64 hh.n, .string hs, .slice A' hh.l.length c'] : Array Value)[j]? := fun j => by rw [<- hw5]; exact za _ _ _ j
 have HS5 := Lib.hid (show w5.heap.size = w.heap.size + 4 by rw [<- hw5]; simp [HS2.out])
 (try rw [hw5])
 have HP5 := Lib.hid (And.intro (fun j => (hb5.cell (p := ⟨w.heap.size, j, none⟩) (by show w.heap.size < _; omega)).trans (HPD.out.1 j)) (And.intro (fun j => (hb5.cell (p := ⟨w.heap.size + 1, j, none⟩) (by show w.heap.size + 1 < _; omega)).trans (HPD.out.2.1 j)) (And.intro HH (And.intro (fun j => (hb5.cell (p := ⟨w.heap.size + 1 + 1, j, none⟩) (by show w.heap.size + 1 + 1 < _; omega)).trans (HPD.out.2.2.1 j)) (fun j => (hb5.frozen (p := ⟨w.heap.size + 1 + 1, j, none⟩) (by show w.heap.size + 1 + 1 < _; omega)).trans (HPD.out.2.2.2 j))))))
 have HB5 := Lib.hid (HB2.out.trans (hb5.mono (by omega)))
 have HPL5 := Lib.hid (H.out.next HB5.out)
 have HIT5 := Lib.hid (HIT.out.below hb5)
 have htl5 := HTL.out.below hb5
 have w5d3 : w5.cell? ⟨w.heap.size + 1, 3, none⟩ = some (.slice (some ⟨b, o, none⟩) N c) := HP5.out.2.1 3
 clear hw5 hb5 HH p0 p1 p2 p3 p4 b0 b1 b2 b3 R RF d0 d1 d2 d3
 go_cut [7] (fun v7 wx => RestAt W0 w5 m.F (N - 1) rest v7 wx)
 case first =>
  by_cases hcap1 : c = 1
  case pos =>
   subst hcap1
   obtain rfl : N = 1 := by omega
   go_wp2_with fail
   go_meet
   exact ⟨rfl, some ⟨b, o, none⟩, 0, rfl, Nat.le_refl _, by unfold maxLen; omega, by rw [HNR.out]; exact Nat.le_refl _, by unfold maxLen; omega, fun h => absurd h (by rw [HNR.out]; simp)⟩
  case neg =>
   go_wp2_with fail
   go_meet
   exact ⟨rfl, some ⟨b, o + 4, none⟩, c - 1, rfl, by omega, by unfold maxLen; omega, htl5⟩
 obtain ⟨hwx, R, rc, rfl, hJrc, hrcm, hds5⟩ := hcut
 subst hwx
 obtain ⟨J, hJ⟩ : ∃ J, N - 1 = J := ⟨_, rfl⟩
 have HJ := Lib.hid (show rest.length = J by rw [HNR.out]; exact hJ)
 have HNJ := Lib.hid (show N = J + 1 by omega)
 rw [hJ] at hJrc ⊢
 have hJm : J <= 9223372036854775807 := by unfold maxLen at hrcm; omega
 have HD5 := Lib.hid hds5
 have hJ1 : J <= 1048576 := by omega
 have hs5a : w.heap.size + 4 <= w5.heap.size := by have := HS5.out; omega
 have hs5b : w5.heap.size <= w.heap.size + 4 := by have := HS5.out; omega
 have w5p0 : w5.cell? ⟨w.heap.size, 0, none⟩ = some (.slice m.G m.gl m.gc) := ((Below.refl w5.heap.size w5).cell (p := ⟨w.heap.size, 0, none⟩) (by show w.heap.size < _; omega)).trans (HP5.out.1 0)
 have w5p1 : w5.cell? ⟨w.heap.size, 1, none⟩ = some (.slice m.S m.sl m.sc) := ((Below.refl w5.heap.size w5).cell (p := ⟨w.heap.size, 1, none⟩) (by show w.heap.size < _; omega)).trans (HP5.out.1 1)
 have w5p2 : w5.cell? ⟨w.heap.size, 2, none⟩ = some (.slice m.O m.ol m.oc) := ((Below.refl w5.heap.size w5).cell (p := ⟨w.heap.size, 2, none⟩) (by show w.heap.size < _; omega)).trans (HP5.out.1 2)
 have w5p3 : w5.cell? ⟨w.heap.size, 3, none⟩ = some (.bool up) := ((Below.refl w5.heap.size w5).cell (p := ⟨w.heap.size, 3, none⟩) (by show w.heap.size < _; omega)).trans (HP5.out.1 3)
 have w5p4 : w5.cell? ⟨w.heap.size, 4, none⟩ = some (.slice B K bc) := ((Below.refl w5.heap.size w5).cell (p := ⟨w.heap.size, 4, none⟩) (by show w.heap.size < _; omega)).trans (HP5.out.1 4)
 have w5d3 : w5.cell? ⟨w.heap.size + 1, 3, none⟩ = some (.slice (some ⟨b, o, none⟩) N c) := ((Below.refl w5.heap.size w5).cell (p := ⟨w.heap.size + 1, 3, none⟩) (by show w.heap.size + 1 < _; omega)).trans (HP5.out.2.1 3)
 have w5h0 : w5.cell? ⟨w2.heap.size, 0, none⟩ = some (.int .i64 hk) := ((Below.refl w5.heap.size w5).cell (p := ⟨w2.heap.size, 0, none⟩) (by show w2.heap.size < _; omega)).trans (HP5.out.2.2.1 0)
 have w5h2 : w5.cell? ⟨w2.heap.size, 2, none⟩ = some (.string hs) := ((Below.refl w5.heap.size w5).cell (p := ⟨w2.heap.size, 2, none⟩) (by show w2.heap.size < _; omega)).trans (HP5.out.2.2.1 2)
 have w5R : ∀ j, w5.cell? ⟨w.heap.size + 1 + 1, j, none⟩ = (#[.int .i64 0, .int .i64 0, .int .i64 0, .string ⟨#[]⟩, .slice none 0 0, .string ⟨#[]⟩, .int .i64 0, .slice none 0 0, .slice none 0 0] : Array Value)[j]? := fun j => ((Below.refl w5.heap.size w5).cell (p := ⟨w.heap.size + 1 + 1, j, none⟩) (by show w.heap.size + 1 + 1 < _; omega)).trans (HP5.out.2.2.2.1 j)
 have w5RF : ∀ j, w5.frozen? ⟨w.heap.size + 1 + 1, j, none⟩ = false := fun j => ((Below.refl w5.heap.size w5).frozen (p := ⟨w.heap.size + 1 + 1, j, none⟩) (by show w.heap.size + 1 + 1 < _; omega)).trans (HP5.out.2.2.2.2 j)
 have w5sz : w2.heap.size < w5.heap.size := by have := (Below.refl w5.heap.size w5).size; omega
 have HRF5 := Lib.hid (Below.refl w5.heap.size w5)
 clear hds5 hJ w5d3 htl5 hcm hrcm hle
 by_cases hk3 : hk = 3
 case neg =>
  have hkb : (hk != 3) = true := by rw [bne_iff_ne]; exact hk3
  have HCF := Lib.hid (show r = callF m.pl (rec ls) (hh :: rest) from by rw [<- HR.out]; exact form_call HK4.out HDD.out (Or.inl (by rw [HHK.out]; exact hk3)))
  clear hk3
  go_upto_region 17 with fail
  cases up
  case true =>
   obtain rfl : r = .err 15 := by rw [HCF.out]; exact callF_up HUP.out
   go_wp2_with fail
   exact bodyPost_ret (v := .tuple #[evz.agg, .int .i64 15]) (by simp [results, Tryd.results23, go_sem, evz, EV.agg, w5R]) rfl (zn (by decide) (zg (by omega) (HB5.out.trans (HRF5.out.mono HB5.out.size)) _ _ _ _ _ _ _ _ _))
  by_cases h7 : 6 < J
  case pos =>
   obtain rfl : r = .err 10 := by rw [HCF.out]; exact callF_many HUP.out (by rw [List.length_cons, HJ.out]; omega)
   have h72 : (6 : Int) < (J : Int) := by omega
   go_wp2_with fail
   exact bodyPost_ret (v := .tuple #[evz.agg, .int .i64 10]) (by simp [results, Tryd.results23, go_sem, evz, EV.agg, w5R]) rfl (zn (by decide) (zg (by omega) (HB5.out.trans (HRF5.out.mono HB5.out.size)) _ _ _ _ _ _ _ _ _))
  have h72 : ¬ (6 : Int) < (J : Int) := by omega
  obtain ⟨rx, hrx⟩ : ∃ rx, allF (rec ls) (hh :: rest) = rx := ⟨_, rfl⟩
  have HRX := Lib.hid (show r = mapF (eK 9 ⟨#[]⟩) rx from by rw [HCF.out, callF_ok HUP.out (by rw [List.length_cons, HJ.out]; omega), hrx])
  have hln : (hh :: rest).length = N := by rw [List.length_cons, HJ.out, HNJ.out]
  have HAL := Lib.hid (show Calls Tryd.prog 55 #[.agg #[.slice m.G m.gl m.gc, .slice m.S m.sl m.sc, .slice m.O m.ol m.oc, .bool false, .slice B K bc], .slice (some ⟨b, o, none⟩) N c] w5 (RefXs W0 w5 N rx) from by have := formedAll_any HE.out (some ⟨b, o, none⟩) c (hh :: rest) B bc ls (HPL5.out.next HRF5.out) (HIT5.out.below HRF5.out) (fun x hx => by rcases List.mem_cons.1 hx with rfl | hx; exact HGH.out; exact HGR.out x hx) (by rw [hln]; exact hdl) HK40.out; rwa [hln, HK.out, HUP.out, hrx] at this)
  clear h7 hrx hln
  go_wp2_with fail
  refine HAL.out.mono ?_
  intro e w7 hp
  cases rx with
  | err ce =>
   obtain ⟨sA, sl, sc, rfl, hce, hb7⟩ := hp
   obtain rfl : r = .err ce := HRX.out
   have HB7 := Lib.hid hb7
   have R7 : ∀ j, w7.cell? ⟨w.heap.size + 1 + 1, j, none⟩ = (#[.int .i64 0, .int .i64 0, .int .i64 0, .string ⟨#[]⟩, .slice none 0 0, .string ⟨#[]⟩, .int .i64 0, .slice none 0 0, .slice none 0 0] : Array Value)[j]? := fun j => (hb7.cell (p := ⟨w.heap.size + 1 + 1, j, none⟩) (by show w.heap.size + 1 + 1 < _; omega)).trans (w5R j)
   have RF7 : ∀ j, w7.frozen? ⟨w.heap.size + 1 + 1, j, none⟩ = false := fun j => (hb7.frozen (p := ⟨w.heap.size + 1 + 1, j, none⟩) (by show w.heap.size + 1 + 1 < _; omega)).trans (w5RF j)
   have h7h2 : w7.cell? ⟨w2.heap.size, 2, none⟩ = some (.string hs) := (hb7.cell (p := ⟨w2.heap.size, 2, none⟩) (by show w2.heap.size < _; omega)).trans w5h2
   clear hb7 w5p0 w5p1 w5p2 w5p3 w5p4 w5d3 w5h0 w5h2 w5R w5RF
   go_wp2_with fail
   exact bodyPost_ret (v := .tuple #[.agg #[.int .i64 9, .int .i64 0, .int .i64 0, .string ⟨#[]⟩, .slice none 0 0, .string ⟨#[]⟩, .int .i64 0, .slice none 0 0, .slice sA sl sc], .int .i64 ce]) (by simp [results, Tryd.results23, go_sem, R7]) rfl ⟨⟨9, 0, 0, ⟨#[]⟩, none, 0, 0, ⟨#[]⟩, 0, none, 0, 0, sA, sl, sc, eC dt0, 0, 0⟩, rfl, hce, zg (by omega) ((HB5.out.trans (HRF5.out.mono HB5.out.size)).trans (HB7.out.mono (HB5.out.trans (HRF5.out.mono HB5.out.size)).size)) _ _ _ _ _ _ _ _ _⟩
  | ok xs =>
   obtain ⟨v, X, rfl, hO, hX, hXl, hb7⟩ := hp
   obtain rfl : r = .ok (eK 9 ⟨#[]⟩ xs) := HRX.out
   obtain ⟨A7, c7, rfl, hXc, hcm7, _⟩ := hO.form
   have HXL := Lib.hid hXl
   have HO := Lib.hid hO
   have HX := Lib.hid hX
   have HB7 := Lib.hid hb7
   have R7 : ∀ j, w7.cell? ⟨w.heap.size + 1 + 1, j, none⟩ = (#[.int .i64 0, .int .i64 0, .int .i64 0, .string ⟨#[]⟩, .slice none 0 0, .string ⟨#[]⟩, .int .i64 0, .slice none 0 0, .slice none 0 0] : Array Value)[j]? := fun j => (hb7.cell (p := ⟨w.heap.size + 1 + 1, j, none⟩) (by show w.heap.size + 1 + 1 < _; omega)).trans (w5R j)
   have RF7 : ∀ j, w7.frozen? ⟨w.heap.size + 1 + 1, j, none⟩ = false := fun j => (hb7.frozen (p := ⟨w.heap.size + 1 + 1, j, none⟩) (by show w.heap.size + 1 + 1 < _; omega)).trans (w5RF j)
   have h7h2 : w7.cell? ⟨w2.heap.size, 2, none⟩ = some (.string hs) := (hb7.cell (p := ⟨w2.heap.size, 2, none⟩) (by show w2.heap.size < _; omega)).trans w5h2
   clear hb7 hO hX w5p0 w5p1 w5p2 w5p3 w5p4 w5d3 w5h0 w5h2 w5R w5RF
   go_wp2_with fail
   refine bodyPost_ret (v := .tuple #[.agg #[.int .i64 9, .int .i64 0, .int .i64 0, .string ⟨#[]⟩, .slice none 0 0, .string ⟨#[]⟩, .int .i64 0, .slice none 0 0, .slice A7 X.length c7], .int .i64 0]) ?_ rfl ?_
   ·
    rw [HXL.out]
    simp [results, Tryd.results23, go_sem, R7]
   obtain ⟨u, hu1, hu2⟩ := got_buildG (W0 := W0) (w := w) (g := w.heap.size + 1 + 1) HO.out (by omega) ((HB5.out.trans (HRF5.out.mono HB5.out.size)).trans (HB7.out.mono (HB5.out.trans (HRF5.out.mono HB5.out.size)).size)) (by omega) (za1 w7 (w.heap.size + 1 + 1) _ _ _ _ _ _ _ _ _) 9 ⟨#[]⟩ 0
   injection hu1 with hu1
   rw [HX.out] at hu2
   rw [hu1]
   exact ⟨u, rfl, hu2⟩
 have hkb : (hk != 3) = false := by rw [bne_eq_false_iff_eq]; exact hk3
 have hkk : hh.k = 3 := by rw [HHK.out]; exact hk3
 have HKK := Lib.hid hkk
 clear hk3 hkk
 go_upto_region 9 with fail
 have hisl := isIn_any hs B K bc ls w5 HPL5.out.lcap (by have := HPL5.out.lle; rw [HK.out] at this; exact this) (by have := HPL5.out.l; rw [HK.out] at this; exact this)
 have HISL := Lib.hid hisl
 clear hisl
 go_wp2_with fail
 refine HISL.out.mono ?_
 rintro e w5' ⟨rfl, rfl⟩
 cases hin : inL ls hs
 case true =>
  have HCF := Lib.hid (show r = callF m.pl (rec ls) (hh :: rest) from by rw [<- HR.out]; exact form_call HK4.out HDD.out (Or.inr (by rw [HHS.out]; exact hin)))
  clear hin
  go_upto_region 17 with fail
  cases up
  case true =>
   obtain rfl : r = .err 15 := by rw [HCF.out]; exact callF_up HUP.out
   go_wp2_with fail
   exact bodyPost_ret (v := .tuple #[evz.agg, .int .i64 15]) (by simp [results, Tryd.results23, go_sem, evz, EV.agg, w5R]) rfl (zn (by decide) (zg (by omega) (HB5.out.trans (HRF5.out.mono HB5.out.size)) _ _ _ _ _ _ _ _ _))
  by_cases h7 : 6 < J
  case pos =>
   obtain rfl : r = .err 10 := by rw [HCF.out]; exact callF_many HUP.out (by rw [List.length_cons, HJ.out]; omega)
   have h72 : (6 : Int) < (J : Int) := by omega
   go_wp2_with fail
   exact bodyPost_ret (v := .tuple #[evz.agg, .int .i64 10]) (by simp [results, Tryd.results23, go_sem, evz, EV.agg, w5R]) rfl (zn (by decide) (zg (by omega) (HB5.out.trans (HRF5.out.mono HB5.out.size)) _ _ _ _ _ _ _ _ _))
  have h72 : ¬ (6 : Int) < (J : Int) := by omega
  obtain ⟨rx, hrx⟩ : ∃ rx, allF (rec ls) (hh :: rest) = rx := ⟨_, rfl⟩
  have HRX := Lib.hid (show r = mapF (eK 9 ⟨#[]⟩) rx from by rw [HCF.out, callF_ok HUP.out (by rw [List.length_cons, HJ.out]; omega), hrx])
  have hln : (hh :: rest).length = N := by rw [List.length_cons, HJ.out, HNJ.out]
  have HAL := Lib.hid (show Calls Tryd.prog 55 #[.agg #[.slice m.G m.gl m.gc, .slice m.S m.sl m.sc, .slice m.O m.ol m.oc, .bool false, .slice B K bc], .slice (some ⟨b, o, none⟩) N c] w5 (RefXs W0 w5 N rx) from by have := formedAll_any HE.out (some ⟨b, o, none⟩) c (hh :: rest) B bc ls (HPL5.out.next HRF5.out) (HIT5.out.below HRF5.out) (fun x hx => by rcases List.mem_cons.1 hx with rfl | hx; exact HGH.out; exact HGR.out x hx) (by rw [hln]; exact hdl) HK40.out; rwa [hln, HK.out, HUP.out, hrx] at this)
  clear h7 hrx hln
  go_wp2_with fail
  refine HAL.out.mono ?_
  intro e w7 hp
  cases rx with
  | err ce =>
   obtain ⟨sA, sl, sc, rfl, hce, hb7⟩ := hp
   obtain rfl : r = .err ce := HRX.out
   have HB7 := Lib.hid hb7
   have R7 : ∀ j, w7.cell? ⟨w.heap.size + 1 + 1, j, none⟩ = (#[.int .i64 0, .int .i64 0, .int .i64 0, .string ⟨#[]⟩, .slice none 0 0, .string ⟨#[]⟩, .int .i64 0, .slice none 0 0, .slice none 0 0] : Array Value)[j]? := fun j => (hb7.cell (p := ⟨w.heap.size + 1 + 1, j, none⟩) (by show w.heap.size + 1 + 1 < _; omega)).trans (w5R j)
   have RF7 : ∀ j, w7.frozen? ⟨w.heap.size + 1 + 1, j, none⟩ = false := fun j => (hb7.frozen (p := ⟨w.heap.size + 1 + 1, j, none⟩) (by show w.heap.size + 1 + 1 < _; omega)).trans (w5RF j)
   have h7h2 : w7.cell? ⟨w2.heap.size, 2, none⟩ = some (.string hs) := (hb7.cell (p := ⟨w2.heap.size, 2, none⟩) (by show w2.heap.size < _; omega)).trans w5h2
   clear hb7 w5p0 w5p1 w5p2 w5p3 w5p4 w5d3 w5h0 w5h2 w5R w5RF
   go_wp2_with fail
   exact bodyPost_ret (v := .tuple #[.agg #[.int .i64 9, .int .i64 0, .int .i64 0, .string ⟨#[]⟩, .slice none 0 0, .string ⟨#[]⟩, .int .i64 0, .slice none 0 0, .slice sA sl sc], .int .i64 ce]) (by simp [results, Tryd.results23, go_sem, R7]) rfl ⟨⟨9, 0, 0, ⟨#[]⟩, none, 0, 0, ⟨#[]⟩, 0, none, 0, 0, sA, sl, sc, eC dt0, 0, 0⟩, rfl, hce, zg (by omega) ((HB5.out.trans (HRF5.out.mono HB5.out.size)).trans (HB7.out.mono (HB5.out.trans (HRF5.out.mono HB5.out.size)).size)) _ _ _ _ _ _ _ _ _⟩
  | ok xs =>
   obtain ⟨v, X, rfl, hO, hX, hXl, hb7⟩ := hp
   obtain rfl : r = .ok (eK 9 ⟨#[]⟩ xs) := HRX.out
   obtain ⟨A7, c7, rfl, hXc, hcm7, _⟩ := hO.form
   have HXL := Lib.hid hXl
   have HO := Lib.hid hO
   have HX := Lib.hid hX
   have HB7 := Lib.hid hb7
   have R7 : ∀ j, w7.cell? ⟨w.heap.size + 1 + 1, j, none⟩ = (#[.int .i64 0, .int .i64 0, .int .i64 0, .string ⟨#[]⟩, .slice none 0 0, .string ⟨#[]⟩, .int .i64 0, .slice none 0 0, .slice none 0 0] : Array Value)[j]? := fun j => (hb7.cell (p := ⟨w.heap.size + 1 + 1, j, none⟩) (by show w.heap.size + 1 + 1 < _; omega)).trans (w5R j)
   have RF7 : ∀ j, w7.frozen? ⟨w.heap.size + 1 + 1, j, none⟩ = false := fun j => (hb7.frozen (p := ⟨w.heap.size + 1 + 1, j, none⟩) (by show w.heap.size + 1 + 1 < _; omega)).trans (w5RF j)
   have h7h2 : w7.cell? ⟨w2.heap.size, 2, none⟩ = some (.string hs) := (hb7.cell (p := ⟨w2.heap.size, 2, none⟩) (by show w2.heap.size < _; omega)).trans w5h2
   clear hb7 hO hX w5p0 w5p1 w5p2 w5p3 w5p4 w5d3 w5h0 w5h2 w5R w5RF
   go_wp2_with fail
   refine bodyPost_ret (v := .tuple #[.agg #[.int .i64 9, .int .i64 0, .int .i64 0, .string ⟨#[]⟩, .slice none 0 0, .string ⟨#[]⟩, .int .i64 0, .slice none 0 0, .slice A7 X.length c7], .int .i64 0]) ?_ rfl ?_
   ·
    rw [HXL.out]
    simp [results, Tryd.results23, go_sem, R7]
   obtain ⟨u, hu1, hu2⟩ := got_buildG (W0 := W0) (w := w) (g := w.heap.size + 1 + 1) HO.out (by omega) ((HB5.out.trans (HRF5.out.mono HB5.out.size)).trans (HB7.out.mono (HB5.out.trans (HRF5.out.mono HB5.out.size)).size)) (by omega) (za1 w7 (w.heap.size + 1 + 1) _ _ _ _ _ _ _ _ _) 9 ⟨#[]⟩ 0
   injection hu1 with hu1
   rw [HX.out] at hu2
   rw [hu1]
   exact ⟨u, rfl, hu2⟩
 have HNC := Lib.hid (show ¬ (hh.k ≠ 3 \/ inL ls hh.s = true) from by rw [HHS.out, hin]; exact fun h => h.elim (fun h => h HKK.out) (fun h => by cases h))
 clear hin
 go_wp2_with fail
 refine (isWord_any hs w5).mono ?_
 rintro e w6 ⟨rfl, hb6⟩
 have hs6 := hb6.size
 have w6p0 : w6.cell? ⟨w.heap.size, 0, none⟩ = some (.slice m.G m.gl m.gc) := (hb6.cell (p := ⟨w.heap.size, 0, none⟩) (by show w.heap.size < _; omega)).trans (HP5.out.1 0)
 have w6p1 : w6.cell? ⟨w.heap.size, 1, none⟩ = some (.slice m.S m.sl m.sc) := (hb6.cell (p := ⟨w.heap.size, 1, none⟩) (by show w.heap.size < _; omega)).trans (HP5.out.1 1)
 have w6p2 : w6.cell? ⟨w.heap.size, 2, none⟩ = some (.slice m.O m.ol m.oc) := (hb6.cell (p := ⟨w.heap.size, 2, none⟩) (by show w.heap.size < _; omega)).trans (HP5.out.1 2)
 have w6p3 : w6.cell? ⟨w.heap.size, 3, none⟩ = some (.bool up) := (hb6.cell (p := ⟨w.heap.size, 3, none⟩) (by show w.heap.size < _; omega)).trans (HP5.out.1 3)
 have w6p4 : w6.cell? ⟨w.heap.size, 4, none⟩ = some (.slice B K bc) := (hb6.cell (p := ⟨w.heap.size, 4, none⟩) (by show w.heap.size < _; omega)).trans (HP5.out.1 4)
 have w6d3 : w6.cell? ⟨w.heap.size + 1, 3, none⟩ = some (.slice (some ⟨b, o, none⟩) N c) := (hb6.cell (p := ⟨w.heap.size + 1, 3, none⟩) (by show w.heap.size + 1 < _; omega)).trans (HP5.out.2.1 3)
 have w6h0 : w6.cell? ⟨w2.heap.size, 0, none⟩ = some (.int .i64 hk) := (hb6.cell (p := ⟨w2.heap.size, 0, none⟩) (by show w2.heap.size < _; omega)).trans (HP5.out.2.2.1 0)
 have w6h2 : w6.cell? ⟨w2.heap.size, 2, none⟩ = some (.string hs) := (hb6.cell (p := ⟨w2.heap.size, 2, none⟩) (by show w2.heap.size < _; omega)).trans (HP5.out.2.2.1 2)
 have w6R : ∀ j, w6.cell? ⟨w.heap.size + 1 + 1, j, none⟩ = (#[.int .i64 0, .int .i64 0, .int .i64 0, .string ⟨#[]⟩, .slice none 0 0, .string ⟨#[]⟩, .int .i64 0, .slice none 0 0, .slice none 0 0] : Array Value)[j]? := fun j => (hb6.cell (p := ⟨w.heap.size + 1 + 1, j, none⟩) (by show w.heap.size + 1 + 1 < _; omega)).trans (HP5.out.2.2.2.1 j)
 have w6RF : ∀ j, w6.frozen? ⟨w.heap.size + 1 + 1, j, none⟩ = false := fun j => (hb6.frozen (p := ⟨w.heap.size + 1 + 1, j, none⟩) (by show w.heap.size + 1 + 1 < _; omega)).trans (HP5.out.2.2.2.2 j)
 have w6sz : w2.heap.size < w6.heap.size := by have := hb6.size; omega
 have HB6 := Lib.hid hb6
 clear w5p0 w5p1 w5p2 w5p3 w5p4 w5d3 w5h0 w5h2 w5R w5RF hb6
 cases hkw : isKw hs.toList
 case true =>
  have HWD := Lib.hid (show Calls Tryd.prog 53 #[.agg #[.slice m.G m.gl m.gc, .slice m.S m.sl m.sc, .slice m.O m.ol m.oc, .bool up, .slice B K bc], .string hs, .slice R J rc] w6 (RefPost W0 w6 (wordF m.pl rec ls hs.toList rest)) from by have := word_any R rc rest B bc ls (HPL5.out.next HB6.out) (HD5.out.below HB6.out) (by rw [HJ.out]; exact hJ1) HK40.out hs HE.out HLET.out HGR.out; rwa [HJ.out, HK.out, HUP.out] at this)
  have HRW := Lib.hid (show wordF m.pl rec ls hs.toList rest = r from by rw [<- HR.out, <- HHS.out]; exact (form_word HK4.out HDD.out HNC.out (by rw [HHS.out]; exact hkw)).symm)
  clear hkw
  go_wp2_with fail
  refine HWD.out.mono ?_
  intro e w7 hp
  rw [HRW.out] at hp
  obtain ⟨v, ce, rfl, hb7, hx⟩ := hp.both
  have HX := Lib.hid hx
  have HB7 := Lib.hid hb7
  have R7 : ∀ j, w7.cell? ⟨w.heap.size + 1 + 1, j, none⟩ = (#[.int .i64 0, .int .i64 0, .int .i64 0, .string ⟨#[]⟩, .slice none 0 0, .string ⟨#[]⟩, .int .i64 0, .slice none 0 0, .slice none 0 0] : Array Value)[j]? := fun j => (hb7.cell (p := ⟨w.heap.size + 1 + 1, j, none⟩) (by show w.heap.size + 1 + 1 < _; omega)).trans (w6R j)
  have RF7 : ∀ j, w7.frozen? ⟨w.heap.size + 1 + 1, j, none⟩ = false := fun j => (hb7.frozen (p := ⟨w.heap.size + 1 + 1, j, none⟩) (by show w.heap.size + 1 + 1 < _; omega)).trans (w6RF j)
  clear hb7 hx hp w6p0 w6p1 w6p2 w6p3 w6p4 w6d3 w6h0 w6h2 w6R w6RF
  unfold EV.agg
  go_wp2_with fail
  exact bodyPost_ret (v := .tuple #[v.agg, .int .i64 ce]) (by simp [results, Tryd.results23, go_sem, R7, EV.agg]) rfl (ref_copy (HB5.out.trans (HB6.out.mono HB5.out.size)) HB7.out HX.out (za1 _ _ _ _ _ _ _ _ _ _ _) (by omega) (by omega))
 have HKW := Lib.hid (show isKw hh.s.toList = false from by rw [HHS.out]; exact hkw)
 obtain ⟨pn, hpn⟩ : ∃ pn, primN hs.toList = pn := ⟨_, rfl⟩
 have HPN := Lib.hid (show primN hh.s.toList = pn from by rw [HHS.out]; exact hpn)
 have HPR := Lib.hid (show ∀ W : World, Calls Tryd.prog 54 #[.string hs] W (fun e w' => e = .returned (.int .i64 pn) /\ W = w') from fun W => by have := primArgs_any hs W; rwa [hpn] at this)
 clear hkw hpn
 go_wp2_with fail
 refine (HPR.out _).mono ?_
 rintro e w6' ⟨rfl, rfl⟩
 by_cases hp0 : 0 <= pn
 case pos =>
  have HPF := Lib.hid (show r = (if pn = rest.length then mapF (eK 10 hs) (allF (rec ls) rest) else .err 10) from by rw [<- HR.out, form_prim HK4.out HDD.out HNC.out HKW.out (by rw [HPN.out]; exact hp0), HPN.out, HHS.out])
  go_wp2_with fail
  refine (HPR.out _).mono ?_
  rintro e w6' ⟨rfl, rfl⟩
  by_cases hpJ : pn = (J : Int)
  case neg =>
   have hne : (pn != (J : Int)) = true := by rw [bne_iff_ne]; exact hpJ
   obtain rfl : r = .err 10 := by rw [HPF.out, if_neg (by rw [HJ.out]; exact hpJ)]
   clear hpJ
   go_wp2_with fail
   exact bodyPost_ret (v := .tuple #[evz.agg, .int .i64 10]) (by simp [results, Tryd.results23, go_sem, evz, EV.agg, w6R]) rfl (zn (by decide) (zg (by omega) (HB5.out.trans (HB6.out.mono HB5.out.size)) _ _ _ _ _ _ _ _ _))
  have hne : (pn != (J : Int)) = false := by rw [bne_eq_false_iff_eq]; exact hpJ
  obtain ⟨rx, hrx⟩ : ∃ rx, allF (rec ls) rest = rx := ⟨_, rfl⟩
  have HRX := Lib.hid (show r = mapF (eK 10 hs) rx from by rw [HPF.out, if_pos (by rw [HJ.out]; exact hpJ), hrx])
  have HAL := Lib.hid (show Calls Tryd.prog 55 #[.agg #[.slice m.G m.gl m.gc, .slice m.S m.sl m.sc, .slice m.O m.ol m.oc, .bool up, .slice B K bc], .slice R J rc] w6 (RefXs W0 w6 J rx) from by have := formedAll_any HE.out R rc rest B bc ls (HPL5.out.next HB6.out) (HD5.out.below HB6.out) HGR.out (by rw [HJ.out]; exact hJ1) HK40.out; rwa [HJ.out, HK.out, HUP.out, hrx] at this)
  clear hpJ hrx
  go_wp2_with fail
  refine HAL.out.mono ?_
  intro e w7 hp
  cases rx with
  | err ce =>
   obtain ⟨sA, sl, sc, rfl, hce, hb7⟩ := hp
   obtain rfl : r = .err ce := HRX.out
   have HB7 := Lib.hid hb7
   have R7 : ∀ j, w7.cell? ⟨w.heap.size + 1 + 1, j, none⟩ = (#[.int .i64 0, .int .i64 0, .int .i64 0, .string ⟨#[]⟩, .slice none 0 0, .string ⟨#[]⟩, .int .i64 0, .slice none 0 0, .slice none 0 0] : Array Value)[j]? := fun j => (hb7.cell (p := ⟨w.heap.size + 1 + 1, j, none⟩) (by show w.heap.size + 1 + 1 < _; omega)).trans (w6R j)
   have RF7 : ∀ j, w7.frozen? ⟨w.heap.size + 1 + 1, j, none⟩ = false := fun j => (hb7.frozen (p := ⟨w.heap.size + 1 + 1, j, none⟩) (by show w.heap.size + 1 + 1 < _; omega)).trans (w6RF j)
   have h7h2 : w7.cell? ⟨w2.heap.size, 2, none⟩ = some (.string hs) := (hb7.cell (p := ⟨w2.heap.size, 2, none⟩) (by show w2.heap.size < _; omega)).trans w6h2
   clear hb7 w6p0 w6p1 w6p2 w6p3 w6p4 w6d3 w6h0 w6h2 w6R w6RF
   go_wp2_with fail
   exact bodyPost_ret (v := .tuple #[.agg #[.int .i64 10, .int .i64 0, .int .i64 0, .string ⟨#[]⟩, .slice none 0 0, .string hs, .int .i64 0, .slice none 0 0, .slice sA sl sc], .int .i64 ce]) (by simp [results, Tryd.results23, go_sem, R7]) rfl ⟨⟨10, 0, 0, ⟨#[]⟩, none, 0, 0, hs, 0, none, 0, 0, sA, sl, sc, eC dt0, 0, 0⟩, rfl, hce, zg (by omega) ((HB5.out.trans (HB6.out.mono HB5.out.size)).trans (HB7.out.mono (HB5.out.trans (HB6.out.mono HB5.out.size)).size)) _ _ _ _ _ _ _ _ _⟩
  | ok xs =>
   obtain ⟨v, X, rfl, hO, hX, hXl, hb7⟩ := hp
   obtain rfl : r = .ok (eK 10 hs xs) := HRX.out
   obtain ⟨A7, c7, rfl, hXc, hcm7, _⟩ := hO.form
   have HXL := Lib.hid hXl
   have HO := Lib.hid hO
   have HX := Lib.hid hX
   have HB7 := Lib.hid hb7
   have R7 : ∀ j, w7.cell? ⟨w.heap.size + 1 + 1, j, none⟩ = (#[.int .i64 0, .int .i64 0, .int .i64 0, .string ⟨#[]⟩, .slice none 0 0, .string ⟨#[]⟩, .int .i64 0, .slice none 0 0, .slice none 0 0] : Array Value)[j]? := fun j => (hb7.cell (p := ⟨w.heap.size + 1 + 1, j, none⟩) (by show w.heap.size + 1 + 1 < _; omega)).trans (w6R j)
   have RF7 : ∀ j, w7.frozen? ⟨w.heap.size + 1 + 1, j, none⟩ = false := fun j => (hb7.frozen (p := ⟨w.heap.size + 1 + 1, j, none⟩) (by show w.heap.size + 1 + 1 < _; omega)).trans (w6RF j)
   have h7h2 : w7.cell? ⟨w2.heap.size, 2, none⟩ = some (.string hs) := (hb7.cell (p := ⟨w2.heap.size, 2, none⟩) (by show w2.heap.size < _; omega)).trans w6h2
   clear hb7 hO hX w6p0 w6p1 w6p2 w6p3 w6p4 w6d3 w6h0 w6h2 w6R w6RF
   go_wp2_with fail
   refine bodyPost_ret (v := .tuple #[.agg #[.int .i64 10, .int .i64 0, .int .i64 0, .string ⟨#[]⟩, .slice none 0 0, .string hs, .int .i64 0, .slice none 0 0, .slice A7 X.length c7], .int .i64 0]) ?_ rfl ?_
   ·
    rw [HXL.out]
    simp [results, Tryd.results23, go_sem, R7]
   obtain ⟨u, hu1, hu2⟩ := got_buildG (W0 := W0) (w := w) (g := w.heap.size + 1 + 1) HO.out (by omega) ((HB5.out.trans (HB6.out.mono HB5.out.size)).trans (HB7.out.mono (HB5.out.trans (HB6.out.mono HB5.out.size)).size)) (by omega) (za1 w7 (w.heap.size + 1 + 1) _ _ _ _ _ _ _ _ _) 10 hs 0
   injection hu1 with hu1
   rw [HX.out] at hu2
   rw [hu1]
   exact ⟨u, rfl, hu2⟩
 have hp1 : pn < 0 := by omega
 have HEL := Lib.hid (show r = (if m.pl.up = true then .err 15 else if inL m.pl.globals hs = true then callF m.pl (rec ls) (hh :: rest) else recF (rec ls) hs rest m.pl.shapes) from by rw [<- HR.out, <- HHS.out]; exact form_else HK4.out HDD.out HNC.out HKW.out (by rw [HPN.out]; exact hp0))
 clear hp0
 go_upto_region 17 with fail
 cases up
 case true =>
  obtain rfl : r = .err 15 := by rw [HEL.out, if_pos (show m.pl.up = true from HUP.out)]
  go_wp2_with fail
  exact bodyPost_ret (v := .tuple #[evz.agg, .int .i64 15]) (by simp [results, Tryd.results23, go_sem, evz, EV.agg, w6R]) rfl (zn (by decide) (zg (by omega) (HB5.out.trans (HB6.out.mono HB5.out.size)) _ _ _ _ _ _ _ _ _))
 have HEL2 := Lib.hid (show r = (if inL m.pl.globals hs = true then callF m.pl (rec ls) (hh :: rest) else recF (rec ls) hs rest m.pl.shapes) from by rw [HEL.out, if_neg (by rw [show m.pl.up = false from HUP.out]; simp)])
 have HISG := Lib.hid (isIn_any hs m.G m.gl m.gc m.gs w6 HPL5.out.gcap HPL5.out.gle (HPL5.out.next HB6.out).g)
 go_wp2_with fail
 refine HISG.out.mono ?_
 rintro e w6' ⟨rfl, rfl⟩
 cases hgl : inL m.gs hs
 case true =>
  have HCF := Lib.hid (show r = callF m.pl (rec ls) (hh :: rest) from by rw [HEL2.out]; exact if_pos hgl)
  clear hgl
  go_upto_region 20 with fail
  by_cases h7 : 6 < J
  case pos =>
   obtain rfl : r = .err 10 := by rw [HCF.out]; exact callF_many HUP.out (by rw [List.length_cons, HJ.out]; omega)
   have h72 : (6 : Int) < (J : Int) := by omega
   go_wp2_with fail
   exact bodyPost_ret (v := .tuple #[evz.agg, .int .i64 10]) (by simp [results, Tryd.results23, go_sem, evz, EV.agg, w6R]) rfl (zn (by decide) (zg (by omega) (HB5.out.trans (HB6.out.mono HB5.out.size)) _ _ _ _ _ _ _ _ _))
  have h72 : ¬ (6 : Int) < (J : Int) := by omega
  obtain ⟨rx, hrx⟩ : ∃ rx, allF (rec ls) (hh :: rest) = rx := ⟨_, rfl⟩
  have HRX := Lib.hid (show r = mapF (eK 9 ⟨#[]⟩) rx from by rw [HCF.out, callF_ok HUP.out (by rw [List.length_cons, HJ.out]; omega), hrx])
  have hln : (hh :: rest).length = N := by rw [List.length_cons, HJ.out, HNJ.out]
  have HAL := Lib.hid (show Calls Tryd.prog 55 #[.agg #[.slice m.G m.gl m.gc, .slice m.S m.sl m.sc, .slice m.O m.ol m.oc, .bool false, .slice B K bc], .slice (some ⟨b, o, none⟩) N c] w6 (RefXs W0 w6 N rx) from by have := formedAll_any HE.out (some ⟨b, o, none⟩) c (hh :: rest) B bc ls (HPL5.out.next HB6.out) (HIT5.out.below HB6.out) (fun x hx => by rcases List.mem_cons.1 hx with rfl | hx; exact HGH.out; exact HGR.out x hx) (by rw [hln]; exact hdl) HK40.out; rwa [hln, HK.out, HUP.out, hrx] at this)
  clear h7 hrx hln
  go_wp2_with fail
  refine HAL.out.mono ?_
  intro e w7 hp
  cases rx with
  | err ce =>
   obtain ⟨sA, sl, sc, rfl, hce, hb7⟩ := hp
   obtain rfl : r = .err ce := HRX.out
   have HB7 := Lib.hid hb7
   have R7 : ∀ j, w7.cell? ⟨w.heap.size + 1 + 1, j, none⟩ = (#[.int .i64 0, .int .i64 0, .int .i64 0, .string ⟨#[]⟩, .slice none 0 0, .string ⟨#[]⟩, .int .i64 0, .slice none 0 0, .slice none 0 0] : Array Value)[j]? := fun j => (hb7.cell (p := ⟨w.heap.size + 1 + 1, j, none⟩) (by show w.heap.size + 1 + 1 < _; omega)).trans (w6R j)
   have RF7 : ∀ j, w7.frozen? ⟨w.heap.size + 1 + 1, j, none⟩ = false := fun j => (hb7.frozen (p := ⟨w.heap.size + 1 + 1, j, none⟩) (by show w.heap.size + 1 + 1 < _; omega)).trans (w6RF j)
   have h7h2 : w7.cell? ⟨w2.heap.size, 2, none⟩ = some (.string hs) := (hb7.cell (p := ⟨w2.heap.size, 2, none⟩) (by show w2.heap.size < _; omega)).trans w6h2
   clear hb7 w6p0 w6p1 w6p2 w6p3 w6p4 w6d3 w6h0 w6h2 w6R w6RF
   go_wp2_with fail
   exact bodyPost_ret (v := .tuple #[.agg #[.int .i64 9, .int .i64 0, .int .i64 0, .string ⟨#[]⟩, .slice none 0 0, .string ⟨#[]⟩, .int .i64 0, .slice none 0 0, .slice sA sl sc], .int .i64 ce]) (by simp [results, Tryd.results23, go_sem, R7]) rfl ⟨⟨9, 0, 0, ⟨#[]⟩, none, 0, 0, ⟨#[]⟩, 0, none, 0, 0, sA, sl, sc, eC dt0, 0, 0⟩, rfl, hce, zg (by omega) ((HB5.out.trans (HB6.out.mono HB5.out.size)).trans (HB7.out.mono (HB5.out.trans (HB6.out.mono HB5.out.size)).size)) _ _ _ _ _ _ _ _ _⟩
  | ok xs =>
   obtain ⟨v, X, rfl, hO, hX, hXl, hb7⟩ := hp
   obtain rfl : r = .ok (eK 9 ⟨#[]⟩ xs) := HRX.out
   obtain ⟨A7, c7, rfl, hXc, hcm7, _⟩ := hO.form
   have HXL := Lib.hid hXl
   have HO := Lib.hid hO
   have HX := Lib.hid hX
   have HB7 := Lib.hid hb7
   have R7 : ∀ j, w7.cell? ⟨w.heap.size + 1 + 1, j, none⟩ = (#[.int .i64 0, .int .i64 0, .int .i64 0, .string ⟨#[]⟩, .slice none 0 0, .string ⟨#[]⟩, .int .i64 0, .slice none 0 0, .slice none 0 0] : Array Value)[j]? := fun j => (hb7.cell (p := ⟨w.heap.size + 1 + 1, j, none⟩) (by show w.heap.size + 1 + 1 < _; omega)).trans (w6R j)
   have RF7 : ∀ j, w7.frozen? ⟨w.heap.size + 1 + 1, j, none⟩ = false := fun j => (hb7.frozen (p := ⟨w.heap.size + 1 + 1, j, none⟩) (by show w.heap.size + 1 + 1 < _; omega)).trans (w6RF j)
   have h7h2 : w7.cell? ⟨w2.heap.size, 2, none⟩ = some (.string hs) := (hb7.cell (p := ⟨w2.heap.size, 2, none⟩) (by show w2.heap.size < _; omega)).trans w6h2
   clear hb7 hO hX w6p0 w6p1 w6p2 w6p3 w6p4 w6d3 w6h0 w6h2 w6R w6RF
   go_wp2_with fail
   refine bodyPost_ret (v := .tuple #[.agg #[.int .i64 9, .int .i64 0, .int .i64 0, .string ⟨#[]⟩, .slice none 0 0, .string ⟨#[]⟩, .int .i64 0, .slice none 0 0, .slice A7 X.length c7], .int .i64 0]) ?_ rfl ?_
   ·
    rw [HXL.out]
    simp [results, Tryd.results23, go_sem, R7]
   obtain ⟨u, hu1, hu2⟩ := got_buildG (W0 := W0) (w := w) (g := w.heap.size + 1 + 1) HO.out (by omega) ((HB5.out.trans (HB6.out.mono HB5.out.size)).trans (HB7.out.mono (HB5.out.trans (HB6.out.mono HB5.out.size)).size)) (by omega) (za1 w7 (w.heap.size + 1 + 1) _ _ _ _ _ _ _ _ _) 9 ⟨#[]⟩ 0
   injection hu1 with hu1
   rw [HX.out] at hu2
   rw [hu1]
   exact ⟨u, rfl, hu2⟩
 have HRF := Lib.hid (show recF (rec ls) hs rest ((m.sh.map Shp.sh).drop 0) = r from by rw [HEL2.out]; exact (if_neg (by rw [show inL m.pl.globals hs = false from hgl]; simp)).symm)
 clear hgl
 obtain ⟨SN, hSN⟩ : ∃ SN, m.sl = SN := ⟨_, rfl⟩
 have HSN := Lib.hid (show m.sh.length = SN from by rw [HPL5.out.s.size, hSN])
 have HSL := Lib.hid hSN
 obtain ⟨SA, hSA⟩ : ∃ SA, m.S = SA := ⟨_, rfl⟩
 have HSA := Lib.hid hSA
 have hsle : SN <= m.sc := by rw [<- hSN]; exact HPL5.out.sle
 have hscm : m.sc <= 9223372036854775807 := HPL5.out.scap
 have HP6 := Lib.hid (And.intro (show w6.cell? ⟨w.heap.size, 1, none⟩ = some (.slice SA SN m.sc) from by rw [<- hSN, <- hSA]; exact w6p1) (And.intro (fun j => w6R j) (fun j => w6RF j)))
 have HP62 := Lib.hid (And.intro (And.intro w6p0 (And.intro w6p2 (And.intro w6p3 w6p4))) w6h2)
 rw [hSN, hSA] at w6p1
 have hs65 : w2.heap.size < w6.heap.size := by omega
 clear hSN hSA
 go_wp2_with fail
 clear w6p0 w6p1 w6p2 w6p3 w6p4 w6d3 w6h0 w6h2 w6R w6RF
 go_loopw [13] (fun i wr => ∃ k : Nat, k <= SN /\ i = .int .i64 k /\ Below w6.heap.size w6 wr /\ recF (rec ls) hs rest ((m.sh.map Shp.sh).drop k) = r) (fun i _ => SN - (intOf i).toNat)
 case atStart => exact ⟨0, by omega, rfl, Below.refl _ _, HRF.out⟩
 obtain ⟨k, hk', rfl, hb, hrk⟩ := hrel
 have HRK := Lib.hid hrk
 have HB := Lib.hid hb
 have hsw := hb.size
 have hwr0 : w.heap.size < wr.heap.size := by omega
 have hwr2 : w.heap.size + 1 + 1 < wr.heap.size := by omega
 have hwr3 : w2.heap.size < wr.heap.size := by omega
 have HBR := Lib.hid (show Below w.heap.size w wr from (HB5.out.trans (HB6.out.mono HB5.out.size)).trans (hb.mono (by omega)))
 have wrp1 : wr.cell? ⟨w.heap.size, 1, none⟩ = some (.slice SA SN m.sc) := (hb.cell (p := ⟨w.heap.size, 1, none⟩) (by show w.heap.size < _; omega)).trans HP6.out.1
 have wrp0 : wr.cell? ⟨w.heap.size, 0, none⟩ = some (.slice m.G m.gl m.gc) := (hb.cell (p := ⟨w.heap.size, 0, none⟩) (by show w.heap.size < _; omega)).trans HP62.out.1.1
 have wrp2 : wr.cell? ⟨w.heap.size, 2, none⟩ = some (.slice m.O m.ol m.oc) := (hb.cell (p := ⟨w.heap.size, 2, none⟩) (by show w.heap.size < _; omega)).trans HP62.out.1.2.1
 have wrp3 : wr.cell? ⟨w.heap.size, 3, none⟩ = some (.bool false) := (hb.cell (p := ⟨w.heap.size, 3, none⟩) (by show w.heap.size < _; omega)).trans HP62.out.1.2.2.1
 have wrp4 : wr.cell? ⟨w.heap.size, 4, none⟩ = some (.slice B K bc) := (hb.cell (p := ⟨w.heap.size, 4, none⟩) (by show w.heap.size < _; omega)).trans HP62.out.1.2.2.2
 have wrh2 : wr.cell? ⟨w2.heap.size, 2, none⟩ = some (.string hs) := (hb.cell (p := ⟨w2.heap.size, 2, none⟩) (by show w2.heap.size < _; omega)).trans HP62.out.2
 have wrR : ∀ j, wr.cell? ⟨w.heap.size + 1 + 1, j, none⟩ = (#[.int .i64 0, .int .i64 0, .int .i64 0, .string ⟨#[]⟩, .slice none 0 0, .string ⟨#[]⟩, .int .i64 0, .slice none 0 0, .slice none 0 0] : Array Value)[j]? := fun j => (hb.cell (p := ⟨w.heap.size + 1 + 1, j, none⟩) (by show w.heap.size + 1 + 1 < _; omega)).trans (HP6.out.2.1 j)
 have wrRF : ∀ j, wr.frozen? ⟨w.heap.size + 1 + 1, j, none⟩ = false := fun j => (hb.frozen (p := ⟨w.heap.size + 1 + 1, j, none⟩) (by show w.heap.size + 1 + 1 < _; omega)).trans (HP6.out.2.2 j)
 have hk0 : (0 : Int) <= (k : Int) := Int.natCast_nonneg _
 clear hb hrk
 by_cases hlt : k < SN
 case neg =>
  obtain rfl : k = SN := by omega
  obtain rfl : r = .err 6 := by rw [<- HRK.out, List.drop_eq_nil_of_le (by rw [List.length_map, HSN.out]; exact Nat.le_refl _)]; rfl
  go_wp2_with fail
  exact bodyPost_ret (v := .tuple #[evz.agg, .int .i64 6]) (by simp [results, Tryd.results23, go_sem, evz, EV.agg, wrR]) rfl (zn (by decide) (zg (by omega) HBR.out _ _ _ _ _ _ _ _ _))
 have hlt2 : (k : Int) < (SN : Int) := by omega
 have hkl : k < m.sh.length := by rw [HSN.out]; exact hlt
 have hkl2 : k < (m.sh.map Shp.sh).length := by simpa using hkl
 have hpr := H.out.next HBR.out
 obtain ⟨bs, os, hA, hbs, hrow⟩ := hpr.s.at_ (by have := HSN.out; have := hpr.s.size; omega)
 have hat := hpr.s.each m.sh[k] (List.getElem_mem hkl)
 have hshort := HSH.out m.sh[k] (List.getElem_mem hkl)
 obtain ⟨c0, c1⟩ := hrow k hkl
 have HNO := Lib.hid (fun h => rec_none (rec := rec ls) (s := hs) (rest := rest) hkl2 h)
 have HCO := Lib.hid (fun a b c h => rec_count (rec := rec ls) (s := hs) (rest := rest) (a := a) (b := b) (c := c) hkl2 h)
 have HOK := Lib.hid (fun a b c h => rec_ok (rec := rec ls) (s := hs) (rest := rest) (a := a) (b := b) (c := c) hkl2 h)
 have hsh : (m.sh.map Shp.sh)[k] = (m.sh[k].name, m.sh[k].ss) := by rw [List.getElem_map]; rfl
 simp only [hsh] at HNO HCO HOK
 obtain rfl : SA = some ⟨bs, os, none⟩ := HSA.out.symm.trans hA
 clear hrow hsh hA hpr
 generalize m.sh[k] = x at c0 c1 hat hshort HNO HCO HOK
 obtain ⟨nm, xA, xl, xc, ss⟩ := x
 simp only at c0 c1 HNO HCO HOK hshort
 obtain ⟨oo, hoo⟩ : ∃ oo, opF nm ss hs rest.length = oo := ⟨_, rfl⟩
 have HOO := Lib.hid hoo
 have HROP := Lib.hid (show ∀ W : World, Below wr.heap.size wr W -> Calls Tryd.prog 56 #[.agg #[.string nm, .slice xA xl xc], .string hs, .int .i64 J] W (fun e w' => RopPost W nm e w' oo) from fun W hW => by have := recordOp_any W nm xA xl xc ss (ShapeAt.below hat hW) hshort.1 hshort.2 hs hss J; rwa [<- HJ.out, hoo, HJ.out] at this)
 have hne1 : wr.heap.size ≠ w.heap.size := by omega
 have hne3 : wr.heap.size ≠ w2.heap.size := by omega
 have hneb : wr.heap.size ≠ bs := by omega
 clear hat hshort hoo
 go_upto_region 27 with fail
 go_cut [14, 15] (fun v14 v15 wx => RopAt wr nm oo v14 v15 wx)
 case first =>
  go_region_held3 (fun w' => w'.cell? ⟨w.heap.size, 1, none⟩ = some (.slice (some ⟨bs, os, none⟩) SN m.sc) /\ w'.cell? ⟨w2.heap.size, 2, none⟩ = some (.string hs) /\ w'.cell? ⟨bs, os + k * 2, none⟩ = some (.string nm) /\ w'.cell? ⟨bs, os + k * 2 + 1, none⟩ = some (.slice xA xl xc)) (go_keep)
   (first | (go_at_call 56; refine (HROP.out _ (by (with_reducible repeat' (first | exact Below.refl _ _ | apply Below.drew | apply below_drewN | refine Below.alloc ?_ ?_ _)); all_goals (try simp); all_goals (try omega))).mono ?_; intro e w7 hp; obtain ⟨v7, e7, rfl, hb7, hx7⟩ := RopPost.both hp; have hw7 := (show Below wr.heap.size wr _ from (by (with_reducible repeat' (first | exact Below.refl _ _ | apply Below.drew | apply below_drewN | refine Below.alloc ?_ ?_ _)); all_goals (try simp); all_goals (try omega))).trans (hb7.mono (by first | exact Nat.le_refl _ | (simp; done) | (simp; omega))); have m0 : w7.cell? ⟨w.heap.size, 1, none⟩ = some (.slice (some ⟨bs, os, none⟩) SN m.sc) := (hw7.cell (p := ⟨w.heap.size, 1, none⟩) hwr0).trans wrp1; have m1 : w7.cell? ⟨w2.heap.size, 2, none⟩ = some (.string hs) := (hw7.cell (p := ⟨w2.heap.size, 2, none⟩) hwr3).trans wrh2; have m2 : w7.cell? ⟨bs, os + k * 2, none⟩ = some (.string nm) := (hw7.cell (p := ⟨bs, os + k * 2, none⟩) hbs).trans c0; have m3 : w7.cell? ⟨bs, os + k * 2 + 1, none⟩ = some (.slice xA xl xc) := (hw7.cell (p := ⟨bs, os + k * 2 + 1, none⟩) hbs).trans c1; clear hw7; obtain ⟨g7, g8⟩ := bcell hb7; have HX7 := Lib.hid hx7; have HB7 := Lib.hid hb7; have hsz7 := hb7.size; (try simp at hsz7); (try replace hsz7 := Nat.lt_of_succ_le hsz7); have hn71 : w7.heap.size ≠ w.heap.size := (by omega); have hn73 : w7.heap.size ≠ w2.heap.size := (by omega); have hn7b : w7.heap.size ≠ bs := (by omega); clear hp hb7 hx7; unfold EV.agg))
  all_goals (go_wp2_with fail)
  all_goals go_meet
  all_goals (first | (with_reducible refine rop_after ?_ HB7.out HX7.out) | (with_reducible refine rop_before ?_ ?_ ((Below.refl _ _).drew) HB7.out HX7.out) | (with_reducible refine rop_before ?_ ?_ (Below.refl _ _) HB7.out HX7.out))
  all_goals (first | exact (by (with_reducible repeat' (first | exact Below.refl _ _ | apply Below.drew | apply below_drewN | refine Below.alloc ?_ ?_ _)); all_goals (try simp); all_goals (try omega)) | simp)
 obtain ⟨p, lo, hi, v, cw, rfl, rfl, hp, hE, hfz, hbw, hlo, hhi, hpp, hx⟩ := hcut
 have hplt := hE.lt
 have hsc := hbw.size
 have HBW := Lib.hid hbw
 have wcp0 : wc.cell? ⟨w.heap.size, 0, none⟩ = some (.slice m.G m.gl m.gc) := (hbw.cell (p := ⟨w.heap.size, 0, none⟩) hwr0).trans wrp0
 have wcp1 : wc.cell? ⟨w.heap.size, 1, none⟩ = some (.slice (some ⟨bs, os, none⟩) SN m.sc) := (hbw.cell (p := ⟨w.heap.size, 1, none⟩) hwr0).trans wrp1
 have wcp2 : wc.cell? ⟨w.heap.size, 2, none⟩ = some (.slice m.O m.ol m.oc) := (hbw.cell (p := ⟨w.heap.size, 2, none⟩) hwr0).trans wrp2
 have wcp3 : wc.cell? ⟨w.heap.size, 3, none⟩ = some (.bool false) := (hbw.cell (p := ⟨w.heap.size, 3, none⟩) hwr0).trans wrp3
 have wcp4 : wc.cell? ⟨w.heap.size, 4, none⟩ = some (.slice B K bc) := (hbw.cell (p := ⟨w.heap.size, 4, none⟩) hwr0).trans wrp4
 have wcR : ∀ j, wc.cell? ⟨w.heap.size + 1 + 1, j, none⟩ = (#[.int .i64 0, .int .i64 0, .int .i64 0, .string ⟨#[]⟩, .slice none 0 0, .string ⟨#[]⟩, .int .i64 0, .slice none 0 0, .slice none 0 0] : Array Value)[j]? := fun j => (hbw.cell (p := ⟨w.heap.size + 1 + 1, j, none⟩) hwr2).trans (wrR j)
 have wcRF : ∀ j, wc.frozen? ⟨w.heap.size + 1 + 1, j, none⟩ = false := fun j => (hbw.frozen (p := ⟨w.heap.size + 1 + 1, j, none⟩) hwr2).trans (wrRF j)
 clear wrp0 wrp1 wrp2 wrp3 wrp4 wrh2 wrR wrRF c0 c1 hbw
 cases oo with
 | none =>
  obtain ⟨rfl, rfl⟩ := hx
  have q0 : wc.cell? ⟨p, 0, none⟩ = some (.int .i64 0) := hE.c0
  clear hE
  go_wp2_with fail
  go_roundw
  case rel => exact ⟨k + 1, by omega, by go_num, HB.out.trans (HBW.out.mono hsw), by rw [<- HRK.out]; exact (HNO.out HOO.out).symm⟩
  case measure => simp [intOf]; omega
 | some t =>
  obtain ⟨kk, want, ns⟩ := t
  obtain ⟨nA, nc, rfl, rfl, hnm⟩ := hx
  have hkk := opF_kind HOO.out
  have hkb : (kk == 0) = false := by rw [beq_eq_false_iff_ne]; exact hkk
  have q0 : wc.cell? ⟨p, 0, none⟩ = some (.int .i64 kk) := hE.c0
  have q1 : wc.cell? ⟨p, 1, none⟩ = some (.int .i64 0) := hE.c1
  have q2 : wc.cell? ⟨p, 2, none⟩ = some (.int .i64 0) := hE.c2
  have q3 : wc.cell? ⟨p, 3, none⟩ = some (.string ⟨#[]⟩) := hE.c3
  have q4 : wc.cell? ⟨p, 4, none⟩ = some (.slice none 0 0) := hE.c4
  have q5 : wc.cell? ⟨p, 5, none⟩ = some (.string nm) := hE.c5
  have q6 : wc.cell? ⟨p, 6, none⟩ = some (.int .i64 0) := hE.c6
  have q7 : wc.cell? ⟨p, 7, none⟩ = some (.slice nA ns.length nc) := hE.c7
  have q8 : wc.cell? ⟨p, 8, none⟩ = some (.slice none 0 0) := hE.c8
  have HNMI := Lib.hid hnm
  clear hE hnm hkk
  by_cases hw1 : want = J /\ want <= 6
  case neg =>
   obtain rfl : r = .err 10 := by rw [<- HRK.out]; exact HCO.out _ _ _ HOO.out (by rw [HJ.out]; omega)
   by_cases hwJ : want = J
   case pos =>
    subst hwJ
    have i2 : (6 : Int) < (want : Int) := by omega
    clear hw1
    go_wp2_with fail
    exact bodyPost_ret (v := .tuple #[evz.agg, .int .i64 10]) (by simp [results, Tryd.results23, go_sem, evz, EV.agg, wcR]) rfl (zn (by decide) (zg (by omega) (HBR.out.trans (HBW.out.mono HBR.out.size)) _ _ _ _ _ _ _ _ _))
   have i1 : ((want : Int) != (J : Int)) = true := by rw [bne_iff_ne]; omega
   clear hw1 hwJ
   go_wp2_with fail
   exact bodyPost_ret (v := .tuple #[evz.agg, .int .i64 10]) (by simp [results, Tryd.results23, go_sem, evz, EV.agg, wcR]) rfl (zn (by decide) (zg (by omega) (HBR.out.trans (HBW.out.mono HBR.out.size)) _ _ _ _ _ _ _ _ _))
  obtain ⟨hwJ, hw6⟩ := hw1
  subst hwJ
  obtain ⟨rx, hrx⟩ : ∃ rx, allF (rec ls) rest = rx := ⟨_, rfl⟩
  have HRX := Lib.hid (show r = mapF (fun xs => .mk kk dt0 nm 0 ns xs) rx from by rw [<- HRK.out, HOK.out _ _ _ HOO.out (by rw [HJ.out]; omega), hrx])
  have HAL := Lib.hid (show Calls Tryd.prog 55 #[.agg #[.slice m.G m.gl m.gc, .slice (some ⟨bs, os, none⟩) SN m.sc, .slice m.O m.ol m.oc, .bool false, .slice B K bc], .slice R want rc] wc (RefXs W0 wc want rx) from by have := formedAll_any HE.out R rc rest B bc ls (HPL5.out.next (HB6.out.trans ((HB.out.trans (HBW.out.mono hsw)).mono hs6))) (HD5.out.below (HB6.out.trans ((HB.out.trans (HBW.out.mono hsw)).mono hs6))) HGR.out (by rw [HJ.out]; exact hJ1) HK40.out; rwa [HJ.out, HK.out, HUP.out, hrx, HSA.out, HSL.out] at this)
  have i2 : ¬ (6 : Int) < (want : Int) := by omega
  have hpw2 : p ≠ w.heap.size + 1 + 1 := by omega
  clear hrx hw6
  have hpw9 : w.heap.size <= p := by omega
  have hnpw : w.heap.size + 1 + 1 ≠ p := by omega
  have HBC := Lib.hid (show Below w.heap.size w wc from HBR.out.trans (HBW.out.mono HBR.out.size))
  go_wp2_with fail
  refine HAL.out.mono ?_
  intro e w9 hp9
  cases rx with
  | err ce =>
   obtain ⟨sA, sl, sc, rfl, hce, hb9⟩ := hp9
   obtain rfl : r = .err ce := HRX.out
   have k0 : w9.cell? ⟨p, 0, none⟩ = some (.int .i64 kk) := (hb9.cell (p := ⟨p, 0, none⟩) hplt).trans q0
   have k1 : w9.cell? ⟨p, 1, none⟩ = some (.int .i64 0) := (hb9.cell (p := ⟨p, 1, none⟩) hplt).trans q1
   have k2 : w9.cell? ⟨p, 2, none⟩ = some (.int .i64 0) := (hb9.cell (p := ⟨p, 2, none⟩) hplt).trans q2
   have k3 : w9.cell? ⟨p, 3, none⟩ = some (.string ⟨#[]⟩) := (hb9.cell (p := ⟨p, 3, none⟩) hplt).trans q3
   have k4 : w9.cell? ⟨p, 4, none⟩ = some (.slice none 0 0) := (hb9.cell (p := ⟨p, 4, none⟩) hplt).trans q4
   have k5 : w9.cell? ⟨p, 5, none⟩ = some (.string nm) := (hb9.cell (p := ⟨p, 5, none⟩) hplt).trans q5
   have k6 : w9.cell? ⟨p, 6, none⟩ = some (.int .i64 0) := (hb9.cell (p := ⟨p, 6, none⟩) hplt).trans q6
   have k7 : w9.cell? ⟨p, 7, none⟩ = some (.slice nA ns.length nc) := (hb9.cell (p := ⟨p, 7, none⟩) hplt).trans q7
   have k8 : w9.cell? ⟨p, 8, none⟩ = some (.slice none 0 0) := (hb9.cell (p := ⟨p, 8, none⟩) hplt).trans q8
   have kf : ∀ j, w9.frozen? ⟨p, j, none⟩ = false := fun j => (hb9.frozen (p := ⟨p, j, none⟩) hplt).trans (hfz j)
   have R9 : ∀ j, w9.cell? ⟨w.heap.size + 1 + 1, j, none⟩ = (#[.int .i64 0, .int .i64 0, .int .i64 0, .string ⟨#[]⟩, .slice none 0 0, .string ⟨#[]⟩, .int .i64 0, .slice none 0 0, .slice none 0 0] : Array Value)[j]? := fun j => (hb9.cell (p := ⟨w.heap.size + 1 + 1, j, none⟩) (by show w.heap.size + 1 + 1 < _; omega)).trans (wcR j)
   have RF9 : ∀ j, w9.frozen? ⟨w.heap.size + 1 + 1, j, none⟩ = false := fun j => (hb9.frozen (p := ⟨w.heap.size + 1 + 1, j, none⟩) (by show w.heap.size + 1 + 1 < _; omega)).trans (wcRF j)
   have HB9 := Lib.hid hb9
   clear hb9 q0 q1 q2 q3 q4 q5 q6 q7 q8 hfz wcp0 wcp1 wcp2 wcp3 wcp4 wcR wcRF
   go_wp2_with fail
   exact bodyPost_ret (v := .tuple #[.agg #[.int .i64 kk, .int .i64 0, .int .i64 0, .string ⟨#[]⟩, .slice none 0 0, .string nm, .int .i64 0, .slice nA ns.length nc, .slice sA sl sc], .int .i64 ce]) (by simp [results, Tryd.results23, go_sem, R9]) rfl ⟨⟨kk, 0, 0, ⟨#[]⟩, none, 0, 0, nm, 0, nA, ns.length, nc, sA, sl, sc, eC dt0, 0, 0⟩, rfl, hce, zg (by omega) ((HBC.out.trans (HB9.out.mono HBC.out.size)).setCell (p := ⟨p, 8, none⟩) hpw9 _) _ _ _ _ _ _ _ _ _⟩
  | ok xs =>
   obtain ⟨v, X, rfl, hO, hX, hXl, hb9⟩ := hp9
   obtain rfl : r = .ok (.mk kk dt0 nm 0 ns xs) := HRX.out
   obtain ⟨A9, c9, rfl, hXc, hcm9, _⟩ := hO.form
   have HXL := Lib.hid hXl
   have HO := Lib.hid hO
   have HX := Lib.hid hX
   have k0 : w9.cell? ⟨p, 0, none⟩ = some (.int .i64 kk) := (hb9.cell (p := ⟨p, 0, none⟩) hplt).trans q0
   have k1 : w9.cell? ⟨p, 1, none⟩ = some (.int .i64 0) := (hb9.cell (p := ⟨p, 1, none⟩) hplt).trans q1
   have k2 : w9.cell? ⟨p, 2, none⟩ = some (.int .i64 0) := (hb9.cell (p := ⟨p, 2, none⟩) hplt).trans q2
   have k3 : w9.cell? ⟨p, 3, none⟩ = some (.string ⟨#[]⟩) := (hb9.cell (p := ⟨p, 3, none⟩) hplt).trans q3
   have k4 : w9.cell? ⟨p, 4, none⟩ = some (.slice none 0 0) := (hb9.cell (p := ⟨p, 4, none⟩) hplt).trans q4
   have k5 : w9.cell? ⟨p, 5, none⟩ = some (.string nm) := (hb9.cell (p := ⟨p, 5, none⟩) hplt).trans q5
   have k6 : w9.cell? ⟨p, 6, none⟩ = some (.int .i64 0) := (hb9.cell (p := ⟨p, 6, none⟩) hplt).trans q6
   have k7 : w9.cell? ⟨p, 7, none⟩ = some (.slice nA ns.length nc) := (hb9.cell (p := ⟨p, 7, none⟩) hplt).trans q7
   have k8 : w9.cell? ⟨p, 8, none⟩ = some (.slice none 0 0) := (hb9.cell (p := ⟨p, 8, none⟩) hplt).trans q8
   have kf : ∀ j, w9.frozen? ⟨p, j, none⟩ = false := fun j => (hb9.frozen (p := ⟨p, j, none⟩) hplt).trans (hfz j)
   have R9 : ∀ j, w9.cell? ⟨w.heap.size + 1 + 1, j, none⟩ = (#[.int .i64 0, .int .i64 0, .int .i64 0, .string ⟨#[]⟩, .slice none 0 0, .string ⟨#[]⟩, .int .i64 0, .slice none 0 0, .slice none 0 0] : Array Value)[j]? := fun j => (hb9.cell (p := ⟨w.heap.size + 1 + 1, j, none⟩) (by show w.heap.size + 1 + 1 < _; omega)).trans (wcR j)
   have RF9 : ∀ j, w9.frozen? ⟨w.heap.size + 1 + 1, j, none⟩ = false := fun j => (hb9.frozen (p := ⟨w.heap.size + 1 + 1, j, none⟩) (by show w.heap.size + 1 + 1 < _; omega)).trans (wcRF j)
   have HB9 := Lib.hid hb9
   have HPP := Lib.hid (And.intro hlo (And.intro hhi hpp))
   clear hb9 hO hX q0 q1 q2 q3 q4 q5 q6 q7 q8 hfz wcp0 wcp1 wcp2 wcp3 wcp4 wcR wcRF
   go_wp2_with fail
   refine bodyPost_ret (v := .tuple #[.agg #[.int .i64 kk, .int .i64 0, .int .i64 0, .string ⟨#[]⟩, .slice none 0 0, .string nm, .int .i64 0, .slice nA ns.length nc, .slice A9 X.length c9], .int .i64 0]) ?_ rfl ?_
   ·
    rw [HXL.out]
    simp [results, Tryd.results23, go_sem, R9]
   have hset := zd w9 p 8 (.slice A9 X.length c9)
   obtain ⟨h1, h2, h3⟩ := HPP.out
   have hs9 := HB9.out.size
   obtain ⟨u, hu1, hu2⟩ := got_buildNG (W0 := W0) (w := w) (g := w.heap.size + 1 + 1) (HO.out.other hset hplt) (by omega) ((HBC.out.trans (HB9.out.mono HBC.out.size)).setCell (p := ⟨p, 8, none⟩) hpw9 _) (by omega) (za1 (w9.setCell ⟨p, 8, none⟩ (.slice A9 X.length c9)) (w.heap.size + 1 + 1) _ _ _ _ _ _ _ _ _) kk nm 0 nA nc ns
    ((HNMI.out.mono (zw HB9.out) HB9.out.size (Nat.le_refl _) (Nat.le_refl _)).mono (zm hset (fun b h4 h5 e => by have := Option.some.inj e; omega)) hset.size (by omega) (by have := hset.size; omega))
   injection hu1 with hu1
   rw [HX.out] at hu2
   rw [<- HXL.out]
   rw [hu1]
   exact ⟨u, rfl, hu2⟩
end Go.Proofs.YtjmeodadkjcmmaaDoor
