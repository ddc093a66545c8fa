import Derived.Test.YtjmeodadkjcmmaaDoorFormI
import Derived.Deep.LoopGhost
namespace Go.Proofs.YtjmeodadkjcmmaaDoor
open Go.RowKit Go.ChangeShapes Go.WideShapes Go.Deep Go.ChangeAt
set_option linter.unusedVariables false
set_option maxRecDepth 20000
structure zc1 (W0 w : World) (m : Fm) (B : Option Addr) (bc : Nat) (ls : List ByteArray) : Prop where
 below : Below W0.heap.size W0 w
 ge : W0.heap.size <= m.F
 lt : m.F < w.heap.size
 g : zb1 w m.G m.gl m.gs
 gle : m.gl <= m.gc
 gcap : m.gc <= maxLen
 s : zz w m.S m.sl m.sh
 sle : m.sl <= m.sc
 scap : m.sc <= maxLen
 o : zb1 w m.O m.ol m.os
 ole : m.ol <= m.oc
 ocap : m.oc <= maxLen
 l : zb1 w B ls.length ls
 lle : ls.length <= bc
 lcap : bc <= maxLen
theorem zc1.next {W0 w w' : World} {m : Fm} {B : Option Addr} {bc : Nat} {ls : List ByteArray} (h : zc1 W0 w m B bc ls) (hb : Below w.heap.size w w') : zc1 W0 w' m B bc ls :=
 ⟨h.below.trans (hb.mono h.below.size), h.ge, Nat.lt_of_lt_of_le h.lt hb.size, h.g.below hb, h.gle, h.gcap, h.s.below hb, h.sle, h.scap, h.o.below hb, h.ole, h.ocap, h.l.below hb, h.lle, h.lcap⟩
def RefPost (W0 w : World) (r : Fd Ex) (e : Ending) (w' : World) : Prop := match r with
 | .ok x => ∃ v : EV, e = .returned (.tuple #[v.agg, .int .i64 0]) /\ v.t = x /\ v.lo = w.heap.size /\ v.hi = w'.heap.size /\ (kitEx W0).ok w' v /\ Below w.heap.size w w'
 | .err c => ∃ v : EV, e = .returned (.tuple #[v.agg, .int .i64 c]) /\ 1 <= c /\ Below w.heap.size w w'
theorem ref_plain {W0 w w' : World} (k dk dn : Int) (ds : ByteArray) (dA : Option Addr) (dl dc : Nat) (d : Dt) (S : ByteArray) (N : Int) (hd : DtIn W0 0 W0.heap.size [.int .i64 dk, .int .i64 dn, .string ds, .slice dA dl dc] d) (hb : Below w.heap.size w w') :
  RefPost W0 w (.ok (.mk k d S N [] [])) (.returned (.tuple #[.agg #[.int .i64 k, .int .i64 dk, .int .i64 dn, .string ds, .slice dA dl dc, .string S, .int .i64 N, .slice none 0 0, .slice none 0 0], .int .i64 0])) w' := by
 obtain ⟨v, h1, h2⟩ := got_plain (W0 := W0) k dk dn ds dA dl dc d S N hd hb
 injection h1 with h1
 rw [h1]
 exact ⟨v, rfl, h2⟩
theorem zn {W0 w w' : World} {c : Int} (hc : 1 <= c) (hb : Below w.heap.size w w') : RefPost W0 w (.err c) (.returned (.tuple #[evz.agg, .int .i64 c])) w' := ⟨evz, rfl, hc, hb⟩
set_option maxHeartbeats 2000000 in
theorem named_ref {W0 w : World} {m : Fm} {B : Option Addr} {bc : Nat} {ls : List ByteArray} (h : zc1 W0 w m B bc ls) (s : ByteArray) (hs : s.size <= maxLen) :
  Calls Tryd.prog 51 #[.agg #[.slice m.G m.gl m.gc, .slice m.S m.sl m.sc, .slice m.O m.ol m.oc, .bool m.up, .slice B ls.length bc], .string s] w (RefPost W0 w (namedF m.pl ls s)) := by
 obtain ⟨r, hr⟩ : ∃ r, namedF m.pl ls s = r := ⟨_, rfl⟩
 have HR := Lib.hid hr
 have H := Lib.hid h
 rw [hr]
 obtain ⟨up, hup⟩ : ∃ up, m.up = up := ⟨_, rfl⟩
 have HU := Lib.hid (show m.pl.up = up from hup)
 rw [hup]
 clear h hr hup
 go_enter Tryd.func51, Tryd.ntmps51
 go_wp2_with fail
 have HN := Lib.hid (H.out.next (((Below.refl w.heap.size w).alloc (Nat.le_refl _) (.cells #[.slice m.G m.gl m.gc, .slice m.S m.sl m.sc, .slice m.O m.ol m.oc, .bool up, .slice B ls.length bc] 60)).alloc (by simp) (.cells #[.int .i64 0, .int .i64 0, .int .i64 0, .string ⟨#[]⟩, .slice none 0 0, .string ⟨#[]⟩, .int .i64 0, .slice none 0 0, .slice none 0 0] 63)))
 refine (isIn_any s B ls.length bc ls _ H.out.lcap H.out.lle HN.out.l).mono ?_
 rintro e w1 ⟨rfl, rfl⟩
 cases h1 : inL ls s
 case true =>
  obtain rfl : r = .ok (eK 2 s []) := by rw [<- HR.out]; exact named_local h1
  clear h1
  go_wp2_with fail
  exact bodyPost_ret (v := .tuple #[.agg #[.int .i64 2, .int .i64 0, .int .i64 0, .string ⟨#[]⟩, .slice none 0 0, .string s, .int .i64 0, .slice none 0 0, .slice none 0 0], .int .i64 0]) (by simp [results, Tryd.results51, go_sem]) rfl (ref_plain 2 0 0 _ none 0 0 dt0 s 0 (dt0_in W0) (((Below.refl _ _).alloc (Nat.le_refl _) _).alloc (by simp) _))
 have H1 := Lib.hid h1
 clear h1
 go_wp2_with fail
 refine (isWord_any s _).mono ?_
 rintro e w1 ⟨rfl, hb1⟩
 obtain ⟨g1, g2⟩ := bcell hb1
 have HB1 := Lib.hid ((((Below.refl w.heap.size w).alloc (Nat.le_refl _) (.cells #[.slice m.G m.gl m.gc, .slice m.S m.sl m.sc, .slice m.O m.ol m.oc, .bool up, .slice B ls.length bc] 60)).alloc (by simp) (.cells #[.int .i64 0, .int .i64 0, .int .i64 0, .string ⟨#[]⟩, .slice none 0 0, .string ⟨#[]⟩, .int .i64 0, .slice none 0 0, .slice none 0 0] 63)).trans (hb1.mono (by simp; omega)))
 have HN1 := Lib.hid (HN.out.next hb1)
 have HSZ := Lib.hid (show w.heap.size + 2 <= w1.heap.size by simpa using hb1.size)
 clear hb1
 cases h2 : isKw s.toList
 case true =>
  obtain rfl : r = .err 4 := by rw [<- HR.out]; exact named_res H1.out (by unfold resB; rw [h2]; rfl)
  clear h2
  go_wp2_with fail
  exact bodyPost_ret (v := .tuple #[evz.agg, .int .i64 4]) (by simp [results, Tryd.results51, go_sem, evz, EV.agg, g1]) rfl (zn (by decide) (HB1.out.trans (below9 _ _ (by omega) _ _ _ _ _ _ _ _ _ _)))
 have hsz : w.heap.size + 1 < w1.heap.size := by have := HSZ.out; omega
 go_wp2_with fail
 refine (primArgs_any s _).mono ?_
 rintro e w2 ⟨rfl, rfl⟩
 obtain ⟨pn, hpn⟩ : ∃ pn, primN s.toList = pn := ⟨_, rfl⟩
 rw [hpn]
 by_cases h3 : 0 <= pn
 ·
  obtain rfl : r = .err 4 := by rw [<- HR.out]; exact named_res H1.out (by unfold resB; rw [h2, hpn]; simpa using h3)
  clear h2 hpn
  go_wp2_with fail
  exact bodyPost_ret (v := .tuple #[evz.agg, .int .i64 4]) (by simp [results, Tryd.results51, go_sem, evz, EV.agg, g1]) rfl (zn (by decide) (HB1.out.trans (below9 _ _ (by omega) _ _ _ _ _ _ _ _ _ _)))
 have HRB := Lib.hid (show resB s = false by unfold resB; rw [h2, hpn]; simpa using h3)
 clear h2 hpn
 cases up
 case true =>
  obtain rfl : r = .err 15 := by rw [<- HR.out]; exact named_up H1.out HRB.out HU.out
  go_wp2_with fail
  exact bodyPost_ret (v := .tuple #[evz.agg, .int .i64 15]) (by simp [results, Tryd.results51, go_sem, evz, EV.agg, g1]) rfl (zn (by decide) (HB1.out.trans (below9 _ _ (by omega) _ _ _ _ _ _ _ _ _ _)))
 go_wp2_with fail
 refine (isIn_any s m.G m.gl m.gc m.gs _ H.out.gcap H.out.gle HN1.out.g).mono ?_
 rintro e w2 ⟨rfl, rfl⟩
 cases h4 : inL m.gs s
 case true =>
  obtain rfl : r = .ok (eK 3 s []) := by rw [<- HR.out]; exact named_glob H1.out HRB.out HU.out h4
  clear h4
  go_wp2_with fail
  exact bodyPost_ret (v := .tuple #[.agg #[.int .i64 3, .int .i64 0, .int .i64 0, .string ⟨#[]⟩, .slice none 0 0, .string s, .int .i64 0, .slice none 0 0, .slice none 0 0], .int .i64 0]) (by simp [results, Tryd.results51, go_sem, g1]) rfl (ref_plain 3 0 0 _ none 0 0 dt0 s 0 (dt0_in W0) (HB1.out.trans (below9 _ _ (by omega) _ _ _ _ _ _ _ _ _ _)))
 obtain rfl : r = .err 6 := by rw [<- HR.out]; exact named_none H1.out HRB.out HU.out h4
 clear h4
 go_wp2_with fail
 exact bodyPost_ret (v := .tuple #[evz.agg, .int .i64 6]) (by simp [results, Tryd.results51, go_sem, evz, EV.agg, g1]) rfl (zn (by decide) (HB1.out.trans (below9 _ _ (by omega) _ _ _ _ _ _ _ _ _ _)))
/- Contract of grafteryref.boundBy. -/
theorem freeB_bind {d : Dt} (h : d.k = 3) (hn : nameB d.s.data.toList = true) : freeB d.s = bindB d := by
 unfold freeB bindB
 rw [hn, h]
 rfl
def RefNm (w : World) (r : Fd (List ByteArray)) (e : Ending) (w' : World) : Prop := match r with
 | .ok ns => ∃ A cap, e = .returned (.tuple #[.slice A ns.length cap, .int .i64 0]) /\ NmIn w' w.heap.size w'.heap.size A cap ns /\ Below w.heap.size w w'
 | .err c => ∃ v, e = .returned (.tuple #[v, .int .i64 c]) /\ 1 <= c /\ Below w.heap.size w w'
set_option maxHeartbeats 4000000 in
theorem boundBy_any {W0 w : World} {F : Nat} (hb0 : Below W0.heap.size W0 w) (hF : W0.heap.size <= F) (hF2 : F < w.heap.size) (k n : Int) (s : ByteArray) (A : Option Addr) (cap : Nat) (l : List Dt) (hl : DsAt W0 w F A cap l) (hg : ∀ x ∈ l, x.s.size <= maxLen /\ (x.k = 3 -> nameB x.s.data.toList = true)) :
  Calls Tryd.prog 24 #[.agg #[.int .i64 k, .int .i64 n, .string s, .slice A l.length cap]] w (RefNm w (boundF k l)) := by
 have HL := Lib.hid hl
 have HG := Lib.hid hg
 have HB0 := Lib.hid hb0
 have hcap := hl.le
 have hcapm := hl.cap_
 unfold maxLen at hcapm
 clear hl hg hb0
 by_cases hk : k = 4
 case neg =>
  have hk2 : (k != 4) = true := by simpa using hk
  have e : boundF k l = .err 4 := by unfold boundF; rw [if_neg hk]
  rw [e]
  clear e hk
  go_enter Tryd.func24, Tryd.ntmps24
  go_wp2_with fail
  go_ret2
  exact ⟨_, rfl, by decide, (Below.refl _ _).alloc (Nat.le_refl _) _⟩
 subst hk
 by_cases h6 : 6 < l.length
 case pos =>
  have e : boundF 4 l = .err 10 := by unfold boundF; rw [if_pos rfl, if_pos h6]
  rw [e]
  clear e
  go_enter Tryd.func24, Tryd.ntmps24
  go_wp2_with fail
  go_ret2
  exact ⟨_, rfl, by decide, (Below.refl _ _).alloc (Nat.le_refl _) _⟩
 have HE := Lib.hid (show boundF 4 l = bindF [] l by unfold boundF; rw [if_pos rfl, if_neg h6])
 obtain ⟨r, hr⟩ : ∃ r, boundF 4 l = r := ⟨_, rfl⟩
 have HR := Lib.hid hr
 rw [hr]
 obtain ⟨N, hN⟩ : ∃ N, l.length = N := ⟨_, rfl⟩
 have HN := Lib.hid hN
 rw [hN] at h6 hcap ⊢
 have hN6 : N <= 6 := by omega
 clear hN h6 hr
 go_enter Tryd.func24, Tryd.ntmps24
 go_wp2_with fail
 go_loopg [4, 5] N (fun g v i wr => ∃ (j : Nat) (X : List ByteArray), g = N - j /\ j <= N /\ i = .int .i64 j /\ X.length = j /\ OwnAt kitS 9 (w.heap.size + 1) wr v X /\ bindF [] (l.take j) = .ok X /\ Below w.heap.size w wr /\ w.heap.size < wr.heap.size /\ wr.cell? ⟨w.heap.size, 3, none⟩ = some (.slice A N cap))
 case atStart => exact ⟨0, [], by omega, by omega, rfl, rfl, OwnAt.start _ _ _ _, rfl, (Below.refl _ _).alloc (Nat.le_refl _) _, by simp, za _ _ _ 3⟩
 obtain ⟨j, X, hg, hj, rfl, hX, hO, hbf, hbl, hsz, b3⟩ := hrel
 have HG2 := Lib.hid hg
 have HO := Lib.hid hO
 have HX := Lib.hid hX
 have HBL := Lib.hid hbl
 clear hg hO hX
 by_cases hlt2 : j < N
 ·
  have hjl : j < l.length := by rw [HN.out]; exact hlt2
  obtain ⟨b, o, rfl, hbw, hbF, cs, hrow, hd⟩ := (HL.out.below hbl).nth j hjl
  have HBO := Lib.hid (fun (c : Int) (hc : (if bindB l[j] = true then (if inL X l[j].s = true then .err 7 else .ok X) else .err 4 : Fd (List ByteArray)) = .err c) => bind_err hjl hbf hc)
  have HBK := Lib.hid (fun h1 h2 => bind_ok hjl hbf h1 h2)
  have hds := HG.out l[j] (List.getElem_mem hjl)
  obtain ⟨A', c', rfl, _⟩ := hd.items (HB0.out.trans (hbl.mono HB0.out.size)) hF
  generalize l[j] = d at hrow hd hds HBO HBK
  have c0 : wr.cell? ⟨b, o + j * 4, none⟩ = some (.int .i64 d.k) := hrow 0 (by simp)
  have c2 : wr.cell? ⟨b, o + j * 4 + 2, none⟩ = some (.string d.s) := hrow 2 (by simp)
  obtain ⟨v', cp, rfl, hXc, hcm, _⟩ := HO.out.form
  have hXj : X.length + 1 <= 10 := by rw [HX.out]; omega
  have hxw : X.length <= cp := hXc
  obtain ⟨hds1, hds2⟩ := hds
  clear hd hrow hbf hbl
  by_cases hk3 : d.k = 3
  case neg =>
   have hkb : (d.k != 3) = true := by rw [bne_iff_ne]; exact hk3
   have HBE := Lib.hid (HBO.out 4 (by rw [bindB_no (by rw [beq_eq_false_iff_ne]; exact hk3)]; rfl))
   clear hk3 hds2
   go_wp2_with fail
   go_ret2
   rw [show r = .err 4 from by rw [<- HR.out, HE.out]; exact HBE.out]
   exact ⟨_, rfl, by decide, HBL.out⟩
  have hkb : (d.k != 3) = false := by rw [bne_eq_false_iff_eq]; exact hk3
  have HFB := Lib.hid (freeB_bind hk3 (hds2 hk3))
  clear hk3 hds2
  go_wp2_with fail
  refine (freeName_any d.s hds1 _).mono ?_
  rintro e w1 ⟨rfl, hb1⟩
  rw [HFB.out]
  obtain ⟨g1, g2⟩ := bcell hb1
  have HB1 := Lib.hid hb1
  have HO1 := Lib.hid (HO.out.new hb1)
  have b31 : w1.cell? ⟨w.heap.size, 3, none⟩ = some (.slice (some ⟨b, o, none⟩) N cap) := (hb1.cell (p := ⟨w.heap.size, 3, none⟩) hsz).trans b3
  have hsz1 : w.heap.size < w1.heap.size := Nat.lt_of_lt_of_le hsz hb1.size
  clear hb1
  cases hbb : bindB d
  case false =>
   have HBE := Lib.hid (HBO.out 4 (by rw [hbb]; rfl))
   clear hbb
   go_wp2_with fail
   go_ret2
   rw [show r = .err 4 from by rw [<- HR.out, HE.out]; exact HBE.out]
   exact ⟨_, rfl, by decide, HBL.out.trans (HB1.out.mono HBL.out.size)⟩
  go_wp2_with fail
  obtain ⟨A6, cp6, hv6, hsc6, _⟩ := own_scope (F := F) HO1.out.strs (by omega)
  obtain ⟨rfl, rfl⟩ : v' = A6 /\ cp = cp6 := by simpa using hv6
  refine (isIn_any d.s v' X.length cp X _ hsc6.cap_ hsc6.le hsc6.strs).mono ?_
  rintro e w1' ⟨rfl, rfl⟩
  clear hsc6 hv6
  cases hii : inL X d.s
  case true =>
   have HBE := Lib.hid (HBO.out 7 (by rw [hbb, hii]; rfl))
   clear hbb hii
   go_wp2_with fail
   go_ret2
   rw [show r = .err 7 from by rw [<- HR.out, HE.out]; exact HBE.out]
   exact ⟨_, rfl, by decide, HBL.out.trans (HB1.out.mono HBL.out.size)⟩
  have HBE := Lib.hid (HBK.out hbb hii)
  clear hbb hii
  go_wp2_with (at_builtin; refine wpList_s rfl (.tmp 45) (.tmp 52) rfl HO1.out d.s _ rfl rfl rfl (by omega) hsz1 ?_; intro v5 w5 h5 h6)
  have HO5 := Lib.hid h5
  have HB5 := Lib.hid (below_row (base := w.heap.size + 1) hsz1 h6 (zv HO1.out.row))
  clear h5 h6
  go_wp2_with fail
  go_roundg (N - (j + 1))
  case measure => have := HG2.out; omega
  case rel => exact ⟨j + 1, X ++ [d.s], rfl, by omega, by go_num, by simp [HX.out], HO5.out, HBE.out, (HBL.out.trans (HB1.out.mono HBL.out.size)).trans (HB5.out.mono (by omega)), Nat.lt_of_lt_of_le hsz1 HB5.out.size, (HB5.out.cell (p := ⟨w.heap.size, 3, none⟩) (Nat.lt_succ_self _)).trans b31⟩
 obtain rfl : j = N := by omega
 obtain ⟨A', c', rfl, hsc, hnm⟩ := own_names (F := F) (lo := w.heap.size) HO.out (by omega) (by omega)
 have HNM := Lib.hid hnm
 clear hsc hnm
 have HBF := Lib.hid hbf
 clear hbf
 go_wp2_with fail
 go_ret2
 have hb := HBF.out
 rw [List.take_of_length_le (by rw [HN.out]; exact Nat.le_refl _)] at hb
 rw [show r = .ok X from by rw [<- HR.out, HE.out]; exact hb]
 exact ⟨A', c', rfl, HNM.out, HBL.out⟩
/- Contract of (place).formedAll. -/
def Fm.agg (m : Fm) (B : Option Addr) (len bc : Nat) : Value := .agg #[.slice m.G m.gl m.gc, .slice m.S m.sl m.sc, .slice m.O m.ol m.oc, .bool m.up, .slice B len bc]
def RefSays (W0 : World) (m : Fm) (n : Nat) (rec : List ByteArray -> Dt -> Fd Ex) : Prop := ∀ (w : World) (d : Dt) (A : Option Addr) (c : Nat) (B : Option Addr) (bc : Nat) (ls : List ByteArray), zc1 W0 w m B bc ls -> Good n d →
 DtIn W0 0 W0.heap.size [.int .i64 d.k, .int .i64 d.n, .string d.s, .slice A d.l.length c] d -> ls.length <= 40 →
 Calls Tryd.prog 23 #[.agg #[.slice m.G m.gl m.gc, .slice m.S m.sl m.sc, .slice m.O m.ol m.oc, .bool m.up, .slice B ls.length bc], .agg #[.int .i64 d.k, .int .i64 d.n, .string d.s, .slice A d.l.length c]] w (RefPost W0 w (rec ls d))
def RefXs (W0 w : World) (n : Nat) (r : Fd (List Ex)) (e : Ending) (w' : World) : Prop := match r with
 | .ok xs => ∃ v X, e = .returned (.tuple #[v, .int .i64 0]) /\ OwnAt (kitEx W0) 63 w.heap.size w' v X /\ X.map (·.t) = xs /\ X.length = n /\ Below w.heap.size w w'
 | .err c => ∃ (sA : Option Addr) (sl sc : Nat), e = .returned (.tuple #[.slice sA sl sc, .int .i64 c]) /\ 1 <= c /\ Below w.heap.size w w'
structure EvAt (w : World) (p : Nat) (v : EV) : Prop where
 lt : p < w.heap.size
 c0 : w.cell? ⟨p, 0, none⟩ = some (.int .i64 v.k)
 c1 : w.cell? ⟨p, 1, none⟩ = some (.int .i64 v.dk)
 c2 : w.cell? ⟨p, 2, none⟩ = some (.int .i64 v.dn)
 c3 : w.cell? ⟨p, 3, none⟩ = some (.string v.ds)
 c4 : w.cell? ⟨p, 4, none⟩ = some (.slice v.dA v.dl v.dc)
 c5 : w.cell? ⟨p, 5, none⟩ = some (.string v.S)
 c6 : w.cell? ⟨p, 6, none⟩ = some (.int .i64 v.N)
 c7 : w.cell? ⟨p, 7, none⟩ = some (.slice v.nA v.nl v.nc)
 c8 : w.cell? ⟨p, 8, none⟩ = some (.slice v.aA v.al v.ac)
def Formed (W0 w : World) (r : Fd Ex) (v8 v9 : Value) (w' : World) : Prop := ∃ (p : Nat) (v : EV) (c : Int), v8 = .pointer (some ⟨p, 0, none⟩) /\ v9 = .int .i64 c /\ w.heap.size <= p /\ EvAt w' p v /\ Below w.heap.size w w' ∧
 (match r with | .ok x => c = 0 /\ v.t = x /\ w.heap.size <= v.lo /\ v.hi <= w'.heap.size /\ (kitEx W0).ok w' v | .err e => c = e /\ 1 <= e)
theorem evAt_new (w : World) (t : TypeId) (v : EV) : EvAt (w.alloc (.cells v.cells.toArray t)) w.heap.size v :=
 ⟨by simp, za _ _ _ 0, za _ _ _ 1, za _ _ _ 2, za _ _ _ 3, za _ _ _ 4, za _ _ _ 5, za _ _ _ 6, za _ _ _ 7, za _ _ _ 8⟩
theorem evAt_set {w : World} {p : Nat} {v : EV} (hlt : p < w.heap.size) {x0 x1 x2 x3 x4 x5 x6 x7 x8 : Value} (e0 : w.cell? ⟨p, 0, none⟩ = some x0) (e1 : w.cell? ⟨p, 1, none⟩ = some x1) (e2 : w.cell? ⟨p, 2, none⟩ = some x2) (e3 : w.cell? ⟨p, 3, none⟩ = some x3) (e4 : w.cell? ⟨p, 4, none⟩ = some x4) (e5 : w.cell? ⟨p, 5, none⟩ = some x5) (e6 : w.cell? ⟨p, 6, none⟩ = some x6) (e7 : w.cell? ⟨p, 7, none⟩ = some x7) (e8 : w.cell? ⟨p, 8, none⟩ = some x8) :
  EvAt (((((((((w.setCell ⟨p, 0, none⟩ (.int .i64 v.k)).setCell ⟨p, 1, none⟩ (.int .i64 v.dk)).setCell ⟨p, 2, none⟩ (.int .i64 v.dn)).setCell ⟨p, 3, none⟩ (.string v.ds)).setCell ⟨p, 4, none⟩ (.slice v.dA v.dl v.dc)).setCell ⟨p, 5, none⟩ (.string v.S)).setCell ⟨p, 6, none⟩ (.int .i64 v.N)).setCell ⟨p, 7, none⟩ (.slice v.nA v.nl v.nc)).setCell ⟨p, 8, none⟩ (.slice v.aA v.al v.ac)) p v := by
 have s : ∀ {w : World} {i : Nat} {u v : Value}, w.cell? ⟨p, i, none⟩ = some v -> (w.setCell ⟨p, i, none⟩ u).cell? ⟨p, i, none⟩ = some u := fun h => zk h
 have o : ∀ {w : World} {i j : Nat} {u v : Value}, w.cell? ⟨p, i, none⟩ = some v -> i ≠ j -> (w.setCell ⟨p, j, none⟩ u).cell? ⟨p, i, none⟩ = some v := fun h hn => zj h hn
 refine ⟨by simpa using hlt, ?_, ?_, ?_, ?_, ?_, ?_, ?_, ?_, ?_⟩
 ·
  exact o (o (o (o (o (o (o (o (s e0) (by decide)) (by decide)) (by decide)) (by decide)) (by decide)) (by decide)) (by decide)) (by decide)
 ·
  exact o (o (o (o (o (o (o (s (o e1 (by decide))) (by decide)) (by decide)) (by decide)) (by decide)) (by decide)) (by decide)) (by decide)
 ·
  exact o (o (o (o (o (o (s (o (o e2 (by decide)) (by decide))) (by decide)) (by decide)) (by decide)) (by decide)) (by decide)) (by decide)
 ·
  exact o (o (o (o (o (s (o (o (o e3 (by decide)) (by decide)) (by decide))) (by decide)) (by decide)) (by decide)) (by decide)) (by decide)
 ·
  exact o (o (o (o (s (o (o (o (o e4 (by decide)) (by decide)) (by decide)) (by decide))) (by decide)) (by decide)) (by decide)) (by decide)
 ·
  exact o (o (o (s (o (o (o (o (o e5 (by decide)) (by decide)) (by decide)) (by decide)) (by decide))) (by decide)) (by decide)) (by decide)
 ·
  exact o (o (s (o (o (o (o (o (o e6 (by decide)) (by decide)) (by decide)) (by decide)) (by decide)) (by decide))) (by decide)) (by decide)
 ·
  exact o (s (o (o (o (o (o (o (o e7 (by decide)) (by decide)) (by decide)) (by decide)) (by decide)) (by decide)) (by decide))) (by decide)
 exact s (o (o (o (o (o (o (o (o e8 (by decide)) (by decide)) (by decide)) (by decide)) (by decide)) (by decide)) (by decide)) (by decide))
def RefFact (W0 w w' : World) (v : EV) (c : Int) : Fd Ex -> Prop
 | .ok x => c = 0 /\ v.t = x /\ w.heap.size <= v.lo /\ v.hi <= w'.heap.size /\ (kitEx W0).ok w' v
 | .err e => c = e /\ 1 <= e
theorem RefPost.both {W0 w w' : World} {r : Fd Ex} {e : Ending} (h : RefPost W0 w r e w') : ∃ (v : EV) (c : Int), e = .returned (.tuple #[v.agg, .int .i64 c]) /\ Below w.heap.size w w' /\ RefFact W0 w w' v c r := by
 cases r with
 | ok x =>
  obtain ⟨v, h1, h2, h3, h4, h5, h6⟩ := h
  exact ⟨v, 0, h1, h6, rfl, h2, by rw [h3]; exact Nat.le_refl _, by rw [h4]; exact Nat.le_refl _, h5⟩
 | err c =>
  obtain ⟨v, h1, h2, h3⟩ := h
  exact ⟨v, c, h1, h3, rfl, h2⟩
theorem formed_after {W0 w w1 w3 : World} {r : Fd Ex} {v : EV} {c : Int} {t : TypeId} (hb : Below w.heap.size w w1) (hb3 : Below w1.heap.size w1 w3) (hx : RefFact W0 w1 w3 v c r) :
  Formed W0 w r (.pointer (some ⟨w3.heap.size, 0, none⟩)) (.int .i64 c) (w3.alloc (.cells #[.int .i64 v.k, .int .i64 v.dk, .int .i64 v.dn, .string v.ds, .slice v.dA v.dl v.dc, .string v.S, .int .i64 v.N, .slice v.nA v.nl v.nc, .slice v.aA v.al v.ac] t)) := by
 have ha : Below w3.heap.size w3 (w3.alloc (.cells #[.int .i64 v.k, .int .i64 v.dk, .int .i64 v.dn, .string v.ds, .slice v.dA v.dl v.dc, .string v.S, .int .i64 v.N, .slice v.nA v.nl v.nc, .slice v.aA v.al v.ac] t)) := (Below.refl _ _).alloc (Nat.le_refl _) _
 refine ⟨w3.heap.size, v, c, rfl, rfl, Nat.le_trans hb.size hb3.size, evAt_new _ _ _, (hb.trans (hb3.mono hb.size)).trans (ha.mono (Nat.le_trans hb.size hb3.size)), ?_⟩
 cases r with
 | ok x =>
  obtain ⟨h1, h2, h3, h4, h5⟩ := hx
  exact ⟨h1, h2, Nat.le_trans hb.size h3, Nat.le_trans h4 ha.size, (kitEx W0).kept _ _ _ none h5 (zb ha _) (fun b _ => by simp)⟩
 | err e => exact hx
theorem zl {W0 w w0 w1 w3 : World} {p : Nat} {r : Fd Ex} {v : EV} {c : Int} (hp : w0.heap.size = p) (hb0 : Below w.heap.size w w0) (hb1 : Below (w0.alloc (.cells #[.int .i64 0, .int .i64 0, .int .i64 0, .string ⟨#[]⟩, .slice none 0 0, .string ⟨#[]⟩, .int .i64 0, .slice none 0 0, .slice none 0 0] 63)).heap.size (w0.alloc (.cells #[.int .i64 0, .int .i64 0, .int .i64 0, .string ⟨#[]⟩, .slice none 0 0, .string ⟨#[]⟩, .int .i64 0, .slice none 0 0, .slice none 0 0] 63)) w1) (hb3 : Below w1.heap.size w1 w3) (hx : RefFact W0 w1 w3 v c r) :
  Formed W0 w r (.pointer (some ⟨p, 0, none⟩)) (.int .i64 c) (((((((((w3.setCell ⟨p, 0, none⟩ (.int .i64 v.k)).setCell ⟨p, 1, none⟩ (.int .i64 v.dk)).setCell ⟨p, 2, none⟩ (.int .i64 v.dn)).setCell ⟨p, 3, none⟩ (.string v.ds)).setCell ⟨p, 4, none⟩ (.slice v.dA v.dl v.dc)).setCell ⟨p, 5, none⟩ (.string v.S)).setCell ⟨p, 6, none⟩ (.int .i64 v.N)).setCell ⟨p, 7, none⟩ (.slice v.nA v.nl v.nc)).setCell ⟨p, 8, none⟩ (.slice v.aA v.al v.ac)) := by
 subst hp
 have hz : (w0.alloc (.cells #[.int .i64 0, .int .i64 0, .int .i64 0, .string ⟨#[]⟩, .slice none 0 0, .string ⟨#[]⟩, .int .i64 0, .slice none 0 0, .slice none 0 0] 63)).heap.size = w0.heap.size + 1 := by simp
 have hs1 : w0.heap.size < w1.heap.size := by have := hb1.size; omega
 have hs3 : w0.heap.size < w3.heap.size := Nat.lt_of_lt_of_le hs1 hb3.size
 have hcell : ∀ j, w3.cell? ⟨w0.heap.size, j, none⟩ = (w0.alloc (.cells #[.int .i64 0, .int .i64 0, .int .i64 0, .string ⟨#[]⟩, .slice none 0 0, .string ⟨#[]⟩, .int .i64 0, .slice none 0 0, .slice none 0 0] 63)).cell? ⟨w0.heap.size, j, none⟩ := fun j =>
  (hb3.cell (p := ⟨w0.heap.size, j, none⟩) hs1).trans (hb1.cell (p := ⟨w0.heap.size, j, none⟩) (by show w0.heap.size < _; omega))
 have h01 : Below w.heap.size w w1 := (hb0.alloc hb0.size _).trans (hb1.mono (by have := hb0.size; omega))
 have hg9 := za1 w3 w0.heap.size (.int .i64 v.k) (.int .i64 v.dk) (.int .i64 v.dn) (.string v.ds) (.slice v.dA v.dl v.dc) (.string v.S) (.int .i64 v.N) (.slice v.nA v.nl v.nc) (.slice v.aA v.al v.ac)
 have hb9 := below9 w.heap.size w0.heap.size hb0.size w3 (.int .i64 v.k) (.int .i64 v.dk) (.int .i64 v.dn) (.string v.ds) (.slice v.dA v.dl v.dc) (.string v.S) (.int .i64 v.N) (.slice v.nA v.nl v.nc) (.slice v.aA v.al v.ac)
 refine ⟨w0.heap.size, v, c, rfl, rfl, hb0.size, evAt_set hs3 ((hcell 0).trans (za _ _ _ 0)) ((hcell 1).trans (za _ _ _ 1)) ((hcell 2).trans (za _ _ _ 2)) ((hcell 3).trans (za _ _ _ 3)) ((hcell 4).trans (za _ _ _ 4)) ((hcell 5).trans (za _ _ _ 5)) ((hcell 6).trans (za _ _ _ 6)) ((hcell 7).trans (za _ _ _ 7)) ((hcell 8).trans (za _ _ _ 8)), (h01.trans (hb3.mono h01.size)).trans hb9, ?_⟩
 cases r with
 | ok x =>
  obtain ⟨h1, h2, h3, h4, h5⟩ := hx
  exact ⟨h1, h2, Nat.le_trans h01.size h3, Nat.le_trans h4 hg9.size, (kitEx W0).kept _ _ _ _ h5 hg9 (fun b hb e => by have h6 : v.lo <= b := hb.1; have := Option.some.inj e; omega)⟩
 | err e => exact hx
/- Contract of (place).formedAll. -/
set_option maxHeartbeats 4000000 in
theorem formedAll_any {W0 w : World} {m : Fm} {n : Nat} {rec : List ByteArray -> Dt -> Fd Ex} (he : RefSays W0 m n rec) (A : Option Addr) (cap : Nat) (l : List Dt) (B : Option Addr) (bc : Nat) (ls : List ByteArray) (h : zc1 W0 w m B bc ls) (hl : DsAt W0 w m.F A cap l) (hgd : ∀ x ∈ l, Good n x) (hn : l.length <= 1048576) (hls : ls.length <= 40) :
  Calls Tryd.prog 55 #[.agg #[.slice m.G m.gl m.gc, .slice m.S m.sl m.sc, .slice m.O m.ol m.oc, .bool m.up, .slice B ls.length bc], .slice A l.length cap] w (RefXs W0 w l.length (allF (rec ls) l)) := by
 have HL := Lib.hid hl
 have H := Lib.hid h
 have HE := Lib.hid he
 have HGD := Lib.hid hgd
 obtain ⟨N, hN⟩ : ∃ N, l.length = N := ⟨_, rfl⟩
 have HN := Lib.hid hN
 rw [hN] at hn ⊢
 have hcap := hl.le
 rw [hN] at hcap
 obtain ⟨r, hr⟩ : ∃ r, allF (rec ls) l = r := ⟨_, rfl⟩
 have HR := Lib.hid hr
 rw [hr]
 clear h hl he hN hgd hr
 go_enter Tryd.func55, Tryd.ntmps55
 go_wp2_with fail
 go_loopg [6, 7] N (fun g v i wr => ∃ (j : Nat) (X : List EV), g = N - j /\ j <= N /\ i = .int .i64 j /\ X.length = j /\ OwnAt (kitEx W0) 63 (w.heap.size + 1) wr v X /\ allF (rec ls) (l.take j) = .ok (X.map (·.t)) /\ Below (w.alloc (.cells #[.slice m.G m.gl m.gc, .slice m.S m.sl m.sc, .slice m.O m.ol m.oc, .bool m.up, .slice B ls.length bc] 60)).heap.size (w.alloc (.cells #[.slice m.G m.gl m.gc, .slice m.S m.sl m.sc, .slice m.O m.ol m.oc, .bool m.up, .slice B ls.length bc] 60)) wr)
 case atStart => exact ⟨0, [], by omega, by omega, rfl, rfl, OwnAt.start _ _ _ _, rfl, Below.refl _ _⟩
 obtain ⟨j, X, hg, hj, rfl, hX, hO, hal, hbx⟩ := hrel
 have HG := Lib.hid hg
 have HX := Lib.hid hX
 have HO := Lib.hid hO
 have HBX := Lib.hid hbx
 have hb : Below w.heap.size w wr := ((Below.refl _ _).alloc (Nat.le_refl _) _).trans (hbx.mono (by simp))
 have HB := Lib.hid hb
 have hsz : w.heap.size < wr.heap.size := Nat.lt_of_lt_of_le (by simp) hbx.size
 clear hg hX
 by_cases hlt2 : j < N
 ·
  have hjl : j < l.length := by rw [HN.out]; exact hlt2
  obtain ⟨b, o, rfl, hbw, hbF, cs, hrow, hd⟩ := (HL.out.below hb).nth j hjl
  obtain ⟨A', c', rfl, _⟩ := hd.items (H.out.below.trans (hb.mono H.out.below.size)) H.out.ge
  have HAO := Lib.hid (fun x v hx hv => all_ok (v := v) (x := x) hjl hal hx hv)
  have HAE := Lib.hid (fun c hx => all_err (c := c) hjl hal hx)
  have HGK := Lib.hid (HGD.out l[j] (List.getElem_mem hjl))
  generalize l[j] = d at hrow hd HAO HAE HGK
  have c0 : wr.cell? ⟨b, o + j * 4, none⟩ = some (.int .i64 d.k) := hrow 0 (by simp)
  have c1 : wr.cell? ⟨b, o + j * 4 + 1, none⟩ = some (.int .i64 d.n) := hrow 1 (by simp)
  have c2 : wr.cell? ⟨b, o + j * 4 + 2, none⟩ = some (.string d.s) := hrow 2 (by simp)
  have c3 : wr.cell? ⟨b, o + j * 4 + 3, none⟩ = some (.slice A' d.l.length c') := hrow 3 (by simp)
  have bc0 : ∀ i, wr.cell? ⟨w.heap.size, i, none⟩ = (w.alloc (.cells #[.slice m.G m.gl m.gc, .slice m.S m.sl m.sc, .slice m.O m.ol m.oc, .bool m.up, .slice B ls.length bc] 60)).cell? ⟨w.heap.size, i, none⟩ := fun i => hbx.cell (p := ⟨w.heap.size, i, none⟩) (by show w.heap.size < _; simp)
  have p0 : wr.cell? ⟨w.heap.size, 0, none⟩ = some (.slice m.G m.gl m.gc) := (bc0 0).trans (za _ _ _ 0)
  have p1 : wr.cell? ⟨w.heap.size, 1, none⟩ = some (.slice m.S m.sl m.sc) := (bc0 1).trans (za _ _ _ 1)
  have p2 : wr.cell? ⟨w.heap.size, 2, none⟩ = some (.slice m.O m.ol m.oc) := (bc0 2).trans (za _ _ _ 2)
  have p3 : wr.cell? ⟨w.heap.size, 3, none⟩ = some (.bool m.up) := (bc0 3).trans (za _ _ _ 3)
  have p4 : wr.cell? ⟨w.heap.size, 4, none⟩ = some (.slice B ls.length bc) := (bc0 4).trans (za _ _ _ 4)
  have HD := Lib.hid hd
  have hnb := World.new_ne wr _ c0
  have hnp := World.new_ne wr _ p0
  have hi1 : (0 : Int) <= (j : Int) := Int.natCast_nonneg _
  have hi2 : (j : Int) < (N : Int) := by omega
  obtain ⟨rj, hrj⟩ : ∃ rj, rec ls d = rj := ⟨_, rfl⟩
  have HRJ := Lib.hid hrj
  clear hd hrow hb hal hO hbx bc0 hrj
  go_upto_region 5 with fail
  go_cut [8, 9] (fun v8 v9 wx => Formed W0 wr rj v8 v9 wx)
  case first =>
   go_region_held3 (fun w' => w'.cell? ⟨w.heap.size, 0, none⟩ = some (.slice m.G m.gl m.gc) /\ w'.cell? ⟨w.heap.size, 1, none⟩ = some (.slice m.S m.sl m.sc) /\ w'.cell? ⟨w.heap.size, 2, none⟩ = some (.slice m.O m.ol m.oc) /\ w'.cell? ⟨w.heap.size, 3, none⟩ = some (.bool m.up) /\ w'.cell? ⟨w.heap.size, 4, none⟩ = some (.slice B ls.length bc) /\ w'.cell? ⟨b, o + j * 4, none⟩ = some (.int .i64 d.k) /\ w'.cell? ⟨b, o + j * 4 + 1, none⟩ = some (.int .i64 d.n) /\ w'.cell? ⟨b, o + j * 4 + 2, none⟩ = some (.string d.s) /\ w'.cell? ⟨b, o + j * 4 + 3, none⟩ = some (.slice A' d.l.length c')) (go_keep)
    (first | (go_at_call 23; refine (HE.out _ d A' c' B bc ls ((H.out.next HB.out).next (by (with_reducible repeat' (first | exact Below.refl _ _ | apply Below.drew | apply below_drewN | refine Below.alloc ?_ ?_ _)); all_goals (try simp); all_goals (try omega))) HGK.out HD.out hls).mono ?_; intro e w3 hp; rw [HRJ.out] at hp; obtain ⟨v3, e3, rfl, hb3, hx3⟩ := hp.both; have hw3 := (show Below wr.heap.size wr _ from (by (with_reducible repeat' (first | exact Below.refl _ _ | apply Below.drew | apply below_drewN | refine Below.alloc ?_ ?_ _)); all_goals (try simp); all_goals (try omega))).trans (hb3.mono (by first | exact Nat.le_refl _ | (simp; done) | (simp; omega))); have m0 := (hw3.cell (p := ⟨w.heap.size, 0, none⟩) hsz).trans p0; have m1 := (hw3.cell (p := ⟨w.heap.size, 1, none⟩) hsz).trans p1; have m2 := (hw3.cell (p := ⟨w.heap.size, 2, none⟩) hsz).trans p2; have m3 := (hw3.cell (p := ⟨w.heap.size, 3, none⟩) hsz).trans p3; have m4 := (hw3.cell (p := ⟨w.heap.size, 4, none⟩) hsz).trans p4; have k0 := (hw3.cell (p := ⟨b, o + j * 4, none⟩) hbw).trans c0; have k1 := (hw3.cell (p := ⟨b, o + j * 4 + 1, none⟩) hbw).trans c1; have k2 := (hw3.cell (p := ⟨b, o + j * 4 + 2, none⟩) hbw).trans c2; have k3 := (hw3.cell (p := ⟨b, o + j * 4 + 3, none⟩) hbw).trans c3; clear hw3; obtain ⟨g3, g4⟩ := bcell hb3; have HX3 := Lib.hid hx3; have HB3 := Lib.hid hb3; clear hp hb3 hx3; unfold EV.agg))
   all_goals (go_wp2_with fail)
   all_goals go_meet
   all_goals (first | (with_reducible refine formed_after ?_ HB3.out HX3.out) | (with_reducible refine zl ?_ ?_ ((Below.refl _ _).drew) HB3.out HX3.out) | (with_reducible refine zl ?_ ?_ (Below.refl _ _) HB3.out HX3.out))
   all_goals (first | exact (by (with_reducible repeat' (first | exact Below.refl _ _ | apply Below.drew | apply below_drewN | refine Below.alloc ?_ ?_ _)); all_goals (try simp); all_goals (try omega)) | simp)
  obtain ⟨p, v, c, rfl, rfl, hp, hE, hbw, hx⟩ := hcut
  have q0 := hE.c0
  have q1 := hE.c1
  have q2 := hE.c2
  have q3 := hE.c3
  have q4 := hE.c4
  have q5 := hE.c5
  have q6 := hE.c6
  have q7 := hE.c7
  have q8 := hE.c8
  have hplt := hE.lt
  have HBW := Lib.hid hbw
  have HO1 := Lib.hid (HO.out.new hbw)
  clear hE
  cases rj with
  | err e =>
   obtain ⟨rfl, h1⟩ := hx
   have hcb : (c != 0) = true := by rw [bne_iff_ne]; omega
   have HAR := Lib.hid (HAE.out c HRJ.out)
   have H1 := Lib.hid h1
   clear h1 hbw
   go_wp2_with fail
   go_ret2
   rw [show r = .err c from by rw [<- HR.out]; exact HAR.out]
   exact ⟨_, _, _, rfl, H1.out, HB.out.trans (HBW.out.mono HB.out.size)⟩
  | ok x =>
   obtain ⟨rfl, ht, hlo, hhi, hok⟩ := hx
   have HAR := Lib.hid (HAO.out x v HRJ.out ht)
   have HOK := Lib.hid hok
   have HLO := Lib.hid hlo
   obtain ⟨v', cp, rfl, hXc, hcm, _⟩ := HO.out.form
   have hXj : X.length + 1 <= 1048580 := by rw [HX.out]; omega
   have hxw : X.length <= cp := hXc
   have hsc : w.heap.size + 1 <= wc.heap.size := by have := hbw.size; omega
   clear ht hlo hhi hok hbw
   go_wp2_with (at_builtin; refine wpList_x rfl rfl (.tmp 28) (.tmp 30) rfl HO1.out v _ rfl HOK.out (fun b hb => Nat.le_trans (Nat.le_trans hsz HLO.out) hb.1) (fun b hb => HO.out.free (Nat.le_trans HLO.out hb.1)) rfl rfl hXj hsc ?_; intro v5 w5 h5 h6)
   have HO5 := Lib.hid h5
   have HB5 := Lib.hid (below_row (base := w.heap.size + 1) hsc h6 (zv HO1.out.row))
   clear h5 h6
   go_wp2_with fail
   go_roundg (N - (j + 1))
   case measure => have := HG.out; omega
   case rel => exact ⟨j + 1, X ++ [v], rfl, by omega, by go_num, by simp [HX.out], HO5.out, HAR.out, (HBX.out.trans (HBW.out.mono HBX.out.size)).trans (by simpa using HB5.out)⟩
 obtain rfl : j = N := by omega
 have HAL := Lib.hid hal
 clear hal hO hbx hb
 go_wp2_with fail
 go_ret2
 have ha := HAL.out
 rw [List.take_of_length_le (by rw [HN.out]; exact Nat.le_refl _)] at ha
 rw [show r = .ok (X.map (·.t)) from by rw [<- HR.out]; exact ha]
 exact ⟨_, X, rfl, HO.out.lower (Nat.le_succ _), rfl, HX.out, HB.out⟩
/- Contract of grafteryref.texts: lists of texts, one behind the other, in new memory. -/
open Go.RowKit Go.ChangeShapes Go.WideShapes Go.Deep
theorem infoStringT : (Tryd.prog.info? 9).map (fun i => (i.zero, i.size, i.bytes)) = some (some (.string ByteArray.empty), 1, 16) := by kernel_rfl
theorem strsAt_owned {w : World} {base e : Nat} {v : Value} {n : Nat} {ss : List ByteArray} (h : w.ownsRow base e 1 v n (ss.map Value.string)) :
  ∃ A cap, v = .slice A n cap /\ zb1 w A n ss /\ n <= cap /\ cap <= maxLen := by
 have hl : ss.length = n := by have := h.1; simpa using this
 rcases h.2 with ⟨rfl, hx⟩ | ⟨g, cap, cur, rfl, hg, hh, hr⟩
 ·
  subst hx
  have hn : ss = [] := List.length_eq_zero_iff.1 hl
  subst hn
  exact ⟨none, 0, rfl, ⟨rfl, fun h => absurd h (by omega)⟩, by omega, by unfold maxLen; omega⟩
 ·
  refine ⟨some ⟨g, 0, none⟩, cap, rfl, ⟨hl, fun _ => ⟨g, 0, rfl, ?_, fun i hi => ?_⟩⟩, ?_, ?_⟩
  ·
   exact (Array.getElem?_eq_some_iff.1 hh).1
  ·
   have := h.cellAt i (by omega)
   rw [Nat.zero_add, this]
   simp [hi]
  ·
   exact hr.1
  exact hr.2.1
structure RowsAt (w : World) (A : Option Addr) (len : Nat) (R : List (List ByteArray)) : Prop where
 size : R.length = len
 at_ : 0 < len -> ∃ b o, A = some ⟨b, o, none⟩ /\ b < w.heap.size /\ ∀ i, (h : i < R.length) -> ∃ A' c', w.cell? ⟨b, o + i, none⟩ = some (.slice A' R[i].length c') /\ R[i].length <= c' /\ c' <= maxLen /\ zb1 w A' R[i].length R[i]
set_option maxHeartbeats 1000000 in
theorem texts_any (A : Option Addr) (len cap : Nat) (R : List (List ByteArray)) (w : World) (hcap : cap <= maxLen) (hl : len <= cap) (hR : RowsAt w A len R) (hsz : R.flatten.length <= 1099511627776) :
  Calls Tryd.prog 21 #[.slice A len cap] w fun e w' => ∃ v, e = .returned v /\ w'.ownsRow w.heap.size 9 1 v R.flatten.length (R.flatten.map Value.string) /\ Below w.heap.size w w' := by
 have hlen : len <= 9223372036854775807 := by unfold maxLen at hcap; omega
 obtain ⟨i0, hi, hz0, hz1, hz2⟩ := info_parts infoStringT
 have HR := Lib.hid hR
 clear hR
 go_enter Tryd.func21, Tryd.ntmps21
 go_wp2_with fail
 go_loopg [3, 4] len (fun g v i wr => ∃ k : Nat, g = len - k /\ k <= len /\ i = .int .i64 k /\ wr.ownsRow w.heap.size 9 1 v (R.take k).flatten.length ((R.take k).flatten.map Value.string) /\ Below w.heap.size w wr)
 case atStart => exact ⟨0, by omega, by omega, rfl, by simpa using World.ownsRow_nil _ _ _ _, Below.refl _ _⟩
 obtain ⟨k, hg, hk, rfl, hown, hb⟩ := hrel
 have HG := Lib.hid hg
 have HO := Lib.hid hown
 have HB := Lib.hid hb
 clear hg hown hb
 by_cases hlt : k < len
 ·
  obtain ⟨b, o, rfl, hbw, hrow⟩ := HR.out.at_ (by omega)
  have hks : k < R.length := by rw [HR.out.size]; exact hlt
  obtain ⟨A', c', hc, hlc, hcc, hst⟩ := hrow k hks
  have HST := Lib.hid hst
  have hmx : c' <= 9223372036854775807 := by unfold maxLen at hcc; omega
  have HRK := Lib.hid (show (R.take (k + 1)).flatten = (R.take k).flatten ++ R[k] from by
   rw [List.take_succ_eq_append_getElem hks, List.flatten_append]; simp)
  have HSZ := Lib.hid (show (R.take k).flatten.length + R[k].length <= 1099511627776 from by
   have h1 : R.flatten = (R.take (k + 1)).flatten ++ (R.drop (k + 1)).flatten := by rw [<- List.flatten_append, List.take_append_drop]
   have h2 := congrArg List.length h1
   rw [HRK.out, List.length_append, List.length_append] at h2
   omega)
  clear hst hrow
  obtain ⟨m, hm⟩ : ∃ m, m = R[k].length := ⟨_, rfl⟩
  have hmc : m <= c' := by rw [hm]; exact hlc
  rw [<- hm] at hc hlc
  have HM := Lib.hid hm
  clear hm
  go_wp2_with fail
  obtain ⟨wo, rfl⟩ : ∃ wo : World, wo = wr := ⟨_, rfl⟩
  go_loopw [3, 5] (fun v i wi => ∃ j : Nat, j <= m /\ i = .int .i64 j /\ wi.ownsRow w.heap.size 9 1 v ((R.take k).flatten.length + j) (((R.take k).flatten ++ R[k].take j).map Value.string) /\ Below w.heap.size w wi) (fun _ i _ => m - (intOf i).toNat)
  case atStart => exact ⟨0, by omega, rfl, by simpa using HO.out, HB.out⟩
  obtain ⟨j, hj, rfl, hown, hb⟩ := hrel
  have HO2 := Lib.hid hown
  have HB2 := Lib.hid hb
  have hc1 : wr.cell? ⟨b, o + k, none⟩ = some (.slice A' m c') := (hb.cell (p := ⟨b, o + k, none⟩) hbw).trans hc
  have hsz2 := hb.size
  clear hown hb
  by_cases hjm : j < m
  ·
   obtain ⟨b2, o2, hA', hb2w, hrow2⟩ := HST.out.at_ (by rw [<- HM.out]; omega)
   subst hA'
   have hjr : j < R[k].length := by rw [<- HM.out]; exact hjm
   have hc2 : wr.cell? ⟨b2, o2 + j, none⟩ = some (.string R[k][j]) := (HB2.out.cell (p := ⟨b2, o2 + j, none⟩) hb2w).trans (hrow2 j hjr)
   clear hrow2
   have HJ := Lib.hid (show (R.take k).flatten.length + j < 1099511627776 from by have := HSZ.out; have := HM.out; omega)
   go_wp2_with (at_builtin; refine wpList_append_own _ rfl (.tmp 21) (.tmp 29) 23 rfl w.heap.size 9 i0 _ 1 16 Tryd.underlying23 hi hz0 hz1 hz2 rfl (by decide) _ _ _ rfl (HO2.out.alloc _) ⟨wr.heap.size,0,none⟩ 1 1 [.string _] rfl rfl (cell_one_new _ _ _) (fun x hx => by simp at hx; subst hx; rfl) (by have := HJ.out; unfold maxLen; omega) (by have := HJ.out; omega) (by simp; omega) ?_; intro v' w1 hown' hg' _)
   have hb1 : Below w.heap.size w w1 := (HB2.out.alloc HB2.out.size _).grown hg' (Nat.le_trans HB2.out.size (by simp)) (zv HO2.out)
   go_roundw
   case measure => simp only [intOf, Int.toNat_natCast]; omega
   refine ⟨j + 1, by omega, rfl, ?_, hb1⟩
   have e1 : (R.take k).flatten ++ R[k].take (j + 1) = ((R.take k).flatten ++ R[k].take j) ++ [R[k][j]] := by
    rw [List.append_assoc, List.take_succ_eq_append_getElem hjr]
   have e2 : (R.take k).flatten.length + (j + 1) = (R.take k).flatten.length + j + 1 := by omega
   rw [e1, e2, List.map_append]
   exact hown'
  obtain rfl : j = m := by omega
  go_wp2_with fail
  go_roundg (len - (k + 1))
  case measure => have := HG.out; omega
  refine ⟨k + 1, rfl, hlt, rfl, ?_, HB2.out⟩
  have h2 := HO2.out
  rw [HM.out, List.take_length] at h2
  rw [HRK.out, List.length_append]
  exact h2
 obtain rfl : k = len := by omega
 go_wp2_with fail
 go_ret
 refine ⟨_, rfl, ?_, HB.out⟩
 have h2 := HO.out
 rwa [List.take_of_length_le (by rw [HR.out.size]; exact Nat.le_refl _)] at h2
/- Contract of (place).inside. -/
def InsidePost (W0 w : World) (m : Fm) (ls xs : List ByteArray) (e : Ending) (w' : World) : Prop :=
 ∃ B bc, e = .returned (.agg #[.slice m.G m.gl m.gc, .slice m.S m.sl m.sc, .slice m.O m.ol m.oc, .bool m.up, .slice B (ls ++ xs).length bc]) /\ zc1 W0 w' m B bc (ls ++ xs) /\ Below w.heap.size w w'
set_option maxHeartbeats 4000000 in
theorem inside_any {W0 w : World} {m : Fm} {B : Option Addr} {bc : Nat} {ls : List ByteArray} (h : zc1 W0 w m B bc ls) (A : Option Addr) (ac : Nat) (xs : List ByteArray) (hx : zb1 w A xs.length xs) (hac : ac <= maxLen) (hxc : xs.length <= ac) (hls : ls.length <= 1048576) (hxs : xs.length <= 1048576) :
  Calls Tryd.prog 25 #[.agg #[.slice m.G m.gl m.gc, .slice m.S m.sl m.sc, .slice m.O m.ol m.oc, .bool m.up, .slice B ls.length bc], .slice A xs.length ac] w (InsidePost W0 w m ls xs) := by
 have H := Lib.hid h
 have HX := Lib.hid hx
 obtain ⟨N, hN⟩ : ∃ N, ls.length = N := ⟨_, rfl⟩
 have HN := Lib.hid hN
 obtain ⟨M, hM⟩ : ∃ M, xs.length = M := ⟨_, rfl⟩
 have HM := Lib.hid hM
 have hfl : [ls, xs].flatten = ls ++ xs := by simp
 have HFL := Lib.hid hfl
 rw [hN] at hls ⊢
 rw [hM] at hxs hxc ⊢
 have hgm : m.F < w.heap.size := h.lt
 clear h hx hN hM hfl
 go_enter Tryd.func25, Tryd.ntmps25
 go_wp2_with fail
 have hbw : Below w.heap.size w (((w.alloc (.cells #[.slice m.G m.gl m.gc, .slice m.S m.sl m.sc, .slice m.O m.ol m.oc, .bool m.up, .slice B N bc] 60)).alloc (.cells #[.slice none 0 0, .slice none 0 0, .slice none 0 0, .bool false, .slice none 0 0] 60)).alloc (.cells #[.slice B N bc, .slice A M ac] 23)) := (((Below.refl _ _).alloc (Nat.le_refl _) _).alloc (by simp) _).alloc (by simp; omega) _
 have HBW := Lib.hid hbw
 refine (texts_any (some ⟨w.heap.size + 1 + 1, 0, none⟩) 2 2 [ls, xs] _ (by unfold maxLen; omega) (by omega) ⟨rfl, fun _ => ⟨w.heap.size + 1 + 1, 0, rfl, by simp, fun i hi => ?_⟩⟩ (by rw [HFL.out, List.length_append, HN.out, HM.out]; omega)).mono ?_
 ·
  have hz : w.heap.size + 1 + 1 = ((w.alloc (.cells #[.slice m.G m.gl m.gc, .slice m.S m.sl m.sc, .slice m.O m.ol m.oc, .bool m.up, .slice B N bc] 60)).alloc (.cells #[.slice none 0 0, .slice none 0 0, .slice none 0 0, .bool false, .slice none 0 0] 60)).heap.size := by simp
  match i, hi with
  | 0, _ => exact ⟨B, bc, by rw [Nat.add_zero, hz, za]; show _ = some (Value.slice B ls.length bc); rw [HN.out]; rfl, H.out.lle, H.out.lcap, H.out.l.below HBW.out⟩
  | 1, _ => exact ⟨A, ac, by rw [Nat.zero_add, hz, za]; show _ = some (Value.slice A xs.length ac); rw [HM.out]; rfl, by show xs.length <= ac; rw [HM.out]; exact hxc, hac, HX.out.below HBW.out⟩
 rintro e w3 ⟨vv, rfl, hown, hb3⟩
 rw [HFL.out] at hown
 have hof := zv hown
 obtain ⟨A4, c4, rfl, hst, hl4, hm4⟩ := strsAt_owned hown
 have HST := Lib.hid hst
 have HOF := Lib.hid (show ∀ a, A4 = some a -> w.heap.size + 3 <= a.block from fun a ha => by subst ha; have := hof a.block rfl; simp at this; omega)
 clear hof
 have HB3 := Lib.hid (hbw.trans (hb3.mono hbw.size))
 have hs3 : w.heap.size + 3 <= w3.heap.size := Nat.le_trans (by simp) hb3.size
 have bA : Below (w.alloc (.cells #[.slice m.G m.gl m.gc, .slice m.S m.sl m.sc, .slice m.O m.ol m.oc, .bool m.up, .slice B N bc] 60)).heap.size (w.alloc (.cells #[.slice m.G m.gl m.gc, .slice m.S m.sl m.sc, .slice m.O m.ol m.oc, .bool m.up, .slice B N bc] 60)) w3 := (((Below.refl _ _).alloc (Nat.le_refl _) (.cells #[.slice none 0 0, .slice none 0 0, .slice none 0 0, .bool false, .slice none 0 0] 60)).alloc (by simp) _).trans (hb3.mono (by simp))
 have bB : Below ((w.alloc (.cells #[.slice m.G m.gl m.gc, .slice m.S m.sl m.sc, .slice m.O m.ol m.oc, .bool m.up, .slice B N bc] 60)).alloc (.cells #[.slice none 0 0, .slice none 0 0, .slice none 0 0, .bool false, .slice none 0 0] 60)).heap.size ((w.alloc (.cells #[.slice m.G m.gl m.gc, .slice m.S m.sl m.sc, .slice m.O m.ol m.oc, .bool m.up, .slice B N bc] 60)).alloc (.cells #[.slice none 0 0, .slice none 0 0, .slice none 0 0, .bool false, .slice none 0 0] 60)) w3 := ((Below.refl _ _).alloc (Nat.le_refl _) _).trans (hb3.mono (by simp))
 have p0 : w3.cell? ⟨w.heap.size, 0, none⟩ = some (Value.slice m.G m.gl m.gc) := (bA.cell (p := ⟨w.heap.size, 0, none⟩) (by simp)).trans (za w _ _ 0)
 have p1 : w3.cell? ⟨w.heap.size, 1, none⟩ = some (Value.slice m.S m.sl m.sc) := (bA.cell (p := ⟨w.heap.size, 1, none⟩) (by simp)).trans (za w _ _ 1)
 have p2 : w3.cell? ⟨w.heap.size, 2, none⟩ = some (Value.slice m.O m.ol m.oc) := (bA.cell (p := ⟨w.heap.size, 2, none⟩) (by simp)).trans (za w _ _ 2)
 have p3 : w3.cell? ⟨w.heap.size, 3, none⟩ = some (Value.bool m.up) := (bA.cell (p := ⟨w.heap.size, 3, none⟩) (by simp)).trans (za w _ _ 3)
 have p4 : w3.cell? ⟨w.heap.size, 4, none⟩ = some (Value.slice B N bc) := (bA.cell (p := ⟨w.heap.size, 4, none⟩) (by simp)).trans (za w _ _ 4)
 have q0 : w3.cell? ⟨w.heap.size + 1, 0, none⟩ = some (Value.slice none 0 0) := (bB.cell (p := ⟨w.heap.size + 1, 0, none⟩) (by simp)).trans (by rw [show w.heap.size + 1 = (w.alloc (.cells #[.slice m.G m.gl m.gc, .slice m.S m.sl m.sc, .slice m.O m.ol m.oc, .bool m.up, .slice B N bc] 60)).heap.size from by simp]; exact za _ _ _ 0)
 have q1 : w3.cell? ⟨w.heap.size + 1, 1, none⟩ = some (Value.slice none 0 0) := (bB.cell (p := ⟨w.heap.size + 1, 1, none⟩) (by simp)).trans (by rw [show w.heap.size + 1 = (w.alloc (.cells #[.slice m.G m.gl m.gc, .slice m.S m.sl m.sc, .slice m.O m.ol m.oc, .bool m.up, .slice B N bc] 60)).heap.size from by simp]; exact za _ _ _ 1)
 have q2 : w3.cell? ⟨w.heap.size + 1, 2, none⟩ = some (Value.slice none 0 0) := (bB.cell (p := ⟨w.heap.size + 1, 2, none⟩) (by simp)).trans (by rw [show w.heap.size + 1 = (w.alloc (.cells #[.slice m.G m.gl m.gc, .slice m.S m.sl m.sc, .slice m.O m.ol m.oc, .bool m.up, .slice B N bc] 60)).heap.size from by simp]; exact za _ _ _ 2)
 have q3 : w3.cell? ⟨w.heap.size + 1, 3, none⟩ = some (Value.bool false) := (bB.cell (p := ⟨w.heap.size + 1, 3, none⟩) (by simp)).trans (by rw [show w.heap.size + 1 = (w.alloc (.cells #[.slice m.G m.gl m.gc, .slice m.S m.sl m.sc, .slice m.O m.ol m.oc, .bool m.up, .slice B N bc] 60)).heap.size from by simp]; exact za _ _ _ 3)
 have q4 : w3.cell? ⟨w.heap.size + 1, 4, none⟩ = some (Value.slice none 0 0) := (bB.cell (p := ⟨w.heap.size + 1, 4, none⟩) (by simp)).trans (by rw [show w.heap.size + 1 = (w.alloc (.cells #[.slice m.G m.gl m.gc, .slice m.S m.sl m.sc, .slice m.O m.ol m.oc, .bool m.up, .slice B N bc] 60)).heap.size from by simp]; exact za _ _ _ 4)
 have f0 := fun j => bA.frozen (p := ⟨w.heap.size, j, none⟩) (by simp)
 have f1 := fun j => bB.frozen (p := ⟨w.heap.size + 1, j, none⟩) (by simp)
 simp at f0 f1
 obtain ⟨T, hT⟩ : ∃ T, (ls ++ xs).length = T := ⟨_, rfl⟩
 have HT := Lib.hid hT
 rw [hT] at hl4 ⊢
 clear hown hst hb3 hbw hT bA bB
 go_wp2_with fail
 have hne : ∀ a, A4 = some a -> a.block ≠ w.heap.size /\ a.block ≠ w.heap.size + 1 := fun a ha => by have := HOF.out a ha; omega
 have hst2 := ((HST.out.grownF (zd w3 w.heap.size 4 (.slice A4 T c4)) (fun _ a ha => (hne a ha).1)).grownF (((((zd _ (w.heap.size + 1) 0 (Value.slice m.G m.gl m.gc)).trans (zd _ _ 1 (Value.slice m.S m.sl m.sc))).trans (zd _ _ 2 (Value.slice m.O m.ol m.oc))).trans (zd _ _ 3 (Value.bool m.up))).trans (zd _ _ 4 (Value.slice A4 T c4))) (fun _ a ha => (hne a ha).2))
 have hbf : Below w.heap.size w ((((((w3.setCell ⟨w.heap.size, 4, none⟩ (.slice A4 T c4)).setCell ⟨w.heap.size + 1, 0, none⟩ (.slice m.G m.gl m.gc)).setCell ⟨w.heap.size + 1, 1, none⟩ (.slice m.S m.sl m.sc)).setCell ⟨w.heap.size + 1, 2, none⟩ (.slice m.O m.ol m.oc)).setCell ⟨w.heap.size + 1, 3, none⟩ (.bool m.up)).setCell ⟨w.heap.size + 1, 4, none⟩ (.slice A4 T c4)) :=
  ((((((HB3.out.setCell (Nat.le_refl _) _).setCell (Nat.le_succ _) _).setCell (Nat.le_succ _) _).setCell (Nat.le_succ _) _).setCell (Nat.le_succ _) _).setCell (Nat.le_succ _) _)
 have hp := H.out.next hbf
 refine bodyPost_ret (v := .agg #[.slice m.G m.gl m.gc, .slice m.S m.sl m.sc, .slice m.O m.ol m.oc, .bool m.up, .slice A4 T c4]) ?_ rfl ?_
 ·
  simp [results, Tryd.results25, go_sem, q0, q1, q2, q3, q4]
 refine ⟨A4, c4, by rw [HT.out], ⟨hp.below, hp.ge, hp.lt, hp.g, hp.gle, hp.gcap, hp.s, hp.sle, hp.scap, hp.o, hp.ole, hp.ocap, hst2, by rw [HT.out]; exact hl4, hm4⟩, hbf⟩
/- Contract of (place).formedBody. -/
set_option maxHeartbeats 400000 in
theorem formedBody_few {W0 w : World} {m : Fm} {n : Nat} {rec : List ByteArray -> Dt -> Fd Ex} (he : RefSays W0 m n rec) (A : Option Addr) (cap : Nat) (l : List Dt) (B : Option Addr) (bc : Nat) (ls : List ByteArray) (h : zc1 W0 w m B bc ls) (hl : DsAt W0 w m.F A cap l) (hgd : ∀ x ∈ l, Good n x) (hn : l.length <= 1048576) (h1 : l.length ≠ 1 \/ 40 < ls.length) :
  Calls Tryd.prog 26 #[.agg #[.slice m.G m.gl m.gc, .slice m.S m.sl m.sc, .slice m.O m.ol m.oc, .bool m.up, .slice B ls.length bc], .slice A l.length cap] w (RefPost W0 w (bodyF rec ls l)) := by
 have HL := Lib.hid hl
 have H := Lib.hid h
 have HE := Lib.hid he
 have HGD := Lib.hid hgd
 obtain ⟨N, hN⟩ : ∃ N, l.length = N := ⟨_, rfl⟩
 have HN := Lib.hid hN
 obtain ⟨K, hK⟩ : ∃ K, ls.length = K := ⟨_, rfl⟩
 have HK := Lib.hid hK
 have hKc : K <= 9223372036854775807 := by have a := h.lle; have b := h.lcap; unfold maxLen at b; omega
 rw [hN, hK] at h1
 rw [hN] at hn
 rw [hN, hK]
 obtain ⟨r, hr⟩ : ∃ r, bodyF rec ls l = r := ⟨_, rfl⟩
 have HR := Lib.hid hr
 rw [hr]
 clear h hl he hN hK hgd hr
 go_enter Tryd.func26, Tryd.ntmps26
 have hb2 : Below w.heap.size w ((w.alloc (.cells #[.slice m.G m.gl m.gc, .slice m.S m.sl m.sc, .slice m.O m.ol m.oc, .bool m.up, .slice B K bc] 60)).alloc (.cells #[.int .i64 0, .int .i64 0, .int .i64 0, .string ⟨#[]⟩, .slice none 0 0, .string ⟨#[]⟩, .int .i64 0, .slice none 0 0, .slice none 0 0] 63)) := ((Below.refl _ _).alloc (Nat.le_refl _) _).alloc (by simp) _
 have HB2 := Lib.hid hb2
 have g0 : ∀ j, ((w.alloc (.cells #[.slice m.G m.gl m.gc, .slice m.S m.sl m.sc, .slice m.O m.ol m.oc, .bool m.up, .slice B K bc] 60)).alloc (.cells #[.int .i64 0, .int .i64 0, .int .i64 0, .string ⟨#[]⟩, .slice none 0 0, .string ⟨#[]⟩, .int .i64 0, .slice none 0 0, .slice none 0 0] 63)).cell? ⟨w.heap.size + 1, j, none⟩ = (#[Value.int .i64 0, .int .i64 0, .int .i64 0, .string ⟨#[]⟩, .slice none 0 0, .string ⟨#[]⟩, .int .i64 0, .slice none 0 0, .slice none 0 0])[j]? := fun j => by
  rw [show w.heap.size + 1 = (w.alloc (.cells #[.slice m.G m.gl m.gc, .slice m.S m.sl m.sc, .slice m.O m.ol m.oc, .bool m.up, .slice B K bc] 60)).heap.size from by simp]; exact za _ _ _ j
 have G0 := Lib.hid g0
 clear hb2 g0
 by_cases h0 : N = 0
 ·
  subst h0
  have hr2 : r = .err 10 := by rw [<- HR.out, List.length_eq_zero_iff.1 HN.out]; rfl
  have HR2 := Lib.hid hr2
  clear hr2 h1
  go_wp2_with fail
  have g1 := G0.out
  rw [HR2.out]
  exact bodyPost_ret (v := .tuple #[evz.agg, .int .i64 10]) (by simp [results, Tryd.results26, go_sem, evz, EV.agg, g1]) rfl (zn (by decide) HB2.out)
 by_cases h40 : 40 < K
 ·
  have hr2 : r = .err 1 := by
   rw [<- HR.out]
   cases l with
   | nil => exact absurd HN.out.symm h0
   | cons d q => exact if_pos (HK.out.symm ▸ h40)
  have HR2 := Lib.hid hr2
  clear hr2 h1
  have i1 : ((N : Int) == 0) = false := by rw [beq_eq_false_iff_ne]; omega
  have i2 : (40 : Int) < (K : Int) := by omega
  go_wp2_with fail
  have g1 := G0.out
  rw [HR2.out]
  exact bodyPost_ret (v := .tuple #[evz.agg, .int .i64 1]) (by simp [results, Tryd.results26, go_sem, evz, EV.agg, g1]) rfl (zn (by decide) HB2.out)
 have h1' : N ≠ 1 := by omega
 have i1 : ((N : Int) == 0) = false := by rw [beq_eq_false_iff_ne]; omega
 have i2 : ¬ (40 : Int) < (K : Int) := by omega
 have i3 : ((N : Int) == 1) = false := by rw [beq_eq_false_iff_ne]; omega
 clear h1
 go_wp2_with fail
 have hal := (formedAll_any HE.out A cap l B bc ls (H.out.next HB2.out) (HL.out.below HB2.out) HGD.out (by rw [HN.out]; exact hn) (by rw [HK.out]; omega))
 rw [HN.out, HK.out] at hal
 refine hal.mono ?_
 intro e w3 hp
 obtain ⟨ra, hra⟩ : ∃ ra, allF (rec ls) l = ra := ⟨_, rfl⟩
 rw [hra] at hp
 have hr2 : r = mapF (eK 7 ⟨#[]⟩) ra := by
  rw [<- HR.out, <- hra]
  cases l with
  | nil => exact absurd HN.out.symm h0
  | cons d q => cases q with
   | nil => exact absurd HN.out.symm h1'
   | cons d2 q2 => exact if_neg (HK.out.symm ▸ h40)
 have HR2 := Lib.hid hr2
 clear hr2 hal
 cases ra with
 | err c =>
  obtain ⟨sA, sl, sc, rfl, hc, hb3⟩ := hp
  have HB3 := Lib.hid hb3
  have HC := Lib.hid hc
  have g1 : ∀ j, w3.cell? ⟨w.heap.size + 1, j, none⟩ = (#[Value.int .i64 0, .int .i64 0, .int .i64 0, .string ⟨#[]⟩, .slice none 0 0, .string ⟨#[]⟩, .int .i64 0, .slice none 0 0, .slice none 0 0])[j]? := fun j => (hb3.cell (p := ⟨w.heap.size + 1, j, none⟩) (by simp)).trans (G0.out j)
  have G1 := Lib.hid g1
  clear hb3 hc g1 hra
  have fz : ∀ j, w3.frozen? ⟨w.heap.size + 1, j, none⟩ = false := fun j => (HB3.out.frozen (p := ⟨w.heap.size + 1, j, none⟩) (by simp)).trans (by simp)
  have y0 : w3.cell? ⟨w.heap.size + 1, 0, none⟩ = some (.int .i64 0) := G1.out 0
  have y1 : w3.cell? ⟨w.heap.size + 1, 1, none⟩ = some (.int .i64 0) := G1.out 1
  have y2 : w3.cell? ⟨w.heap.size + 1, 2, none⟩ = some (.int .i64 0) := G1.out 2
  have y3 : w3.cell? ⟨w.heap.size + 1, 3, none⟩ = some (.string ⟨#[]⟩) := G1.out 3
  have y4 : w3.cell? ⟨w.heap.size + 1, 4, none⟩ = some (.slice none 0 0) := G1.out 4
  have y5 : w3.cell? ⟨w.heap.size + 1, 5, none⟩ = some (.string ⟨#[]⟩) := G1.out 5
  have y6 : w3.cell? ⟨w.heap.size + 1, 6, none⟩ = some (.int .i64 0) := G1.out 6
  have y7 : w3.cell? ⟨w.heap.size + 1, 7, none⟩ = some (.slice none 0 0) := G1.out 7
  have y8 : w3.cell? ⟨w.heap.size + 1, 8, none⟩ = some (.slice none 0 0) := G1.out 8
  go_wp2_with fail
  have g2 := G1.out
  rw [HR2.out]
  refine bodyPost_ret (v := .tuple #[.agg #[.int .i64 7, .int .i64 0, .int .i64 0, .string ⟨#[]⟩, .slice none 0 0, .string ⟨#[]⟩, .int .i64 0, .slice none 0 0, .slice sA sl sc], .int .i64 c]) ?_ rfl ?_
  ·
   simp [results, Tryd.results26, go_sem, g2]
  exact ⟨⟨7, 0, 0, ⟨#[]⟩, none, 0, 0, ⟨#[]⟩, 0, none, 0, 0, sA, sl, sc, eC dt0, 0, 0⟩, rfl, HC.out, (HB2.out.trans (HB3.out.mono HB2.out.size)).trans (below9 _ _ (by omega) _ _ _ _ _ _ _ _ _ _)⟩
 | ok xs =>
  obtain ⟨v, X, rfl, hO, hX, hXl, hb3⟩ := hp
  obtain ⟨A', cp, rfl, hXc, hcm, _⟩ := hO.form
  have HXL := Lib.hid hXl
  have HO := Lib.hid hO
  have HX := Lib.hid hX
  have HB3 := Lib.hid hb3
  have g1 : ∀ j, w3.cell? ⟨w.heap.size + 1, j, none⟩ = (#[Value.int .i64 0, .int .i64 0, .int .i64 0, .string ⟨#[]⟩, .slice none 0 0, .string ⟨#[]⟩, .int .i64 0, .slice none 0 0, .slice none 0 0])[j]? := fun j => (hb3.cell (p := ⟨w.heap.size + 1, j, none⟩) (by simp)).trans (G0.out j)
  have G1 := Lib.hid g1
  clear hb3 hO hX g1 hra
  have fz : ∀ j, w3.frozen? ⟨w.heap.size + 1, j, none⟩ = false := fun j => (HB3.out.frozen (p := ⟨w.heap.size + 1, j, none⟩) (by simp)).trans (by simp)
  have y0 : w3.cell? ⟨w.heap.size + 1, 0, none⟩ = some (.int .i64 0) := G1.out 0
  have y1 : w3.cell? ⟨w.heap.size + 1, 1, none⟩ = some (.int .i64 0) := G1.out 1
  have y2 : w3.cell? ⟨w.heap.size + 1, 2, none⟩ = some (.int .i64 0) := G1.out 2
  have y3 : w3.cell? ⟨w.heap.size + 1, 3, none⟩ = some (.string ⟨#[]⟩) := G1.out 3
  have y4 : w3.cell? ⟨w.heap.size + 1, 4, none⟩ = some (.slice none 0 0) := G1.out 4
  have y5 : w3.cell? ⟨w.heap.size + 1, 5, none⟩ = some (.string ⟨#[]⟩) := G1.out 5
  have y6 : w3.cell? ⟨w.heap.size + 1, 6, none⟩ = some (.int .i64 0) := G1.out 6
  have y7 : w3.cell? ⟨w.heap.size + 1, 7, none⟩ = some (.slice none 0 0) := G1.out 7
  have y8 : w3.cell? ⟨w.heap.size + 1, 8, none⟩ = some (.slice none 0 0) := G1.out 8
  go_wp2_with fail
  have g2 := G1.out
  rw [HR2.out]
  refine bodyPost_ret (v := .tuple #[.agg #[.int .i64 7, .int .i64 0, .int .i64 0, .string ⟨#[]⟩, .slice none 0 0, .string ⟨#[]⟩, .int .i64 0, .slice none 0 0, .slice A' X.length cp], .int .i64 0]) ?_ rfl ?_
  ·
   simp [results, Tryd.results26, go_sem, g2, HXL.out]
  obtain ⟨u, hu1, hu2⟩ := got_buildG (W0 := W0) (w := w) (g := w.heap.size + 1) HO.out (by simp) (HB2.out.trans (HB3.out.mono HB2.out.size)) (Nat.le_succ _) (za1 w3 (w.heap.size + 1) _ _ _ _ _ _ _ _ _) 7 ⟨#[]⟩ 0
  injection hu1 with hu1
  rw [HX.out] at hu2
  rw [hu1]
  exact ⟨u, rfl, hu2⟩
end Go.Proofs.YtjmeodadkjcmmaaDoor
