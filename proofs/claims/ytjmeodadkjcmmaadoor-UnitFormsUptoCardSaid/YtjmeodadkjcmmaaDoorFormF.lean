import Derived.Test.YtjmeodadkjcmmaaDoorFormE
import Derived.Test.YtjmeodadkjcmmaaDoorFormF0
import Derived.Deep.QuietTactic
import Derived.BigQuiet
namespace Go.Proofs.YtjmeodadkjcmmaaDoor
open Go.RowKit Go.ChangeShapes Go.WideShapes Go.Deep Go.ChangeAt
set_option linter.unusedVariables false
set_option maxRecDepth 20000
theorem rec_none {rec : Dt -> Fd Ex} {s : ByteArray} {rest : List Dt} {L : List Sh} {k : Nat} (hk : k < L.length) (h : opF L[k].1 L[k].2 s rest.length = none) : recF rec s rest (L.drop k) = recF rec s rest (L.drop (k + 1)) := by
 rw [List.drop_eq_getElem_cons hk]; simp only [recF, h]
theorem rec_count {rec : Dt -> Fd Ex} {s : ByteArray} {rest : List Dt} {L : List Sh} {k : Nat} {a : Int} {b : Nat} {c : List ByteArray} (hk : k < L.length) (h : opF L[k].1 L[k].2 s rest.length = some (a, b, c)) (hb : b ≠ rest.length \/ 6 < b) : recF rec s rest (L.drop k) = .err 10 := by
 rw [List.drop_eq_getElem_cons hk]; simp only [recF, h]; rw [if_pos hb]
theorem rec_ok {rec : Dt -> Fd Ex} {s : ByteArray} {rest : List Dt} {L : List Sh} {k : Nat} {a : Int} {b : Nat} {c : List ByteArray} (hk : k < L.length) (h : opF L[k].1 L[k].2 s rest.length = some (a, b, c)) (hb : ¬ (b ≠ rest.length \/ 6 < b)) :
  recF rec s rest (L.drop k) = mapF (fun xs => .mk a dt0 L[k].1 0 c xs) (allF rec rest) := by
 rw [List.drop_eq_getElem_cons hk]; simp only [recF, h]; rw [if_neg hb]
theorem trim_le (l p : List UInt8) : (Lib.trimPrefix l p).length <= l.length := by
 unfold Lib.trimPrefix; split <;> simp
theorem zr {P : Program} {f : FuncId} {args : Array Value} {w : World} {n : Nat} {v : Value}
  (h : Calls P f args (w.drewN n) fun e w' => e = .returned v /\ w.drewN n = w') : Calls P f args (w.drewN n) fun e w'' => e = .returned v /\ ∃ m, w'' = w.drewN m :=
 h.mono fun _ _ ⟨he, hm⟩ => ⟨he, n, hm.symm⟩
theorem quiet_add_left {P : Program} {f : FuncId} {args : Array Value} {w : World} {a n : Nat} {v : Value}
  (h : Calls P f args (w.drewN (a + n)) fun e w' => e = .returned v /\ w.drewN (a + n) = w') :
  Calls P f args (w.drewN (a + n)) fun e w'' => e = .returned v /\ ∃ m, w'' = w.drewN (a + m) :=
 h.mono fun _ _ ⟨he, hm⟩ => ⟨he, n, hm.symm⟩
theorem contains_true {s : ByteArray} (A : Option Addr) (len cap : Nat) (ss : List ByteArray) (w : World) (hc : cap <= maxLen) (hl : len <= cap) (hA : zb1 w A len ss) (h : inL ss s = true) :
  Calls Tryd.prog 11 #[.slice A len cap, .string s] w fun e w' => e = .returned (.bool true) /\ w = w' := by
 have := contains_any s A len cap ss w hc hl hA
 rwa [h] at this
theorem contains_false {s : ByteArray} (A : Option Addr) (len cap : Nat) (ss : List ByteArray) (w : World) (hc : cap <= maxLen) (hl : len <= cap) (hA : zb1 w A len ss) (h : inL ss s = false) :
  Calls Tryd.prog 11 #[.slice A len cap, .string s] w fun e w' => e = .returned (.bool false) /\ w = w' := by
 have := contains_any s A len cap ss w hc hl hA
 rwa [h] at this
theorem rec_fin {W0 w wa wc : World} {m : Fm} {k : Int} {s : ByteArray} {n p cap : Nat} {A : Option Addr} {r3 : Fd (List Ex)} (hp : w.heap.size < p)
  (hx : match r3 with | .ok xs => (∃ X : List EV, X.length = n /\ (∀ w'', wc.grownBy w'' (some p) -> OwnAt (kitEx W0) 63 wa.heap.size w'' (.slice A X.length cap) X) /\ X.map (·.t) = xs) /\ Below wa.heap.size wa wc | .err c => 1 <= c /\ zx W0 wc m c)
  (h : zx W0 w m 0) (hg : w.grownBy wc (some m.F)) (hwa : w.heap.size < wa.heap.size) (hbw : ∀ xs, r3 = .ok xs -> Below w.heap.size w wa) (w1 w' : World) (nA : Option Addr) (nc : Nat) (names : List ByteArray) (hn : NmIn w1 (w.heap.size + 1) w1.heap.size nA nc names) (h1 : wc.grownBy w1 (some p)) (h2 : w1.grownBy w' (some w.heap.size)) :
  ExPost W0 w m (mapF (fun xs => Ex.mk k dt0 s 0 names xs) r3) (.returned (.agg #[.int .i64 k, .int .i64 0, .int .i64 0, .string ⟨#[]⟩, .slice none 0 0, .string s, .int .i64 0, .slice nA names.length nc, .slice A n cap])) w' := by
 have hb1 : Below w.heap.size wc w1 := ⟨h1.os, h1.tape, h1.output, h1.size, fun k hk => h1.block k (Nat.lt_of_lt_of_le hk hg.size) (fun e => by have := Option.some.inj e; omega)⟩
 have hb2 : Below w.heap.size w1 w' := ⟨h2.os, h2.tape, h2.output, h2.size, fun k hk => h2.block k (Nat.lt_of_lt_of_le hk (Nat.le_trans hg.size h1.size)) (fun e => by have := Option.some.inj e; omega)⟩
 cases r3 with
 | ok xs =>
  obtain ⟨⟨X, hn', hO, rfl⟩, hb⟩ := hx
  subst hn'
  exact got_build (hO w1 h1) hwa (((hbw _ rfl).trans (hb.mono (Nat.le_of_lt hwa))).trans hb1) h2 k s 0 nA nc names hn
 | err c =>
  obtain ⟨e1, e2⟩ := h.later hx.2 hg (hb1.trans hb2)
  exact ⟨⟨k, 0, 0, ⟨#[]⟩, none, 0, 0, s, 0, nA, names.length, nc, A, n, cap, eC dt0, 0, 0⟩, rfl, hx.1, e1, e2⟩
theorem field_in {w wc : World} {p : Nat} {F : ByteArray} {t : TypeId} {u : Value} (hp : p < wc.heap.size) (hw : w.heap.size + 1 <= wc.heap.size) :
  NmIn ((wc.alloc (.cells #[.string F] t)).setCell ⟨p, 7, none⟩ u) (w.heap.size + 1) ((wc.alloc (.cells #[.string F] t)).setCell ⟨p, 7, none⟩ u).heap.size (some ⟨wc.heap.size, 0, none⟩) 1 [F] :=
 ⟨Nat.le_refl _, by unfold maxLen; omega, fun _ => ⟨wc.heap.size, 0, rfl, hw, by simp, by simp, fun i hi => by
  obtain rfl : i = 0 := by simp at hi; omega
  have h1 : (⟨p, 7, none⟩ : Addr) ≠ ⟨wc.heap.size, 0, none⟩ := by simp
  exact (World.cell?_setCell_other (h := h1) ..).trans (za _ _ _ 0)⟩⟩
theorem late9 {wc : World} {p g : Nat} {o : Obj} (hp : p < wc.heap.size) (hg : g < wc.heap.size) (u u0 u1 u2 u3 u4 u5 u6 u7 u8 : Value) :
  (((((((((((wc.alloc o).setCell ⟨p, 7, none⟩ u).setCell ⟨g, 0, none⟩ u0).setCell ⟨g, 1, none⟩ u1).setCell ⟨g, 2, none⟩ u2).setCell ⟨g, 3, none⟩ u3).setCell ⟨g, 4, none⟩ u4).setCell ⟨g, 5, none⟩ u5).setCell ⟨g, 6, none⟩ u6).setCell ⟨g, 7, none⟩ u7).setCell ⟨g, 8, none⟩ u8) = ((((((((((wc.setCell ⟨p, 7, none⟩ u).setCell ⟨g, 0, none⟩ u0).setCell ⟨g, 1, none⟩ u1).setCell ⟨g, 2, none⟩ u2).setCell ⟨g, 3, none⟩ u3).setCell ⟨g, 4, none⟩ u4).setCell ⟨g, 5, none⟩ u5).setCell ⟨g, 6, none⟩ u6).setCell ⟨g, 7, none⟩ u7).setCell ⟨g, 8, none⟩ u8).alloc o := by
 rw [World.setCell_alloc_past (hn := hp), World.setCell_alloc_past (hn := by simpa using hg), World.setCell_alloc_past (hn := by simpa using hg), World.setCell_alloc_past (hn := by simpa using hg), World.setCell_alloc_past (hn := by simpa using hg), World.setCell_alloc_past (hn := by simpa using hg), World.setCell_alloc_past (hn := by simpa using hg), World.setCell_alloc_past (hn := by simpa using hg), World.setCell_alloc_past (hn := by simpa using hg), World.setCell_alloc_past (hn := by simpa using hg)]
set_option maxHeartbeats 8000000 in
theorem record_any {W0 w : World} {m : Fm} {n : Nat} {rec : List ByteArray -> Dt -> Fd Ex} (he : ExprSays W0 m n rec) (h : zx W0 w m 0) (s : ByteArray) (hs : s.size <= maxLen) (A : Option Addr) (cap : Nat) (l : List Dt) (hl : DsAt W0 w m.F A cap l) (hgd : ∀ x ∈ l, Good n x) (hn : l.length <= 1048576) (B : Option Addr) (bc : Nat) (ls : List ByteArray) (hsc : ScAt w m.F B bc ls) (hls : ls.length <= 40) (hfd : ∀ x ∈ m.sh, ∀ f ∈ x.ss, 0 < f.size) :
  Calls Tryd.prog 69 #[.pointer (some ⟨m.F, 0, none⟩), .string s, .slice A l.length cap, .slice B ls.length bc] w (ExPost W0 w m (recF (rec ls) s l m.pl.shapes)) := by
 have H := Lib.hid h
 have HE := Lib.hid he
 have HSC := Lib.hid hsc
 have HL := Lib.hid hl
 have HGD := Lib.hid hgd
 have HFL := Lib.hid hfd
 have hlt := h.lt
 have hne := World.new_ne w _ h.c0
 have hbc := hsc.le
 have hcap := hl.le
 have hcapm := hl.cap_
 have hsle := h.sle
 have hscm := h.scap
 have hslm : m.sl <= 9223372036854775807 := by unfold maxLen at hscm; omega
 have c1 := h.c1
 obtain ⟨N, hN⟩ : ∃ N, m.sl = N := ⟨_, rfl⟩
 have HN := Lib.hid (show m.sh.length = N from by rw [h.s.at_.size, hN])
 rw [hN] at c1 hsle hslm
 obtain ⟨SA, hSA⟩ : ∃ SA, m.S = SA := ⟨_, rfl⟩
 rw [hSA] at c1
 have HSA := Lib.hid hSA
 unfold maxLen at hs
 obtain ⟨r, hr⟩ : ∃ r, recF (rec ls) s l m.pl.shapes = r := ⟨_, rfl⟩
 have HR := Lib.hid (show recF (rec ls) s l ((m.sh.map Shp.sh).drop 0) = r from hr)
 rw [hr]
 clear h hl he hgd hsc hr hN hSA hfd
 go_enter Tryd.func69, Tryd.ntmps69
 go_wp2_with fail
 have hW1 := (Below.refl w.heap.size w).alloc (Nat.le_refl _) (.cells #[.int .i64 0, .int .i64 0, .int .i64 0, .string ⟨#[]⟩, .slice none 0 0, .string ⟨#[]⟩, .int .i64 0, .slice none 0 0, .slice none 0 0] 63)
 go_loopg [23] N (fun g i wr => ∃ k : Nat, g = N - k /\ k <= N /\ i = .int .i64 k /\ recF (rec ls) s l ((m.sh.map Shp.sh).drop k) = r /\ Below (w.alloc (.cells #[.int .i64 0, .int .i64 0, .int .i64 0, .string ⟨#[]⟩, .slice none 0 0, .string ⟨#[]⟩, .int .i64 0, .slice none 0 0, .slice none 0 0] 63)).heap.size (w.alloc (.cells #[.int .i64 0, .int .i64 0, .int .i64 0, .string ⟨#[]⟩, .slice none 0 0, .string ⟨#[]⟩, .int .i64 0, .slice none 0 0, .slice none 0 0] 63)) wr)
 case atStart => exact ⟨0, by omega, by omega, rfl, HR.out, Below.refl _ _⟩
 obtain ⟨k, hg, hk, rfl, hrk, hb⟩ := hrel
 have HG := Lib.hid hg
 have HRK := Lib.hid hrk
 have HB := Lib.hid hb
 have HWR := Lib.hid (hW1.trans (hb.mono (by simp)))
 have HF := Lib.hid (H.out.next HWR.out)
 have hws : w.heap.size < wr.heap.size := Nat.lt_of_lt_of_le (by rw [World.size_alloc]; exact Nat.lt_succ_self _) hb.size
 obtain ⟨g1, g2⟩ := bcell hb
 clear hg hrk hb
 by_cases hlt2 : k < N
 ·
  have hkl : k < m.sh.length := by rw [HN.out]; exact hlt2
  have hkl2 : k < (m.sh.map Shp.sh).length := by simpa using hkl
  obtain ⟨b, o, hA, hbw, hrow⟩ := HF.out.s.at_.at_ (by have := HN.out; have := HF.out.s.at_.size; omega)
  have HX := Lib.hid (HF.out.s.at_.each m.sh[k] (List.getElem_mem hkl))
  have HFD := Lib.hid (HFL.out m.sh[k] (List.getElem_mem hkl))
  obtain ⟨r0, r1⟩ := hrow k hkl
  have HNO := Lib.hid (fun h => rec_none (rec := rec ls) (s := s) (rest := l) hkl2 h)
  have HCO := Lib.hid (fun a b c h => rec_count (rec := rec ls) (s := s) (rest := l) (a := a) (b := b) (c := c) hkl2 h)
  have HOK := Lib.hid (fun a b c h => rec_ok (rec := rec ls) (s := s) (rest := l) (a := a) (b := b) (c := c) hkl2 h)
  have hsh : (m.sh.map Shp.sh)[k] = (m.sh[k].name, m.sh[k].ss) := by rw [List.getElem_map]; rfl
  simp only [hsh] at HNO HCO HOK
  obtain rfl : SA = some ⟨b, o, none⟩ := HSA.out.symm.trans hA
  clear hrow hsh hA
  generalize m.sh[k] = x at r0 r1 HX HNO HCO HOK HFD
  obtain ⟨nm, xA, xl, xc, ss⟩ := x
  simp only at r0 r1 HNO HCO HOK HFD
  obtain ⟨T, hT⟩ : ∃ T : ByteArray, ⟨(Lib.trimPrefix s.data.toList nm.data.toList).toArray⟩ = T := ⟨_, rfl⟩
  obtain ⟨U, hU⟩ : ∃ U : ByteArray, ⟨(Lib.trimSuffix T.data.toList [33]).toArray⟩ = U := ⟨_, rfl⟩
  have hTs : T.size <= 9223372036854775807 := by
   have := trim_le s.data.toList nm.data.toList
   rw [<- hT]
   have e : (⟨(Lib.trimPrefix s.data.toList nm.data.toList).toArray⟩ : ByteArray).size = (Lib.trimPrefix s.data.toList nm.data.toList).length := by simp [ByteArray.size]
   have e2 : s.data.toList.length = s.size := (Lib.size_eq s).symm
   omega
  have HTR := Lib.hid (fun w' => Tryd.strings_TrimSuffix T ⟨#[33]⟩ w' hTs)
  have HCU := Lib.hid (fun w' => Tryd.strings_CutPrefix s nm w')
  rw [hT] at HCU
  rw [show (⟨#[33]⟩ : ByteArray).data.toList = [33] from rfl, hU] at HTR
  cases hpf : Lib.hasPrefix s.data.toList nm.data.toList
  all_goals rw [hpf] at HCU
  case false =>
   have HN2 := Lib.hid (HNO.out (op_miss hpf))
   clear hpf hT hU
   go_wp2_with fail
   refine (HCU.out _).mono ?_
   rintro e w5 ⟨rfl, rfl⟩
   go_wp2_with fail
   go_roundg (N - (k + 1))
   case measure => have := HG.out; omega
   case rel => exact ⟨k + 1, rfl, by omega, by go_num, by rw [<- HN2.out]; exact HRK.out, HB.out.trans (((Below.refl _ _).alloc (Nat.le_refl _) _).mono HB.out.size)⟩
  have HTL := Lib.hid (show s.toList = nm.toList ++ T.toList by rw [<- hT]; exact tail_of hpf)
  have HU := Lib.hid hU.symm
  clear hpf hT hU
  have hnrF : wr.heap.size ≠ m.F := by have := HF.out.lt; omega
  have hnrF2 : wr.heap.size + 1 ≠ m.F := by have := HF.out.lt; omega
  -- RCASES
  rcases Nat.eq_zero_or_pos T.size with h0 | h0
  ·
   have hE : T.toList.isEmpty = true := by rw [str_nil h0]; rfl
   have HOPM := Lib.hid (fun n => op_make (fs := ss) (n := n) HTL.out (str_nil h0))
   clear h0
   have HP := Lib.hid (HOPM.out l.length)
   by_cases hw : (l.length : Nat) ≠ l.length \/ 6 < (l.length : Nat)
   ·
    obtain rfl : r = .err 10 := by rw [<- HRK.out]; exact HCO.out _ _ _ HP.out hw
    have hw6 : 6 < l.length := by omega
    clear hw
    go_wp2_with fail
    refine (HCU.out _).mono ?_
    rintro e w5 ⟨rfl, rfl⟩
    go_wp2_with fail
    refine (HTR.out _).mono ?_
    rintro e w5 ⟨rfl, rfl⟩
    go_wp2_with fail
    refine (ze (HF.out.next (by (with_reducible repeat' (first | exact Below.refl _ _ | apply Below.drew | apply below_drewN | refine Below.alloc ?_ ?_ _)); all_goals (try simp); all_goals (try omega))) 10).mono ?_
    rintro e w2 ⟨rfl, hF, hg⟩
    have hgw : (w.alloc (.cells #[.int .i64 0, .int .i64 0, .int .i64 0, .string ⟨#[]⟩, .slice none 0 0, .string ⟨#[]⟩, .int .i64 0, .slice none 0 0, .slice none 0 0] 63)).grownBy w2 (some m.F) := ((zb HB.out _).trans (zb (by (with_reducible repeat' (first | exact Below.refl _ _ | apply Below.drew | apply below_drewN | refine Below.alloc ?_ ?_ _)); all_goals (try simp); all_goals (try omega)) _)).trans hg
    obtain ⟨g3, g4⟩ := gcell hgw
    have HFF := Lib.hid hF
    have HGG := Lib.hid hgw
    have hsz : w.heap.size < w2.heap.size := Nat.lt_of_lt_of_le (by rw [World.size_alloc]; exact Nat.lt_succ_self _) hgw.size
    clear hF hg hgw
    unfold evz EV.agg
    go_wp2_with fail
    exact bodyPost_ret (v := evz.agg) (by simp [results, Tryd.results69, go_sem, evz, EV.agg, g3, hne]) rfl (zo H.out HFF.out HGG.out (by decide) evz (za1 _ _ _ _ _ _ _ _ _ _ _))
   obtain ⟨r3, hr3⟩ : ∃ r3, allF (rec ls) l = r3 := ⟨_, rfl⟩
   have HRR := Lib.hid (show r = mapF (fun xs => .mk 11 dt0 nm 0 [] xs) r3 by rw [<- HRK.out, HOK.out _ _ _ HP.out hw, hr3])
   have HR3 := Lib.hid hr3
   have hw6 : ¬ 6 < l.length := by omega
   clear hw hr3
   go_wp2_with fail
   refine (HCU.out _).mono ?_
   rintro e w5 ⟨rfl, rfl⟩
   go_wp2_with fail
   refine (HTR.out _).mono ?_
   rintro e w5 ⟨rfl, rfl⟩
   go_upto_region 18 with fail
   go_cut [17] (fun v wx => Laid9 W0 wr m 11 nm l.length r3 v wx)
   case first =>
    go_region_held3 (fun w' => w'.cell? ⟨wr.heap.size, 0, none⟩ = some (.string nm)) (go_keep)
     (first | (go_at_call 68; refine (exprs_two HE.out A cap l ((HL.out.below HWR.out).below (by (with_reducible repeat' (first | exact Below.refl _ _ | apply Below.drew | apply below_drewN | refine Below.alloc ?_ ?_ _)); all_goals (try simp); all_goals (try omega))) HGD.out hn B bc ls ((HSC.out.below HWR.out).below (by (with_reducible repeat' (first | exact Below.refl _ _ | apply Below.drew | apply below_drewN | refine Below.alloc ?_ ?_ _)); all_goals (try simp); all_goals (try omega))) hls (Or.inl ⟨HF.out.next (by (with_reducible repeat' (first | exact Below.refl _ _ | apply Below.drew | apply below_drewN | refine Below.alloc ?_ ?_ _)); all_goals (try simp); all_goals (try omega)), HR3.out⟩)).mono ?_; rintro e w3 ⟨A3, cp3, rfl, hle3, hg3, hx3⟩; have m0 : w3.cell? ⟨wr.heap.size, 0, none⟩ = some (.string nm) := ((gcell hg3).1 wr.heap.size 0 (by first | (simp; done) | (simp; omega) | omega) hnrF).trans (by first | (simp; done) | assumption); obtain ⟨g3, g4⟩ := gcell hg3; have HX3 := Lib.hid hx3; have HG3 := Lib.hid hg3; clear hg3 hx3))
    all_goals (go_wp2_with fail)
    all_goals go_meet
    all_goals (first | (with_reducible refine laid9_after ?_ hle3 HG3.out HX3.out) | (with_reducible refine laid9_before ?_ ?_ ((Below.refl _ _).drew) hle3 HG3.out HX3.out HF.out.lt ⟨_, HF.out⟩) | (with_reducible refine laid9_before ?_ ?_ (Below.refl _ _) hle3 HG3.out HX3.out HF.out.lt ⟨_, HF.out⟩))
    all_goals (first | exact (by (with_reducible repeat' (first | exact Below.refl _ _ | apply Below.drew | apply below_drewN | refine Below.alloc ?_ ?_ _)); all_goals (try simp); all_goals (try omega)) | simp)
   obtain ⟨p, A3, cp3, rfl, hp, hle3, hN, hg3, hx3⟩ := hcut
   have hpw : w.heap.size ≠ p := by omega
   have hpF : p ≠ m.F := by omega
   have hwc : w.heap.size < wc.heap.size := Nat.lt_of_lt_of_le hws hg3.size
   obtain ⟨g3, g4⟩ := gcell hg3
   have q0 := hN.c0
   have q1 := hN.c1
   have q2 := hN.c2
   have q3 := hN.c3
   have q4 := hN.c4
   have q5 := hN.c5
   have q6 := hN.c6
   have q7 := hN.c7
   have q8 := hN.c8
   have qf := hN.fz
   have hqlt := hN.lt
   have R : ∀ j, wc.cell? ⟨w.heap.size, j, none⟩ = (w.alloc (.cells #[.int .i64 0, .int .i64 0, .int .i64 0, .string ⟨#[]⟩, .slice none 0 0, .string ⟨#[]⟩, .int .i64 0, .slice none 0 0, .slice none 0 0] 63)).cell? ⟨w.heap.size, j, none⟩ := fun j => (g3 _ j hws hne).trans (g1 _ j (by rw [World.size_alloc]; exact Nat.lt_succ_self _))
   have RF : ∀ j, wc.frozen? ⟨w.heap.size, j, none⟩ = false := fun j => ((g4 _ j hws hne).trans (g2 _ j (by rw [World.size_alloc]; exact Nat.lt_succ_self _))).trans (by simp)
   have HFIN := Lib.hid (rec_fin (w := w) (wc := wc) (wa := wr) (p := p) (s := nm) (k := 11) (A := A3) (cap := cp3) (n := l.length) (r3 := r3) (by omega) hx3 H.out ((zb HWR.out _).trans hg3) hws (fun _ _ => HWR.out))
   clear hN hg3 hx3
   go_wp2_with fail
   exact bodyPost_ret (v := .agg #[.int .i64 11, .int .i64 0, .int .i64 0, .string ⟨#[]⟩, .slice none 0 0, .string nm, .int .i64 0, .slice none 0 0, .slice A3 l.length cp3]) (by simp [results, Tryd.results69, go_sem, R]) rfl (by rw [HRR.out]; exact HFIN.out wc _ none 0 [] (NmIn.nil _ _ _) (World.grownBy.rfl' _ _) (za1 _ _ _ _ _ _ _ _ _ _ _))
  ·
   have hE : T.toList.isEmpty = false := str_empty h0
   by_cases hq : T.toList = [63]
   ·
    have hQ : (T.toList == [63]) = true := by rw [beq_iff_eq]; exact hq
    have HOPM := Lib.hid (fun n => op_is (fs := ss) (n := n) HTL.out hq)
    clear hq
    have HP := Lib.hid (HOPM.out l.length)
    by_cases hw : (1 : Nat) ≠ l.length \/ 6 < (1 : Nat)
    ·
     obtain rfl : r = .err 10 := by rw [<- HRK.out]; exact HCO.out _ _ _ HP.out hw
     have hwb : ((1 : Int) != (l.length : Int)) = true := by rw [bne_iff_ne]; omega
     clear hw
     go_wp2_with fail
     refine (HCU.out _).mono ?_
     rintro e w5 ⟨rfl, rfl⟩
     go_wp2_with fail
     refine (HTR.out _).mono ?_
     rintro e w5 ⟨rfl, rfl⟩
     go_wp2_with fail
     refine (ze (HF.out.next (by (with_reducible repeat' (first | exact Below.refl _ _ | apply Below.drew | apply below_drewN | refine Below.alloc ?_ ?_ _)); all_goals (try simp); all_goals (try omega))) 10).mono ?_
     rintro e w2 ⟨rfl, hF, hg⟩
     have hgw : (w.alloc (.cells #[.int .i64 0, .int .i64 0, .int .i64 0, .string ⟨#[]⟩, .slice none 0 0, .string ⟨#[]⟩, .int .i64 0, .slice none 0 0, .slice none 0 0] 63)).grownBy w2 (some m.F) := ((zb HB.out _).trans (zb (by (with_reducible repeat' (first | exact Below.refl _ _ | apply Below.drew | apply below_drewN | refine Below.alloc ?_ ?_ _)); all_goals (try simp); all_goals (try omega)) _)).trans hg
     obtain ⟨g3, g4⟩ := gcell hgw
     have HFF := Lib.hid hF
     have HGG := Lib.hid hgw
     have hsz : w.heap.size < w2.heap.size := Nat.lt_of_lt_of_le (by rw [World.size_alloc]; exact Nat.lt_succ_self _) hgw.size
     clear hF hg hgw
     unfold evz EV.agg
     go_wp2_with fail
     exact bodyPost_ret (v := evz.agg) (by simp [results, Tryd.results69, go_sem, evz, EV.agg, g3, hne]) rfl (zo H.out HFF.out HGG.out (by decide) evz (za1 _ _ _ _ _ _ _ _ _ _ _))
    obtain ⟨r3, hr3⟩ : ∃ r3, allF (rec ls) l = r3 := ⟨_, rfl⟩
    have HRR := Lib.hid (show r = mapF (fun xs => .mk 12 dt0 nm 0 [] xs) r3 by rw [<- HRK.out, HOK.out _ _ _ HP.out hw, hr3])
    have HR3 := Lib.hid hr3
    have hwb : ((1 : Int) != (l.length : Int)) = false := by rw [bne_eq_false_iff_eq]; omega
    clear hw hr3
    go_wp2_with fail
    refine (HCU.out _).mono ?_
    rintro e w5 ⟨rfl, rfl⟩
    go_wp2_with fail
    refine (HTR.out _).mono ?_
    rintro e w5 ⟨rfl, rfl⟩
    go_upto_region 18 with fail
    go_cut [17] (fun v wx => Laid9 W0 wr m 12 nm l.length r3 v wx)
    case first =>
     go_region_held3 (fun w' => w'.cell? ⟨wr.heap.size, 0, none⟩ = some (.string nm)) (go_keep)
      (first | (go_at_call 68; refine (exprs_two HE.out A cap l ((HL.out.below HWR.out).below (by (with_reducible repeat' (first | exact Below.refl _ _ | apply Below.drew | apply below_drewN | refine Below.alloc ?_ ?_ _)); all_goals (try simp); all_goals (try omega))) HGD.out hn B bc ls ((HSC.out.below HWR.out).below (by (with_reducible repeat' (first | exact Below.refl _ _ | apply Below.drew | apply below_drewN | refine Below.alloc ?_ ?_ _)); all_goals (try simp); all_goals (try omega))) hls (Or.inl ⟨HF.out.next (by (with_reducible repeat' (first | exact Below.refl _ _ | apply Below.drew | apply below_drewN | refine Below.alloc ?_ ?_ _)); all_goals (try simp); all_goals (try omega)), HR3.out⟩)).mono ?_; rintro e w3 ⟨A3, cp3, rfl, hle3, hg3, hx3⟩; have m0 : w3.cell? ⟨wr.heap.size, 0, none⟩ = some (.string nm) := ((gcell hg3).1 wr.heap.size 0 (by first | (simp; done) | (simp; omega) | omega) hnrF).trans (by first | (simp; done) | assumption); obtain ⟨g3, g4⟩ := gcell hg3; have HX3 := Lib.hid hx3; have HG3 := Lib.hid hg3; clear hg3 hx3))
     all_goals (go_wp2_with fail)
     all_goals go_meet
     all_goals (first | (with_reducible refine laid9_after ?_ hle3 HG3.out HX3.out) | (with_reducible refine laid9_before ?_ ?_ ((Below.refl _ _).drew) hle3 HG3.out HX3.out HF.out.lt ⟨_, HF.out⟩) | (with_reducible refine laid9_before ?_ ?_ (Below.refl _ _) hle3 HG3.out HX3.out HF.out.lt ⟨_, HF.out⟩))
     all_goals (first | exact (by (with_reducible repeat' (first | exact Below.refl _ _ | apply Below.drew | apply below_drewN | refine Below.alloc ?_ ?_ _)); all_goals (try simp); all_goals (try omega)) | simp)
    obtain ⟨p, A3, cp3, rfl, hp, hle3, hN, hg3, hx3⟩ := hcut
    have hpw : w.heap.size ≠ p := by omega
    have hpF : p ≠ m.F := by omega
    have hwc : w.heap.size < wc.heap.size := Nat.lt_of_lt_of_le hws hg3.size
    obtain ⟨g3, g4⟩ := gcell hg3
    have q0 := hN.c0
    have q1 := hN.c1
    have q2 := hN.c2
    have q3 := hN.c3
    have q4 := hN.c4
    have q5 := hN.c5
    have q6 := hN.c6
    have q7 := hN.c7
    have q8 := hN.c8
    have qf := hN.fz
    have hqlt := hN.lt
    have R : ∀ j, wc.cell? ⟨w.heap.size, j, none⟩ = (w.alloc (.cells #[.int .i64 0, .int .i64 0, .int .i64 0, .string ⟨#[]⟩, .slice none 0 0, .string ⟨#[]⟩, .int .i64 0, .slice none 0 0, .slice none 0 0] 63)).cell? ⟨w.heap.size, j, none⟩ := fun j => (g3 _ j hws hne).trans (g1 _ j (by rw [World.size_alloc]; exact Nat.lt_succ_self _))
    have RF : ∀ j, wc.frozen? ⟨w.heap.size, j, none⟩ = false := fun j => ((g4 _ j hws hne).trans (g2 _ j (by rw [World.size_alloc]; exact Nat.lt_succ_self _))).trans (by simp)
    have HFIN := Lib.hid (rec_fin (w := w) (wc := wc) (wa := wr) (p := p) (s := nm) (k := 12) (A := A3) (cap := cp3) (n := l.length) (r3 := r3) (by omega) hx3 H.out ((zb HWR.out _).trans hg3) hws (fun _ _ => HWR.out))
    clear hN hg3 hx3
    go_wp2_with fail
    exact bodyPost_ret (v := .agg #[.int .i64 12, .int .i64 0, .int .i64 0, .string ⟨#[]⟩, .slice none 0 0, .string nm, .int .i64 0, .slice none 0 0, .slice A3 l.length cp3]) (by simp [results, Tryd.results69, go_sem, R]) rfl (by rw [HRR.out]; exact HFIN.out wc _ none 0 [] (NmIn.nil _ _ _) (World.grownBy.rfl' _ _) (za1 _ _ _ _ _ _ _ _ _ _ _))
   have hQ : (T.toList == [63]) = false := by rw [beq_eq_false_iff_ne]; exact hq
   have HQ := Lib.hid hq
   clear hq
   by_cases h45 : T[0] = 45
   ·
    have h45i : (((T[0]).toNat : Int) == 45) = true := by rw [h45]; rfl
    have H45 := Lib.hid h45
    clear h45
    cases hin : inL ss (T.extract 1 T.size)
    case true =>
     have HCT := Lib.hid (fun w' hst => contains_true (s := T.extract 1 T.size) xA xl xc ss w' HX.out.cap_ HX.out.le hst hin)
     have HOPM := Lib.hid (fun n => op_get (n := n) HTL.out h0 H45.out hin)
     have HFE := Lib.hid (str_empty (HFD.out _ (inL_mem.1 hin)))
     clear hin
     have HP := Lib.hid (HOPM.out l.length)
     by_cases hw : (1 : Nat) ≠ l.length \/ 6 < (1 : Nat)
     ·
      obtain rfl : r = .err 10 := by rw [<- HRK.out]; exact HCO.out _ _ _ HP.out hw
      have hwb : ((1 : Int) != (l.length : Int)) = true := by rw [bne_iff_ne]; omega
      clear hw
      go_wp2_with fail
      refine (HCU.out _).mono ?_
      rintro e w5 ⟨rfl, rfl⟩
      go_wp2_with fail
      refine (HTR.out _).mono ?_
      rintro e w5 ⟨rfl, rfl⟩
      go_wp2_with fail
      go_quiet ((go_at_call 11; exact zr (HCT.out _ (HX.out.strs.below (by (with_reducible repeat' (first | exact Below.refl _ _ | apply Below.drew | apply below_drewN | refine Below.alloc ?_ ?_ _)); all_goals (try simp); all_goals (try omega))))))
      go_wp2_with fail
      go_quiet (fail)
      go_wp2_with fail
      refine (ze (HF.out.next (by (with_reducible repeat' (first | exact Below.refl _ _ | apply Below.drew | apply below_drewN | refine Below.alloc ?_ ?_ _)); all_goals (try simp); all_goals (try omega))) 10).mono ?_
      rintro e w2 ⟨rfl, hF, hg⟩
      have hgw : (w.alloc (.cells #[.int .i64 0, .int .i64 0, .int .i64 0, .string ⟨#[]⟩, .slice none 0 0, .string ⟨#[]⟩, .int .i64 0, .slice none 0 0, .slice none 0 0] 63)).grownBy w2 (some m.F) := ((zb HB.out _).trans (zb (by (with_reducible repeat' (first | exact Below.refl _ _ | apply Below.drew | apply below_drewN | refine Below.alloc ?_ ?_ _)); all_goals (try simp); all_goals (try omega)) _)).trans hg
      obtain ⟨g3, g4⟩ := gcell hgw
      have HFF := Lib.hid hF
      have HGG := Lib.hid hgw
      have hsz : w.heap.size < w2.heap.size := Nat.lt_of_lt_of_le (by rw [World.size_alloc]; exact Nat.lt_succ_self _) hgw.size
      clear hF hg hgw
      unfold evz EV.agg
      go_wp2_with fail
      exact bodyPost_ret (v := evz.agg) (by simp [results, Tryd.results69, go_sem, evz, EV.agg, g3, hne]) rfl (zo H.out HFF.out HGG.out (by decide) evz (za1 _ _ _ _ _ _ _ _ _ _ _))
     obtain ⟨r3, hr3⟩ : ∃ r3, allF (rec ls) l = r3 := ⟨_, rfl⟩
     have HRR := Lib.hid (show r = mapF (fun xs => .mk 13 dt0 nm 0 [T.extract 1 T.size] xs) r3 by rw [<- HRK.out, HOK.out _ _ _ HP.out hw, hr3])
     have HR3 := Lib.hid hr3
     have hwb : ((1 : Int) != (l.length : Int)) = false := by rw [bne_eq_false_iff_eq]; omega
     clear hw hr3
     go_wp2_with fail
     refine (HCU.out _).mono ?_
     rintro e w5 ⟨rfl, rfl⟩
     go_wp2_with fail
     refine (HTR.out _).mono ?_
     rintro e w5 ⟨rfl, rfl⟩
     go_wp2_with fail
     go_quiet ((go_at_call 11; exact zr (HCT.out _ (HX.out.strs.below (by (with_reducible repeat' (first | exact Below.refl _ _ | apply Below.drew | apply below_drewN | refine Below.alloc ?_ ?_ _)); all_goals (try simp); all_goals (try omega))))))
     go_wp2_with fail
     go_quiet (fail)
     go_upto_region 18 with fail
     go_cut [17] (fun v wx => Laid9 W0 wr m 13 nm l.length r3 v wx)
     case first =>
      go_region_held3 (fun w' => w'.cell? ⟨wr.heap.size, 0, none⟩ = some (.string nm)) (go_keep)
       (first | (go_at_call 68; refine (exprs_two HE.out A cap l ((HL.out.below HWR.out).below (by (with_reducible repeat' (first | exact Below.refl _ _ | apply Below.drew | apply below_drewN | refine Below.alloc ?_ ?_ _)); all_goals (try simp); all_goals (try omega))) HGD.out hn B bc ls ((HSC.out.below HWR.out).below (by (with_reducible repeat' (first | exact Below.refl _ _ | apply Below.drew | apply below_drewN | refine Below.alloc ?_ ?_ _)); all_goals (try simp); all_goals (try omega))) hls (Or.inl ⟨HF.out.next (by (with_reducible repeat' (first | exact Below.refl _ _ | apply Below.drew | apply below_drewN | refine Below.alloc ?_ ?_ _)); all_goals (try simp); all_goals (try omega)), HR3.out⟩)).mono ?_; rintro e w3 ⟨A3, cp3, rfl, hle3, hg3, hx3⟩; have m0 : w3.cell? ⟨wr.heap.size, 0, none⟩ = some (.string nm) := ((gcell hg3).1 wr.heap.size 0 (by first | (simp; done) | (simp; omega) | omega) hnrF).trans (by first | (simp; done) | assumption); obtain ⟨g3, g4⟩ := gcell hg3; have HX3 := Lib.hid hx3; have HG3 := Lib.hid hg3; clear hg3 hx3))
      all_goals (go_wp2_with fail)
      all_goals go_meet
      all_goals (first | (with_reducible refine laid9_after ?_ hle3 HG3.out HX3.out) | (with_reducible refine laid9_before ?_ ?_ ((Below.refl _ _).drew) hle3 HG3.out HX3.out HF.out.lt ⟨_, HF.out⟩) | (with_reducible refine laid9_before ?_ ?_ (Below.refl _ _) hle3 HG3.out HX3.out HF.out.lt ⟨_, HF.out⟩))
      all_goals (first | exact (by (with_reducible repeat' (first | exact Below.refl _ _ | apply Below.drew | apply below_drewN | refine Below.alloc ?_ ?_ _)); all_goals (try simp); all_goals (try omega)) | simp)
     obtain ⟨p, A3, cp3, rfl, hp, hle3, hN, hg3, hx3⟩ := hcut
     have hpw : w.heap.size ≠ p := by omega
     have hpF : p ≠ m.F := by omega
     have hwc : w.heap.size < wc.heap.size := Nat.lt_of_lt_of_le hws hg3.size
     obtain ⟨g3, g4⟩ := gcell hg3
     have q0 := hN.c0
     have q1 := hN.c1
     have q2 := hN.c2
     have q3 := hN.c3
     have q4 := hN.c4
     have q5 := hN.c5
     have q6 := hN.c6
     have q7 := hN.c7
     have q8 := hN.c8
     have qf := hN.fz
     have hqlt := hN.lt
     have R : ∀ j, wc.cell? ⟨w.heap.size, j, none⟩ = (w.alloc (.cells #[.int .i64 0, .int .i64 0, .int .i64 0, .string ⟨#[]⟩, .slice none 0 0, .string ⟨#[]⟩, .int .i64 0, .slice none 0 0, .slice none 0 0] 63)).cell? ⟨w.heap.size, j, none⟩ := fun j => (g3 _ j hws hne).trans (g1 _ j (by rw [World.size_alloc]; exact Nat.lt_succ_self _))
     have RF : ∀ j, wc.frozen? ⟨w.heap.size, j, none⟩ = false := fun j => ((g4 _ j hws hne).trans (g2 _ j (by rw [World.size_alloc]; exact Nat.lt_succ_self _))).trans (by simp)
     have HFIN := Lib.hid (rec_fin (w := w) (wc := wc) (wa := wr) (p := p) (s := nm) (k := 13) (A := A3) (cap := cp3) (n := l.length) (r3 := r3) (by omega) hx3 H.out ((zb HWR.out _).trans hg3) hws (fun _ _ => HWR.out))
     clear hN hg3 hx3
     have hFE : (T.extract 1 T.size).toList.isEmpty = false := HFE.out
     have hFE2 : ((T.extract 1 T.size).toList == []) = false := by rw [beq_eq_false_iff_ne]; intro e; rw [e] at hFE; cases hFE
     have hpc : p ≠ wc.heap.size := by omega
     have HNM := Lib.hid (field_in (w := w) (wc := wc) (p := p) (F := T.extract 1 T.size) (t := 9) (u := .slice (some ⟨wc.heap.size, 0, none⟩) 1 1) hqlt (by omega))
     go_wp2_with fail
     rw [<- late9 hqlt hwc]
     exact bodyPost_ret (v := .agg #[.int .i64 13, .int .i64 0, .int .i64 0, .string ⟨#[]⟩, .slice none 0 0, .string nm, .int .i64 0, .slice (some ⟨wc.heap.size, 0, none⟩) 1 1, .slice A3 l.length cp3]) (by simp [results, Tryd.results69, go_sem, R, hwc, hqlt]) rfl (by rw [HRR.out]; exact HFIN.out _ _ _ _ _ (HNM.out) ((zb ((Below.refl wc.heap.size wc).alloc (Nat.le_refl _) _) _).trans (zd _ _ _ _)) (za1 _ _ _ _ _ _ _ _ _ _ _))
    have HCT := Lib.hid (fun w' hst => contains_false (s := T.extract 1 T.size) xA xl xc ss w' HX.out.cap_ HX.out.le hst hin)
    cases hne' : (U.toList == T.toList)
    case true =>
     have hub : (U.toList != T.toList) = false := by rw [bne, hne']; rfl
     have HN2 := Lib.hid (HNO.out (op_same HTL.out h0 H45.out hin HU.out (beq_iff_eq.1 hne')))
     have hue : (U.toList == T.toList) = true := hne'
     clear hin hne'
     go_wp2_with fail
     refine (HCU.out _).mono ?_
     rintro e w5 ⟨rfl, rfl⟩
     go_wp2_with fail
     refine (HTR.out _).mono ?_
     rintro e w5 ⟨rfl, rfl⟩
     go_wp2_with fail
     go_quiet ((go_at_call 11; exact zr (HCT.out _ (HX.out.strs.below (by (with_reducible repeat' (first | exact Below.refl _ _ | apply Below.drew | apply below_drewN | refine Below.alloc ?_ ?_ _)); all_goals (try simp); all_goals (try omega))))))
     go_wp2_with fail
     go_quiet (fail)
     go_wp2_with fail
     go_roundg (N - (k + 1))
     case measure => have := HG.out; omega
     case rel => exact ⟨k + 1, rfl, by omega, by go_num, by rw [<- HN2.out]; exact HRK.out, HB.out.trans ((show Below wr.heap.size wr _ from (by (with_reducible repeat' (first | exact Below.refl _ _ | apply Below.drew | apply below_drewN | refine Below.alloc ?_ ?_ _)); all_goals (try simp); all_goals (try omega))).mono HB.out.size)⟩
    have hub : (U.toList != T.toList) = true := by rw [bne, hne']; rfl
    have hne2 : U.toList ≠ T.toList := beq_eq_false_iff_ne.1 hne'
    have hue : (U.toList == T.toList) = false := hne'
    have hu0 : 0 < U.size := (bare_first HU.out hne2 h0 H45.out).1
    cases hin2 : inL ss (U.extract 1 U.size)
    case true =>
     have HCT2 := Lib.hid (fun w' hst => contains_true (s := U.extract 1 U.size) xA xl xc ss w' HX.out.cap_ HX.out.le hst hin2)
     have HOPM := Lib.hid (fun n => op_put (n := n) HTL.out h0 H45.out hin HU.out hne2 hin2)
     have HFE := Lib.hid (str_empty (HFD.out _ (inL_mem.1 hin2)))
     clear hin hin2 hne' hne2
     have HP := Lib.hid (HOPM.out l.length)
     by_cases hw : (2 : Nat) ≠ l.length \/ 6 < (2 : Nat)
     ·
      obtain rfl : r = .err 10 := by rw [<- HRK.out]; exact HCO.out _ _ _ HP.out hw
      have hwb : ((2 : Int) != (l.length : Int)) = true := by rw [bne_iff_ne]; omega
      clear hw
      go_wp2_with fail
      refine (HCU.out _).mono ?_
      rintro e w5 ⟨rfl, rfl⟩
      go_wp2_with fail
      refine (HTR.out _).mono ?_
      rintro e w5 ⟨rfl, rfl⟩
      go_wp2_with fail
      go_quiet ((go_at_call 11; exact zr (HCT.out _ (HX.out.strs.below (by (with_reducible repeat' (first | exact Below.refl _ _ | apply Below.drew | apply below_drewN | refine Below.alloc ?_ ?_ _)); all_goals (try simp); all_goals (try omega))))))
      go_wp2_with fail
      go_quiet ((go_at_call 11; first | exact quiet_add_left (HCT2.out _ (HX.out.strs.below (by (with_reducible repeat' (first | exact Below.refl _ _ | apply Below.drew | apply below_drewN | refine Below.alloc ?_ ?_ _)); all_goals (try simp); all_goals (try omega)))) | exact zr (HCT2.out _ (HX.out.strs.below (by (with_reducible repeat' (first | exact Below.refl _ _ | apply Below.drew | apply below_drewN | refine Below.alloc ?_ ?_ _)); all_goals (try simp); all_goals (try omega))))))
      go_wp2_with fail
      go_quiet (fail)
      go_wp2_with fail
      refine (ze (HF.out.next (by (with_reducible repeat' (first | exact Below.refl _ _ | apply Below.drew | apply below_drewN | refine Below.alloc ?_ ?_ _)); all_goals (try simp); all_goals (try omega))) 10).mono ?_
      rintro e w2 ⟨rfl, hF, hg⟩
      have hgw : (w.alloc (.cells #[.int .i64 0, .int .i64 0, .int .i64 0, .string ⟨#[]⟩, .slice none 0 0, .string ⟨#[]⟩, .int .i64 0, .slice none 0 0, .slice none 0 0] 63)).grownBy w2 (some m.F) := ((zb HB.out _).trans (zb (by (with_reducible repeat' (first | exact Below.refl _ _ | apply Below.drew | apply below_drewN | refine Below.alloc ?_ ?_ _)); all_goals (try simp); all_goals (try omega)) _)).trans hg
      obtain ⟨g3, g4⟩ := gcell hgw
      have HFF := Lib.hid hF
      have HGG := Lib.hid hgw
      have hsz : w.heap.size < w2.heap.size := Nat.lt_of_lt_of_le (by rw [World.size_alloc]; exact Nat.lt_succ_self _) hgw.size
      clear hF hg hgw
      unfold evz EV.agg
      go_wp2_with fail
      exact bodyPost_ret (v := evz.agg) (by simp [results, Tryd.results69, go_sem, evz, EV.agg, g3, hne]) rfl (zo H.out HFF.out HGG.out (by decide) evz (za1 _ _ _ _ _ _ _ _ _ _ _))
     obtain ⟨r3, hr3⟩ : ∃ r3, allF (rec ls) l = r3 := ⟨_, rfl⟩
     have HRR := Lib.hid (show r = mapF (fun xs => .mk 14 dt0 nm 0 [U.extract 1 U.size] xs) r3 by rw [<- HRK.out, HOK.out _ _ _ HP.out hw, hr3])
     have HR3 := Lib.hid hr3
     have hwb : ((2 : Int) != (l.length : Int)) = false := by rw [bne_eq_false_iff_eq]; omega
     clear hw hr3
     go_wp2_with fail
     refine (HCU.out _).mono ?_
     rintro e w5 ⟨rfl, rfl⟩
     go_wp2_with fail
     refine (HTR.out _).mono ?_
     rintro e w5 ⟨rfl, rfl⟩
     go_wp2_with fail
     go_quiet ((go_at_call 11; exact zr (HCT.out _ (HX.out.strs.below (by (with_reducible repeat' (first | exact Below.refl _ _ | apply Below.drew | apply below_drewN | refine Below.alloc ?_ ?_ _)); all_goals (try simp); all_goals (try omega))))))
     go_wp2_with fail
     go_quiet ((go_at_call 11; first | exact quiet_add_left (HCT2.out _ (HX.out.strs.below (by (with_reducible repeat' (first | exact Below.refl _ _ | apply Below.drew | apply below_drewN | refine Below.alloc ?_ ?_ _)); all_goals (try simp); all_goals (try omega)))) | exact zr (HCT2.out _ (HX.out.strs.below (by (with_reducible repeat' (first | exact Below.refl _ _ | apply Below.drew | apply below_drewN | refine Below.alloc ?_ ?_ _)); all_goals (try simp); all_goals (try omega))))))
     go_wp2_with fail
     go_quiet (fail)
     go_upto_region 18 with fail
     go_cut [17] (fun v wx => Laid9 W0 wr m 14 nm l.length r3 v wx)
     case first =>
      go_region_held3 (fun w' => w'.cell? ⟨wr.heap.size, 0, none⟩ = some (.string nm)) (go_keep)
       (first | (go_at_call 68; refine (exprs_two HE.out A cap l ((HL.out.below HWR.out).below (by (with_reducible repeat' (first | exact Below.refl _ _ | apply Below.drew | apply below_drewN | refine Below.alloc ?_ ?_ _)); all_goals (try simp); all_goals (try omega))) HGD.out hn B bc ls ((HSC.out.below HWR.out).below (by (with_reducible repeat' (first | exact Below.refl _ _ | apply Below.drew | apply below_drewN | refine Below.alloc ?_ ?_ _)); all_goals (try simp); all_goals (try omega))) hls (Or.inl ⟨HF.out.next (by (with_reducible repeat' (first | exact Below.refl _ _ | apply Below.drew | apply below_drewN | refine Below.alloc ?_ ?_ _)); all_goals (try simp); all_goals (try omega)), HR3.out⟩)).mono ?_; rintro e w3 ⟨A3, cp3, rfl, hle3, hg3, hx3⟩; have m0 : w3.cell? ⟨wr.heap.size, 0, none⟩ = some (.string nm) := ((gcell hg3).1 wr.heap.size 0 (by first | (simp; done) | (simp; omega) | omega) hnrF).trans (by first | (simp; done) | assumption); obtain ⟨g3, g4⟩ := gcell hg3; have HX3 := Lib.hid hx3; have HG3 := Lib.hid hg3; clear hg3 hx3))
      all_goals (go_wp2_with fail)
      all_goals go_meet
      all_goals (first | (with_reducible refine laid9_after ?_ hle3 HG3.out HX3.out) | (with_reducible refine laid9_before ?_ ?_ ((Below.refl _ _).drew) hle3 HG3.out HX3.out HF.out.lt ⟨_, HF.out⟩) | (with_reducible refine laid9_before ?_ ?_ (Below.refl _ _) hle3 HG3.out HX3.out HF.out.lt ⟨_, HF.out⟩))
      all_goals (first | exact (by (with_reducible repeat' (first | exact Below.refl _ _ | apply Below.drew | apply below_drewN | refine Below.alloc ?_ ?_ _)); all_goals (try simp); all_goals (try omega)) | simp)
     obtain ⟨p, A3, cp3, rfl, hp, hle3, hN, hg3, hx3⟩ := hcut
     have hpw : w.heap.size ≠ p := by omega
     have hpF : p ≠ m.F := by omega
     have hwc : w.heap.size < wc.heap.size := Nat.lt_of_lt_of_le hws hg3.size
     obtain ⟨g3, g4⟩ := gcell hg3
     have q0 := hN.c0
     have q1 := hN.c1
     have q2 := hN.c2
     have q3 := hN.c3
     have q4 := hN.c4
     have q5 := hN.c5
     have q6 := hN.c6
     have q7 := hN.c7
     have q8 := hN.c8
     have qf := hN.fz
     have hqlt := hN.lt
     have R : ∀ j, wc.cell? ⟨w.heap.size, j, none⟩ = (w.alloc (.cells #[.int .i64 0, .int .i64 0, .int .i64 0, .string ⟨#[]⟩, .slice none 0 0, .string ⟨#[]⟩, .int .i64 0, .slice none 0 0, .slice none 0 0] 63)).cell? ⟨w.heap.size, j, none⟩ := fun j => (g3 _ j hws hne).trans (g1 _ j (by rw [World.size_alloc]; exact Nat.lt_succ_self _))
     have RF : ∀ j, wc.frozen? ⟨w.heap.size, j, none⟩ = false := fun j => ((g4 _ j hws hne).trans (g2 _ j (by rw [World.size_alloc]; exact Nat.lt_succ_self _))).trans (by simp)
     have HFIN := Lib.hid (rec_fin (w := w) (wc := wc) (wa := wr) (p := p) (s := nm) (k := 14) (A := A3) (cap := cp3) (n := l.length) (r3 := r3) (by omega) hx3 H.out ((zb HWR.out _).trans hg3) hws (fun _ _ => HWR.out))
     clear hN hg3 hx3
     have hFE : (U.extract 1 U.size).toList.isEmpty = false := HFE.out
     have hFE2 : ((U.extract 1 U.size).toList == []) = false := by rw [beq_eq_false_iff_ne]; intro e; rw [e] at hFE; cases hFE
     have hpc : p ≠ wc.heap.size := by omega
     have HNM := Lib.hid (field_in (w := w) (wc := wc) (p := p) (F := U.extract 1 U.size) (t := 9) (u := .slice (some ⟨wc.heap.size, 0, none⟩) 1 1) hqlt (by omega))
     go_wp2_with fail
     rw [<- late9 hqlt hwc]
     exact bodyPost_ret (v := .agg #[.int .i64 14, .int .i64 0, .int .i64 0, .string ⟨#[]⟩, .slice none 0 0, .string nm, .int .i64 0, .slice (some ⟨wc.heap.size, 0, none⟩) 1 1, .slice A3 l.length cp3]) (by simp [results, Tryd.results69, go_sem, R, hwc, hqlt]) rfl (by rw [HRR.out]; exact HFIN.out _ _ _ _ _ (HNM.out) ((zb ((Below.refl wc.heap.size wc).alloc (Nat.le_refl _) _) _).trans (zd _ _ _ _)) (za1 _ _ _ _ _ _ _ _ _ _ _))
    have HCT2 := Lib.hid (fun w' hst => contains_false (s := U.extract 1 U.size) xA xl xc ss w' HX.out.cap_ HX.out.le hst hin2)
    have HN2 := Lib.hid (HNO.out (op_lack HTL.out h0 H45.out hin HU.out hne2 hin2))
    clear hin hin2 hne' hne2
    go_wp2_with fail
    refine (HCU.out _).mono ?_
    rintro e w5 ⟨rfl, rfl⟩
    go_wp2_with fail
    refine (HTR.out _).mono ?_
    rintro e w5 ⟨rfl, rfl⟩
    go_wp2_with fail
    go_quiet ((go_at_call 11; exact zr (HCT.out _ (HX.out.strs.below (by (with_reducible repeat' (first | exact Below.refl _ _ | apply Below.drew | apply below_drewN | refine Below.alloc ?_ ?_ _)); all_goals (try simp); all_goals (try omega))))))
    go_wp2_with fail
    go_quiet ((go_at_call 11; first | exact quiet_add_left (HCT2.out _ (HX.out.strs.below (by (with_reducible repeat' (first | exact Below.refl _ _ | apply Below.drew | apply below_drewN | refine Below.alloc ?_ ?_ _)); all_goals (try simp); all_goals (try omega)))) | exact zr (HCT2.out _ (HX.out.strs.below (by (with_reducible repeat' (first | exact Below.refl _ _ | apply Below.drew | apply below_drewN | refine Below.alloc ?_ ?_ _)); all_goals (try simp); all_goals (try omega))))))
    go_wp2_with fail
    go_roundg (N - (k + 1))
    case measure => have := HG.out; omega
    case rel => exact ⟨k + 1, rfl, by omega, by go_num, by rw [<- HN2.out]; exact HRK.out, HB.out.trans ((show Below wr.heap.size wr _ from (by (with_reducible repeat' (first | exact Below.refl _ _ | apply Below.drew | apply below_drewN | refine Below.alloc ?_ ?_ _)); all_goals (try simp); all_goals (try omega))).mono HB.out.size)⟩
   have h45i : (((T[0]).toNat : Int) == 45) = false := by
    rw [beq_eq_false_iff_ne]
    intro e
    have e2 : (T[0]).toNat = 45 := by omega
    exact h45 (UInt8.toNat_inj.1 (e2.trans rfl))
   have HN2 := Lib.hid (HNO.out (op_no45 HTL.out h0 HQ.out h45))
   clear h45
   go_wp2_with fail
   refine (HCU.out _).mono ?_
   rintro e w5 ⟨rfl, rfl⟩
   go_wp2_with fail
   refine (HTR.out _).mono ?_
   rintro e w5 ⟨rfl, rfl⟩
   go_wp2_with fail
   go_quiet (fail)
   go_wp2_with fail
   go_quiet (fail)
   go_wp2_with fail
   go_roundg (N - (k + 1))
   case measure => have := HG.out; omega
   case rel => exact ⟨k + 1, rfl, by omega, by go_num, by rw [<- HN2.out]; exact HRK.out, HB.out.trans ((show Below wr.heap.size wr _ from (by (with_reducible repeat' (first | exact Below.refl _ _ | apply Below.drew | apply below_drewN | refine Below.alloc ?_ ?_ _)); all_goals (try simp); all_goals (try omega))).mono HB.out.size)⟩
  -- REND
 obtain rfl : k = N := by omega
 have hd : (m.sh.map Shp.sh).drop k = [] := List.drop_eq_nil_of_le (by rw [List.length_map, HN.out]; exact Nat.le_refl _)
 obtain rfl : r = .err 6 := by rw [<- HRK.out, hd]; rfl
 clear hd
 go_wp2_with fail
 refine (ze HF.out 6).mono ?_
 rintro e w2 ⟨rfl, hF, hg⟩
 have hgw := (zb HB.out (some m.F)).trans hg
 obtain ⟨g3, g4⟩ := gcell hgw
 have HFF := Lib.hid hF
 have HGG := Lib.hid hgw
 have hsz : w.heap.size < w2.heap.size := Nat.lt_of_lt_of_le hws hg.size
 clear hF hg hgw
 unfold evz EV.agg
 go_wp2_with fail
 exact bodyPost_ret (v := evz.agg) (by simp [results, Tryd.results69, go_sem, evz, EV.agg, g3, hne]) rfl (zo H.out HFF.out HGG.out (by decide) evz (za1 _ _ _ _ _ _ _ _ _ _ _))
end Go.Proofs.YtjmeodadkjcmmaaDoor
