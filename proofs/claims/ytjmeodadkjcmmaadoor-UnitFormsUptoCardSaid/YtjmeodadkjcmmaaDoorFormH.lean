import Derived.Test.YtjmeodadkjcmmaaDoorFormG
namespace Go.Proofs.YtjmeodadkjcmmaaDoor
open Go.RowKit Go.ChangeShapes Go.WideShapes Go.Deep Go.ChangeAt
set_option linter.unusedVariables false
set_option maxRecDepth 20000
theorem late_new {wc : World} {g : Nat} {o : Obj} (hg : g < wc.heap.size) (u0 u1 u2 u3 u4 u5 u6 u7 u8 : Value) :
  ((((((((((wc.alloc o).setCell ⟨g, 0, none⟩ u0).setCell ⟨g, 1, none⟩ u1).setCell ⟨g, 2, none⟩ u2).setCell ⟨g, 3, none⟩ u3).setCell ⟨g, 4, none⟩ u4).setCell ⟨g, 5, none⟩ u5).setCell ⟨g, 6, none⟩ u6).setCell ⟨g, 7, none⟩ u7).setCell ⟨g, 8, none⟩ u8) = (((((((((wc.setCell ⟨g, 0, none⟩ u0).setCell ⟨g, 1, none⟩ u1).setCell ⟨g, 2, none⟩ u2).setCell ⟨g, 3, none⟩ u3).setCell ⟨g, 4, none⟩ u4).setCell ⟨g, 5, none⟩ u5).setCell ⟨g, 6, none⟩ u6).setCell ⟨g, 7, none⟩ u7).setCell ⟨g, 8, none⟩ u8).alloc o := by
 rw [World.setCell_alloc_past (hn := hg), World.setCell_alloc_past (hn := by simpa using hg), World.setCell_alloc_past (hn := by simpa using hg), World.setCell_alloc_past (hn := by simpa using hg), World.setCell_alloc_past (hn := by simpa using hg), World.setCell_alloc_past (hn := by simpa using hg), World.setCell_alloc_past (hn := by simpa using hg), World.setCell_alloc_past (hn := by simpa using hg), World.setCell_alloc_past (hn := by simpa using hg)]
theorem own_one {W0 w : World} {base : Nat} {v : EV} (hb : base <= w.heap.size) (hx : (kitEx W0).ok w v) (hf : base <= v.lo) : OwnAt (kitEx W0) 63 base (w.alloc (.cells v.cells.toArray 63)) (.slice (some ⟨w.heap.size, 0, none⟩) 1 1) [v] := by
 refine ⟨⟨by simp [kitEx, EV.cells], .inr ⟨w.heap.size, 1, v.cells.toArray, rfl, hb, heap_alloc_new w _, Nat.le_refl _, by unfold maxLen; omega, by simp [kitEx, EV.cells], by simp [kitEx, EV.cells]⟩⟩, ?_, ?_, ?_⟩
 ·
  intro x hx'
  obtain rfl : x = v := by simpa using hx'
  exact (kitEx W0).kept _ _ _ none hx (zb ((Below.refl _ _).alloc (Nat.le_refl _) _) _) (fun b _ => by simp)
 ·
  intro x hx' b hb'
  obtain rfl : x = v := by simpa using hx'
  exact Nat.le_trans hf hb'.1
 intro x hx' b hb' e
 obtain rfl : x = v := by simpa using hx'
 have h1 := (kitEx W0).lt _ _ _ hx hb'
 have h2 : w.heap.size = b := by simpa [Value.ownBlock] using e
 omega
def NmFact (W0 w w1 : World) (m : Fm) (lo hi : Nat) (nA : Option Addr) (nc : Nat) (ss : List ByteArray) : Fd (List ByteArray) -> Prop
 | .ok ns => ss = ns /\ NmIn w1 lo hi nA nc ns /\ Below w.heap.size w w1
 | .err c => 1 <= c /\ zx W0 w1 m c
def ExFact (W0 w w' : World) (m : Fm) (v : EV) : Fd Ex -> Prop
 | .ok x => v.t = x /\ v.lo = w.heap.size /\ v.hi = w'.heap.size /\ (kitEx W0).ok w' v /\ Below w.heap.size w w'
 | .err c => 1 <= c /\ zx W0 w' m c
theorem ExTwo.fact {W0 w w' : World} {m : Fm} {r : Fd Ex} {e : Ending} (h : ExTwo W0 w m r e w') : ∃ v : EV, e = .returned v.agg /\ w.grownBy w' (some m.F) /\ ExFact W0 w w' m v r := by
 obtain ⟨v, h1, h2, h3⟩ := h
 refine ⟨v, h1, h2, ?_⟩
 cases r <;> exact h3
def lamOf (f : List ByteArray -> Fd Ex) : Fd (List ByteArray) -> Fd Ex
 | .err e => .err e
 | .ok ns => f ns
theorem lambda_eq {rec : List ByteArray -> Dt -> Fd Ex} {ls : List ByteArray} {d : Dt} {rest : List Dt} (h : 1 <= rest.length) :
  lambdaF rec ls (d :: rest) = lamOf (fun ns => mapF (fun y => .mk 6 dt0 ⟨#[]⟩ 0 ns [y]) (bodyF rec (ls ++ ns) rest)) (boundF d.k d.l) := by
 match rest, h with
 | b :: m, _ =>
  simp only [lambdaF]
  cases boundF d.k d.l <;> rfl
def NmTwo (W0 w : World) (m : Fm) (r : Fd (List ByteArray)) (e : Ending) (w' : World) : Prop := ∃ A cap ss, e = .returned (.slice A ss.length cap) /\ ScAt w' m.F A cap ss /\ ss.length <= 6 /\ w.grownBy w' (some m.F) /\ NmFact W0 w w' m w.heap.size w'.heap.size A cap ss r
theorem names_two {W0 w : World} {m : Fm} (h : zx W0 w m 0) (k n : Int) (s : ByteArray) (A : Option Addr) (cap : Nat) (l : List Dt) (hl : DsAt W0 w m.F A cap l) (hs : ∀ x ∈ l, x.s.size <= maxLen) {r : Fd (List ByteArray)} (hr : boundF k l = r) :
  Calls Tryd.prog 45 #[.pointer (some ⟨m.F, 0, none⟩), .agg #[.int .i64 k, .int .i64 n, .string s, .slice A l.length cap]] w (NmTwo W0 w m r) := by
 refine (names_any h k n s A cap l hl hs).mono fun e w' hp => ?_
 rw [hr] at hp
 cases r with
 | ok ns =>
  obtain ⟨A, cap, rfl, h1, h2, h3⟩ := hp
  exact ⟨A, cap, ns, rfl, h2, boundF_len hr, zb h3 _, rfl, h1, h3⟩
 | err c =>
  obtain ⟨A, cap, ss, rfl, h1, h2, h3, h4, h5⟩ := hp
  exact ⟨A, cap, ss, rfl, h1, h2, h5, h3, h4⟩
theorem names_then {W0 w w' : World} {m : Fm} {rec : List ByteArray -> Dt -> Fd Ex} {ls ss : List ByteArray} {rest : List Dt} {r0 : Fd (List ByteArray)} {a b cap : Nat} {A : Option Addr} (h : zx W0 w m 0) (hp : NmFact W0 w w' m a b A cap ss r0) :
  ∃ r1, Two W0 w' m (bodyF rec (ls ++ ss) rest) r1 /\ lamOf (fun ns => mapF (fun y => .mk 6 dt0 ⟨#[]⟩ 0 ns [y]) (bodyF rec (ls ++ ns) rest)) r0 = mapF (fun y => .mk 6 dt0 ⟨#[]⟩ 0 ss [y]) r1 /\ ∀ c, r0 = .err c -> r1 = .err c := by
 cases r0 with
 | ok ns =>
  obtain ⟨rfl, _, hb⟩ := hp
  exact ⟨_, Or.inl ⟨h.next hb, rfl⟩, rfl, fun c h => by cases h⟩
 | err c => exact ⟨.err c, Or.inr ⟨c, hp.1, hp.2, rfl⟩, rfl, fun c' h => by cases h; rfl⟩
theorem lam_names {W0 w w1 : World} {m : Fm} {r0 : Fd (List ByteArray)} {nA : Option Addr} {nc : Nat} {ss : List ByteArray} {o : Obj} (hp : NmFact W0 (w.alloc o) w1 m (w.alloc o).heap.size w1.heap.size nA nc ss r0) : NmFact W0 w w1 m (w.heap.size + 1) w1.heap.size nA nc ss r0 := by
 have e : (w.alloc o).heap.size = w.heap.size + 1 := by simp
 cases r0 with
 | ok ns =>
  obtain ⟨h1, h2, h3⟩ := hp
  rw [e] at h2
  exact ⟨h1, h2, ((Below.refl w.heap.size w).alloc (Nat.le_refl _) o).trans (h3.mono (by omega))⟩
 | err c => exact hp
theorem lam_fin {W0 w w1 w3 w4 w' : World} {m : Fm} {r0 : Fd (List ByteArray)} {r1 : Fd Ex} {nA : Option Addr} {nc : Nat} {ss : List ByteArray} {v : EV} (k : Int) (h : zx W0 w m 0) (hg1 : w.grownBy w1 (some m.F))
  (hp : NmFact W0 w w1 m (w.heap.size + 1) w1.heap.size nA nc ss r0)
  (hr : ∀ c, r0 = .err c -> r1 = .err c) (hb3 : Below w1.heap.size w1 w3) (hw1 : w.heap.size < w1.heap.size) (hg4 : w3.grownBy w4 (some m.F))
  (hx : ExFact W0 w3 w4 m v r1)
  (h2 : (w4.alloc (.cells v.cells.toArray 63)).grownBy w' (some w.heap.size)) :
  ExPost W0 w m (mapF (fun y => Ex.mk k dt0 ⟨#[]⟩ 0 ss [y]) r1) (.returned (.agg #[.int .i64 k, .int .i64 0, .int .i64 0, .string ⟨#[]⟩, .slice none 0 0, .string ⟨#[]⟩, .int .i64 0, .slice nA ss.length nc, .slice (some ⟨w4.heap.size, 0, none⟩) 1 1])) w' := by
 have ha : Below w4.heap.size w4 (w4.alloc (.cells v.cells.toArray 63)) := (Below.refl _ _).alloc (Nat.le_refl _) _
 have hg14 : w.grownBy w4 (some m.F) := (hg1.trans (zb hb3 _)).trans hg4
 have hb2 : Below w.heap.size (w4.alloc (.cells v.cells.toArray 63)) w' := ⟨h2.os, h2.tape, h2.output, h2.size, fun k hk => h2.block k (Nat.lt_of_lt_of_le hk (Nat.le_trans hg14.size ha.size)) (fun e => by have := Option.some.inj e; omega)⟩
 cases r1 with
 | ok x =>
  obtain ⟨rfl, hlo, hhi, hok, hb4⟩ := hx
  cases r0 with
  | err c => have := hr c rfl; cases this
  | ok ns =>
   obtain ⟨rfl, hn, hb1⟩ := hp
   have hO := own_one (base := w3.heap.size) (Nat.le_trans (Nat.le_refl _) hb4.size) hok (by rw [hlo]; exact Nat.le_refl _)
   have hk : Keep (w.heap.size + 1) w1.heap.size w1 (w4.alloc (.cells v.cells.toArray 63)) := fun b h1 h2 h3 => ((ha.block b (Nat.lt_of_lt_of_le h3 (Nat.le_trans hb3.size hb4.size))).trans (hb4.block b (Nat.lt_of_lt_of_le h3 hb3.size))).trans (hb3.block b h3)
   have hsz := Nat.le_trans (Nat.le_trans hb3.size hb4.size) ha.size
   exact got_build (X := [v]) hO (Nat.lt_of_lt_of_le hw1 hb3.size) (((hb1.trans (hb3.mono (Nat.le_of_lt hw1))).trans (hb4.mono (Nat.le_of_lt (Nat.lt_of_lt_of_le hw1 hb3.size)))).trans (ha.mono hg14.size)) h2 k ⟨#[]⟩ 0 nA nc ss (hn.mono hk hsz (Nat.le_refl _) hsz)
 | err c =>
  obtain ⟨e1, e2⟩ := h.later hx.2 hg14 ((ha.mono hg14.size).trans hb2)
  exact ⟨⟨k, 0, 0, ⟨#[]⟩, none, 0, 0, ⟨#[]⟩, 0, nA, ss.length, nc, some ⟨w4.heap.size, 0, none⟩, 1, 1, eC dt0, 0, 0⟩, rfl, hx.1, e1, e2⟩
set_option maxHeartbeats 4000000 in
theorem special_lambda {W0 w : World} {m : Fm} {n : Nat} {rec : List ByteArray -> Dt -> Fd Ex} (he : ExprSays W0 m n rec) (hlet : LetSays W0 m n rec) (h : zx W0 w m 0) (A : Option Addr) (cap : Nat) (l : List Dt) (hl : DsAt W0 w m.F A cap l) (hgd : ∀ x ∈ l, Good n x) (hn : l.length <= 1048576) (B : Option Addr) (bc : Nat) (ls : List ByteArray) (hsc : ScAt w m.F B bc ls) (hls : ls.length <= 40) :
  Calls Tryd.prog 67 #[.pointer (some ⟨m.F, 0, none⟩), .string ⟨#[108, 97, 109, 98, 100, 97]⟩, .slice A l.length cap, .slice B ls.length bc] w (ExPost W0 w m (wordF m.pl rec ls [108, 97, 109, 98, 100, 97] l)) := by
 have H := Lib.hid h
 have HE := Lib.hid he
 have HLT := Lib.hid hlet
 have HSC := Lib.hid hsc
 have HL := Lib.hid hl
 have HGD := Lib.hid hgd
 have hlt := h.lt
 have hne := World.new_ne w _ h.c0
 have hbc := hsc.le
 have hcap := hl.le
 have hcapm := hl.cap_
 unfold maxLen at hcapm
 have c3 := h.c3
 have hm : m.pl.up = m.up := rfl
 cases hup : m.up
 all_goals
  rw [hup] at c3 hm
  clear h hl he hgd hsc hup hlet
 case true =>
  rw [show wordF m.pl rec ls [108, 97, 109, 98, 100, 97] l = .err 15 from if_pos ⟨hm, by decide, by decide, by decide⟩]
  clear hm
  go_enter Tryd.func67, Tryd.ntmps67
  go_wp2_with fail
  refine (ze (H.out.next ((Below.refl _ _).alloc (Nat.le_refl _) _)) 15).mono ?_
  rintro e w2 ⟨rfl, hF, hg⟩
  obtain ⟨g1, g2⟩ := gcell hg
  have HF := Lib.hid hF
  have HG := Lib.hid hg
  have hsz : w.heap.size < w2.heap.size := Nat.lt_of_lt_of_le (by simp) hg.size
  clear hF hg
  unfold evz EV.agg
  go_wp2_with fail
  exact bodyPost_ret (v := evz.agg) (by simp [results, Tryd.results67, go_sem, evz, EV.agg, g1, hne]) rfl (zo H.out HF.out HG.out (by decide) evz (za1 _ _ _ _ _ _ _ _ _ _ _))
 rw [show wordF m.pl rec ls [108, 97, 109, 98, 100, 97] l = lambdaF rec ls l from (if_neg (fun h => by rw [hm] at h; exact absurd h.1 (by decide))).trans (by rfl)]
 clear hm
 by_cases h2 : l.length < 2
 ·
  rw [show lambdaF rec ls l = .err 10 from by
   match l, h2 with
   | [], _ => rfl
   | [_], _ => rfl]
  go_enter Tryd.func67, Tryd.ntmps67
  go_wp2_with fail
  refine (ze (H.out.next ((Below.refl _ _).alloc (Nat.le_refl _) _)) 10).mono ?_
  rintro e w2 ⟨rfl, hF, hg⟩
  obtain ⟨g1, g2⟩ := gcell hg
  have HF := Lib.hid hF
  have HG := Lib.hid hg
  have hsz : w.heap.size < w2.heap.size := Nat.lt_of_lt_of_le (by simp) hg.size
  clear hF hg
  unfold evz EV.agg
  go_wp2_with fail
  exact bodyPost_ret (v := evz.agg) (by simp [results, Tryd.results67, go_sem, evz, EV.agg, g1, hne]) rfl (zo H.out HF.out HG.out (by decide) evz (za1 _ _ _ _ _ _ _ _ _ _ _))
 obtain ⟨d, rest, hr1, rfl⟩ : ∃ d rest, 1 <= rest.length /\ l = d :: rest := by
  match l, h2 with
  | [], h2 => simp at h2
  | [_], h2 => simp at h2
  | d :: b0 :: m0, _ => exact ⟨d, b0 :: m0, by simp, rfl⟩
 have HLA := Lib.hid (lambda_eq (rec := rec) (ls := ls) (d := d) hr1)
 obtain ⟨b, o, A', c', rfl, hbw, hbF, d0, d1, d2, d3, hd, hi, ht⟩ := HL.out.first H.out.below H.out.ge
 have HI := Lib.hid hi
 have HT := Lib.hid ht
 have HGR := Lib.hid (show ∀ x ∈ rest, Good n x from fun x hx => HGD.out x (List.mem_cons_of_mem _ hx))
 have HDS := Lib.hid (show ∀ x ∈ d.l, x.s.size <= maxLen from fun x hx => ((HGD.out d (List.mem_cons_self ..)).low hx).wide)
 obtain ⟨N, hN⟩ : ∃ N, (d :: rest).length = N := ⟨_, rfl⟩
 have HN := Lib.hid (show rest.length = N - 1 by rw [<- hN, List.length_cons]; rfl)
 rw [hN] at hn hcap h2 ⊢
 have hN2 : 2 <= N := by omega
 obtain ⟨r, hr⟩ : ∃ r, lambdaF rec ls (d :: rest) = r := ⟨_, rfl⟩
 have HR := Lib.hid hr
 rw [hr]
 obtain ⟨r0, hr0⟩ : ∃ r0, boundF d.k d.l = r0 := ⟨_, rfl⟩
 have HR0 := Lib.hid hr0
 have hcap1 : ¬ cap = 1 := by omega
 have hi1 : (1 : Int) <= (N : Int) := by omega
 have hi2 : (N : Int) <= (cap : Int) := by omega
 have hi3 : IntKind.i64.wrap 1 = 1 := IntWalk.i64_in _ (by omega)
 clear hd hi ht hN hr hr0 hr1
 go_enter Tryd.func67, Tryd.ntmps67
 go_wp2_with fail
 refine (names_two (H.out.next ((Below.refl _ _).alloc (Nat.le_refl _) _)) d.k d.n d.s A' c' d.l (HI.out.below ((Below.refl _ _).alloc (Nat.le_refl _) _)) HDS.out HR0.out).mono ?_
 rintro e w1 ⟨nA, nc, ss, rfl, hsc1, hss, hg1, hp1⟩
 obtain ⟨r1, htw, hre, her⟩ := names_then (rec := rec) (ls := ls) (rest := rest) (H.out.next ((Below.refl _ _).alloc (Nat.le_refl _) _)) hp1
 obtain ⟨LS, hLS⟩ : ∃ LS, ls ++ ss = LS := ⟨_, rfl⟩
 rw [hLS] at htw
 have HRR := Lib.hid (show r = mapF (fun y => .mk 6 dt0 ⟨#[]⟩ 0 ss [y]) r1 by rw [<- HR.out, HLA.out, HR0.out]; exact hre)
 have hsz : w.heap.size < w1.heap.size := Nat.lt_of_lt_of_le (by simp) hg1.size
 have hsb : b < w1.heap.size := by omega
 have hneB : w.heap.size ≠ b := by omega
 have hsF : m.F < w1.heap.size := by omega
 have m1 : w1.cell? ⟨b, o, none⟩ = some (.int .i64 d.k) := ((gcell hg1).1 b o (by simp; omega) hbF).trans ((World.cell?_alloc_lt _ _ ⟨b, o, none⟩ hbw).trans d0)
 have hW1 := zb ((Below.refl w.heap.size w).alloc (Nat.le_refl _) (.cells #[.int .i64 0, .int .i64 0, .int .i64 0, .string ⟨#[]⟩, .slice none 0 0, .string ⟨#[]⟩, .int .i64 0, .slice none 0 0, .slice none 0 0] 63)) (some m.F)
 have HWITH := Lib.hid (show ∀ W : World, Below w1.heap.size w1 W -> Calls Tryd.prog 80 #[.slice B ls.length bc, .slice nA ss.length nc] W (WithPost W m.F LS) from fun W hW => by rw [<- hLS]; exact with_any m.F B bc ls nA ss.length nc ss W (((HSC.out.grown hW1).grown hg1).below hW) (hsc1.strs.below hW) (by omega) (Nat.lt_of_lt_of_le hsF hW.size))
 have HBODY := Lib.hid (show ∀ (W : World) (A3 : Option Addr) (c3 : Nat), Below w1.heap.size w1 W -> ScAt W m.F A3 c3 LS -> Calls Tryd.prog 46 #[.pointer (some ⟨m.F, 0, none⟩), .slice (some ⟨b, o + 4, none⟩) (N - 1) (cap - 1), .slice A3 LS.length c3] W (ExTwo W0 W m r1) from fun W A3 c3 hW hS => by rw [<- HN.out]; exact body_two HE.out _ _ rest (((HT.out.grown hW1).grown hg1).below hW) HGR.out (by rw [HN.out]; omega) A3 c3 LS hS (htw.next hW))
 have HFIN := Lib.hid (fun (w3 w4 w' : World) (v : EV) hb3 hg4 hx h2 => lam_fin (W0 := W0) (w := w) (w1 := w1) (w3 := w3) (w4 := w4) (w' := w') (v := v) (r1 := r1) (r0 := r0) (nA := nA) (nc := nc) (ss := ss) 6 H.out (hW1.trans hg1) (lam_names hp1) her hb3 hsz hg4 hx h2)
 obtain ⟨g1, g2⟩ := gcell hg1
 clear htw hre hg1 hW1 hsc1 hLS
 go_upto_region 18 with fail
 go_region_held3 (fun w' => w'.cell? ⟨b, o, none⟩ = some (.int .i64 d.k)) (go_keep)
  (first | (go_at_call 80; refine (HWITH.out _ (by (with_reducible repeat' (first | exact Below.refl _ _ | apply Below.drew | apply below_drewN | refine Below.alloc ?_ ?_ _)); all_goals (try simp); all_goals (try omega))).mono ?_; rintro e w3 ⟨A3, c3, rfl, hsc3, hb3⟩; have hb13 := (show Below w1.heap.size w1 _ from (by (with_reducible repeat' (first | exact Below.refl _ _ | apply Below.drew | apply below_drewN | refine Below.alloc ?_ ?_ _)); all_goals (try simp); all_goals (try omega))).trans (hb3.mono (by first | exact Nat.le_refl _ | (simp; done) | (simp; omega))); have m3 : w3.cell? ⟨b, o, none⟩ = some (.int .i64 d.k) := (hb13.cell (p := ⟨b, o, none⟩) hsb).trans m1; have HSC3 := Lib.hid hsc3; have HB13 := Lib.hid hb13; have hsF3 : m.F < w3.heap.size := Nat.lt_of_lt_of_le hsF hb13.size; have hsb3 : b < w3.heap.size := Nat.lt_of_lt_of_le hsb hb13.size; have hsz3 : w.heap.size < w3.heap.size := Nat.lt_of_lt_of_le hsz hb13.size; obtain ⟨g3, g4⟩ := bcell hb13; clear hsc3 hb3 hb13) | (go_at_call 46; refine (HBODY.out _ _ _ (HB13.out.trans (by first | exact Below.refl _ _ | exact (Below.refl _ _).drew)) (HSC3.out.below (by first | exact Below.refl _ _ | exact (Below.refl _ _).drew))).mono ?_; intro e w4 hp4; obtain ⟨v4, rfl, hg4, hx4⟩ := hp4.fact; clear hp4; have m4 : w4.cell? ⟨b, o, none⟩ = some (.int .i64 d.k) := ((gcell hg4).1 b o (by first | exact hsb3 | (simp; omega)) hbF).trans (by first | exact m3 | simpa using m3); obtain ⟨g5, g6⟩ := gcell hg4; have HG4 := Lib.hid hg4; have HX4 := Lib.hid hx4; have hsz4 : w.heap.size < w4.heap.size := Nat.lt_of_lt_of_le hsz3 (Nat.le_trans (by first | exact Nat.le_refl _ | (simp; done)) hg4.size); clear hg4 hx4; unfold EV.agg))
 go_wp2_with fail
 have R : ∀ j, w4.cell? ⟨w.heap.size, j, none⟩ = (w.alloc (.cells #[.int .i64 0, .int .i64 0, .int .i64 0, .string ⟨#[]⟩, .slice none 0 0, .string ⟨#[]⟩, .int .i64 0, .slice none 0 0, .slice none 0 0] 63)).cell? ⟨w.heap.size, j, none⟩ := fun j => ((g5 _ j (by first | exact hsz3 | (simp; omega)) hne).trans (by first | rfl | simp)).trans ((g3 _ j hsz).trans (g1 _ j (by simp) hne))
 rw [<- late_new hsz4]
 exact bodyPost_ret (v := .agg #[.int .i64 6, .int .i64 0, .int .i64 0, .string ⟨#[]⟩, .slice none 0 0, .string ⟨#[]⟩, .int .i64 0, .slice nA ss.length nc, .slice (some ⟨w4.heap.size, 0, none⟩) 1 1]) (by simp [results, Tryd.results67, go_sem, R, hsz4]) rfl (by rw [HRR.out]; exact HFIN.out _ _ _ v4 (HB13.out.trans (by first | exact Below.refl _ _ | exact (Below.refl _ _).drew)) HG4.out HX4.out (za1 _ _ _ _ _ _ _ _ _ _ _))
end Go.Proofs.YtjmeodadkjcmmaaDoor
