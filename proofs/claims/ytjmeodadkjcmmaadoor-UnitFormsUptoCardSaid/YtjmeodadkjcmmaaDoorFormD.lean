import Derived.Test.YtjmeodadkjcmmaaDoorGFormBC
namespace Go.Proofs.YtjmeodadkjcmmaaDoor
open Go.RowKit Go.ChangeShapes Go.WideShapes Go.Deep Go.ChangeAt
set_option linter.unusedVariables false
set_option maxRecDepth 20000
theorem za1 (w : World) (g : Nat) (u0 u1 u2 u3 u4 u5 u6 u7 u8 : Value) : w.grownBy (((((((((w.setCell ⟨g, 0, none⟩ u0).setCell ⟨g, 1, none⟩ u1).setCell ⟨g, 2, none⟩ u2).setCell ⟨g, 3, none⟩ u3).setCell ⟨g, 4, none⟩ u4).setCell ⟨g, 5, none⟩ u5).setCell ⟨g, 6, none⟩ u6).setCell ⟨g, 7, none⟩ u7).setCell ⟨g, 8, none⟩ u8) (some g) :=
 ((((((((zd w g 0 u0).trans (zd _ g 1 u1)).trans (zd _ g 2 u2)).trans (zd _ g 3 u3)).trans (zd _ g 4 u4)).trans (zd _ g 5 u5)).trans (zd _ g 6 u6)).trans (zd _ g 7 u7)).trans (zd _ g 8 u8)
theorem below_row9 {w w1 w' : World} (hb : Below w.heap.size w w1) (hg : w1.grownBy w' (some w.heap.size)) : Below w.heap.size w w' :=
 ⟨hg.os.trans hb.os, hg.tape.trans hb.tape, hg.output.trans hb.output, Nat.le_trans hb.size hg.size, fun k hk => (hg.block k (Nat.lt_of_lt_of_le hk hb.size) (fun e => by have := Option.some.inj e; omega)).trans (hb.block k hk)⟩
theorem got_copy {W0 w w1 w' : World} {o : Obj} {x : Ex} {v : EV} (ht : v.t = x) (hlo : v.lo = (w.alloc o).heap.size) (hhi : v.hi = w1.heap.size) (hok : (kitEx W0).ok w1 v) (hb : Below (w.alloc o).heap.size (w.alloc o) w1) (hg : w1.grownBy w' (some w.heap.size)) : GotEx W0 w x (.returned v.agg) w' := by
 have hlo' : v.lo = w.heap.size + 1 := by rw [hlo]; simp
 refine ⟨{ v with lo := w.heap.size, hi := w'.heap.size }, rfl, ht, rfl, rfl, ⟨?_, Nat.le_refl _⟩, ?_⟩
 ·
  exact hok.1.mono (zm hg (fun b h1 h2 e => by have := Option.some.inj e; omega)) hg.size (by show w.heap.size <= v.lo; omega) (by show v.hi <= w'.heap.size; rw [hhi]; exact hg.size)
 ·
  exact below_row9 (((Below.refl w.heap.size w).alloc (Nat.le_refl _) o).trans (hb.mono (by simp))) hg
theorem got_build {W0 w w1 w' : World} {base : Nat} {A : Option Addr} {cap : Nat} {X : List EV} (hX : OwnAt (kitEx W0) 63 base w1 (.slice A X.length cap) X) (hbase : w.heap.size < base) (hb : Below w.heap.size w w1) (hg : w1.grownBy w' (some w.heap.size)) (k : Int) (S : ByteArray) (N : Int)
  (nA : Option Addr) (nc : Nat) (names : List ByteArray) (hn : NmIn w1 (w.heap.size + 1) w1.heap.size nA nc names) :
  GotEx W0 w (.mk k dt0 S N names (X.map (·.t))) (.returned (.agg #[.int .i64 k, .int .i64 0, .int .i64 0, .string ⟨#[]⟩, .slice none 0 0, .string S, .int .i64 N, .slice nA names.length nc, .slice A X.length cap])) w' := by
 obtain ⟨A', cap', hv, h1, h2, hrow, heach⟩ := hX.args
 obtain ⟨rfl, rfl⟩ : A = A' /\ cap = cap' := by simpa using hv
 have hk1 : Keep base w1.heap.size w1 w' := zm hg (fun b h1 h2 e => by have := Option.some.inj e; omega)
 have hk2 : Keep (w.heap.size + 1) w1.heap.size w1 w' := zm hg (fun b h1 h2 e => by have := Option.some.inj e; omega)
 refine ⟨⟨k, 0, 0, ⟨#[]⟩, none, 0, 0, S, N, nA, names.length, nc, A, X.length, cap, .mk k dt0 S N names (X.map (·.t)), w.heap.size, w'.heap.size⟩, rfl, rfl, rfl, rfl, ⟨?_, Nat.le_refl _⟩, below_row9 hb hg⟩
 have hl : (X.map (·.t)).length = X.length := by simp
 have hm := ExIn.mk (W0 := W0) (w := w') (lo := w.heap.size) (hi := w'.heap.size) k 0 0 ⟨#[]⟩ none 0 0 dt0 (dt0_in W0) S N nA nc names (hn.mono hk2 hg.size (by omega) hg.size) A cap (X.map (·.t)) (X.map EV.cells) (by simp) (by rw [hl]; exact h1) h2 (hrow.mono hk1 hg.size (by omega) hg.size) (fun i hi hi' => (heach i hi hi').mono hk1 hg.size (by omega) hg.size)
 rw [hl] at hm
 exact hm
theorem zo {W0 w w2 w' : World} {m : Fm} {c : Int} {o : Obj} (h : zx W0 w m 0) (hF : zx W0 w2 m c) (hg : (w.alloc o).grownBy w2 (some m.F)) (hc : 1 <= c) (v : EV) (hg2 : w2.grownBy w' (some w.heap.size)) : ExPost W0 w m (.err c) (.returned v.agg) w' :=
 bad_fin h hF hg hc v ⟨hg2.os, hg2.tape, hg2.output, hg2.size, fun k hk => hg2.block k (Nat.lt_of_lt_of_le hk (Nat.le_trans (by simp) hg.size)) (fun e => by have := Option.some.inj e; omega)⟩
theorem body_big {rec : List ByteArray -> Dt -> Fd Ex} {ls : List ByteArray} {l : List Dt} (h0 : 0 < l.length) (h : 40 < ls.length) : bodyF rec ls l = .err 1 := by
 cases l with
 | nil => simp at h0
 | cons d m => simp only [bodyF]; rw [if_pos h]
theorem body_one {rec : List ByteArray -> Dt -> Fd Ex} {ls : List ByteArray} {d : Dt} (h : ¬ 40 < ls.length) : bodyF rec ls [d] = rec ls d := by
 simp only [bodyF]; rw [if_neg h]
theorem body_many {rec : List ByteArray -> Dt -> Fd Ex} {ls : List ByteArray} {l : List Dt} (h0 : 2 <= l.length) (h : ¬ 40 < ls.length) : bodyF rec ls l = mapF (eK 7 ⟨#[]⟩) (allF (rec ls) l) := by
 match l, h0 with
 | d :: e :: m, _ => simp only [bodyF]; rw [if_neg h]
set_option maxHeartbeats 4000000 in
theorem body_any {W0 w : World} {m : Fm} {n : Nat} {rec : List ByteArray -> Dt -> Fd Ex} (he : ExprSays W0 m n rec) (h : zx W0 w m 0) (A : Option Addr) (cap : Nat) (l : List Dt) (hl : DsAt W0 w m.F A cap l) (hgd : ∀ x ∈ l, Good n x) (hn : l.length <= 1048576) (B : Option Addr) (bc : Nat) (ls : List ByteArray) (hsc : ScAt w m.F B bc ls) :
  Calls Tryd.prog 46 #[.pointer (some ⟨m.F, 0, none⟩), .slice A l.length cap, .slice B ls.length bc] w (ExPost W0 w m (bodyF rec ls l)) := by
 have HL := Lib.hid hl
 have H := Lib.hid h
 have HE := Lib.hid he
 have HGD := Lib.hid hgd
 have HSC := Lib.hid hsc
 have hlt := h.lt
 have hne := World.new_ne w _ h.c0
 have hbc := hsc.le
 have hcap := hl.le
 clear h hl he hgd hsc
 rcases Nat.eq_zero_or_pos l.length with h0 | h0
 ·
  have e : bodyF rec ls l = .err 10 := by
   have : l = [] := List.length_eq_zero_iff.1 h0
   rw [this]; rfl
  rw [e, h0]
  clear e h0 hn hcap
  go_enter Tryd.func46, Tryd.ntmps46
  go_wp2_with fail
  refine (ze (H.out.next ((Below.refl _ _).alloc (Nat.le_refl _) _)) 10).mono ?_
  rintro e w2 ⟨rfl, hF, hg⟩
  obtain ⟨g1, g2⟩ := gcell hg
  have HF := Lib.hid hF
  have HG := Lib.hid hg
  have hsz : w.heap.size < w2.heap.size := Nat.lt_of_lt_of_le (by simp) hg.size
  clear hF hg
  unfold evz EV.agg
  go_wp2_with fail
  exact bodyPost_ret (v := evz.agg) (by simp [results, Tryd.results46, go_sem, evz, EV.agg, g1, hne]) rfl (zo H.out HF.out HG.out (by decide) evz (za1 _ _ _ _ _ _ _ _ _ _ _))
 by_cases h40 : 40 < ls.length
 ·
  rw [body_big h0 h40]
  have hL1 : (l.length == 0) = false := by rw [beq_eq_false_iff_ne]; omega
  go_enter Tryd.func46, Tryd.ntmps46
  go_wp2_with fail
  refine (ze (H.out.next ((Below.refl _ _).alloc (Nat.le_refl _) _)) 1).mono ?_
  rintro e w2 ⟨rfl, hF, hg⟩
  obtain ⟨g1, g2⟩ := gcell hg
  have HF := Lib.hid hF
  have HG := Lib.hid hg
  have hsz : w.heap.size < w2.heap.size := Nat.lt_of_lt_of_le (by simp) hg.size
  clear hF hg
  unfold evz EV.agg
  go_wp2_with fail
  exact bodyPost_ret (v := evz.agg) (by simp [results, Tryd.results46, go_sem, evz, EV.agg, g1, hne]) rfl (zo H.out HF.out HG.out (by decide) evz (za1 _ _ _ _ _ _ _ _ _ _ _))
 by_cases h1 : l.length = 1
 ·
  obtain ⟨d, rfl⟩ : ∃ d, l = [d] := by
   match l, h1 with
   | [d], _ => exact ⟨d, rfl⟩
  rw [body_one h40]
  obtain ⟨b, o, rfl, hbw, hbF, cs, hrow, hd⟩ := HL.out.nth 0 (by simp)
  obtain ⟨A', c', rfl, _⟩ := hd.items H.out.below H.out.ge
  have HGK := Lib.hid (HGD.out d (by simp))
  simp only [List.getElem_cons_zero] at hrow hd
  have c0 : w.cell? ⟨b, o, none⟩ = some (.int .i64 d.k) := by simpa using hrow 0 (by simp)
  have c1 : w.cell? ⟨b, o + 1, none⟩ = some (.int .i64 d.n) := by simpa using hrow 1 (by simp)
  have c2 : w.cell? ⟨b, o + 2, none⟩ = some (.string d.s) := by simpa using hrow 2 (by simp)
  have c3 : w.cell? ⟨b, o + 3, none⟩ = some (.slice A' d.l.length c') := by simpa using hrow 3 (by simp)
  have HD := Lib.hid hd
  have hls : ls.length <= 40 := by omega
  simp only [List.length_cons, List.length_nil] at *
  obtain ⟨r, hr⟩ : ∃ r, rec ls d = r := ⟨_, rfl⟩
  have HR := Lib.hid hr
  rw [hr]
  clear hrow hd h0 h1 hr
  go_enter Tryd.func46, Tryd.ntmps46
  go_wp2_with fail
  refine (HE.out _ d A' c' B bc ls (H.out.next ((Below.refl _ _).alloc (Nat.le_refl _) _)) HGK.out HD.out (HSC.out.below ((Below.refl _ _).alloc (Nat.le_refl _) _)) hls).mono ?_
  intro e w1 hpost
  rw [HR.out] at hpost
  cases r with
  | ok x =>
   obtain ⟨v1, rfl, ht, hlo, hhi, hok, hb1⟩ := hpost
   obtain ⟨g1, g2⟩ := bcell hb1
   have hsz : w.heap.size < w1.heap.size := Nat.lt_of_lt_of_le (by simp) hb1.size
   have HP := Lib.hid (fun w' hg => got_copy (w' := w') ht hlo hhi hok hb1 hg)
   clear hb1 ht hlo hhi hok
   unfold EV.agg
   go_wp2_with fail
   exact bodyPost_ret (v := v1.agg) (by simp [results, Tryd.results46, go_sem, EV.agg, g1]) rfl (HP.out _ (za1 _ _ _ _ _ _ _ _ _ _ _))
  | err c =>
   obtain ⟨v1, rfl, hc1, hF1, hg1⟩ := hpost
   obtain ⟨g1, g2⟩ := gcell hg1
   have hsz : w.heap.size < w1.heap.size := Nat.lt_of_lt_of_le (by simp) hg1.size
   have HP := Lib.hid (fun w' hg => zo (w' := w') H.out hF1 hg1 hc1 v1 hg)
   clear hg1 hF1 hc1
   unfold EV.agg
   go_wp2_with fail
   exact bodyPost_ret (v := v1.agg) (by simp [results, Tryd.results46, go_sem, EV.agg, g1, hne]) rfl (HP.out _ (za1 _ _ _ _ _ _ _ _ _ _ _))
 rw [body_many (by omega) h40]
 have hls : ls.length <= 40 := by omega
 obtain ⟨r, hr⟩ : ∃ r, allF (rec ls) l = r := ⟨_, rfl⟩
 have HR := Lib.hid hr
 rw [hr]
 clear hr
 go_enter Tryd.func46, Tryd.ntmps46
 go_wp2_with fail
 refine (exprs_any HE.out (H.out.next ((Below.refl _ _).alloc (Nat.le_refl _) _)) A cap l (HL.out.below ((Below.refl _ _).alloc (Nat.le_refl _) _)) HGD.out hn B bc ls (HSC.out.below ((Below.refl _ _).alloc (Nat.le_refl _) _)) hls).mono ?_
 intro e w1 hpost
 rw [HR.out] at hpost
 cases r with
 | ok xs =>
  obtain ⟨v1, X, rfl, hO, rfl, hXl, hb1⟩ := hpost
  obtain ⟨g1, g2⟩ := bcell hb1
  have hsz : w.heap.size < w1.heap.size := Nat.lt_of_lt_of_le (by simp) hb1.size
  obtain ⟨v', cp, rfl, hXc, hcm, _⟩ := hO.form
  have HP := Lib.hid (fun w' hg => got_build (w' := w') hO (by simp) (((Below.refl w.heap.size w).alloc (Nat.le_refl _) _).trans (hb1.mono (by simp))) hg 7 ⟨#[]⟩ 0 none 0 [] (NmIn.nil _ _ _))
  clear hb1 hO hcm hXl
  go_wp2_with fail
  exact bodyPost_ret (by simp [results, Tryd.results46, go_sem, g1]) rfl (HP.out _ (za1 _ _ _ _ _ _ _ _ _ _ _))
 | err c =>
  obtain ⟨v1, X, rfl, hO, hXl, hc1, hF1, hg1⟩ := hpost
  obtain ⟨g1, g2⟩ := gcell hg1
  have hsz : w.heap.size < w1.heap.size := Nat.lt_of_lt_of_le (by simp) hg1.size
  obtain ⟨v', cp, rfl, hXc, hcm, _⟩ := hO.form
  have HP := Lib.hid (fun w' v hg => zo (w' := w') H.out hF1 hg1 hc1 v hg)
  clear hg1 hO hcm hF1 hc1 hXl
  go_wp2_with fail
  exact bodyPost_ret (by simp [results, Tryd.results46, go_sem, EV.agg, g1, hne]) rfl (HP.out _ ⟨7, 0, 0, ⟨#[]⟩, none, 0, 0, ⟨#[]⟩, 0, none, 0, 0, v', X.length, cp, eC dt0, 0, 0⟩ (za1 _ _ _ _ _ _ _ _ _ _ _))
set_option maxHeartbeats 4000000 in
theorem body_idle {W0 w : World} {m : Fm} {e : Int} (h : zx W0 w m e) (he : e ≠ 0) (A : Option Addr) (cap : Nat) (l : List Dt) (hl : DsAt W0 w m.F A cap l) (hn : l.length <= 1048576) (B : Option Addr) (bl bc : Nat) :
  Calls Tryd.prog 46 #[.pointer (some ⟨m.F, 0, none⟩), .slice A l.length cap, .slice B bl bc] w (ExIdle w) := by
 have HL := Lib.hid hl
 have H := Lib.hid h
 have HE := Lib.hid he
 have hlt := h.lt
 have hne := World.new_ne w _ h.c0
 have hcap := hl.le
 clear h hl he
 have HFIN := Lib.hid (fun (w1 w' : World) (v : EV) (o : Obj) (hb1 : Below (w.alloc o).heap.size (w.alloc o) w1) (hg : w1.grownBy w' (some w.heap.size)) => (⟨v, rfl, below_row9 (((Below.refl w.heap.size w).alloc (Nat.le_refl _) o).trans (hb1.mono (by simp))) hg⟩ : ExIdle w (.returned v.agg) w'))
 by_cases h1 : l.length = 1
 ·
  obtain ⟨d, rfl⟩ : ∃ d, l = [d] := by
   match l, h1 with
   | [d], _ => exact ⟨d, rfl⟩
  obtain ⟨b, o, rfl, hbw, hbF, cs, hrow, hd⟩ := HL.out.nth 0 (by simp)
  obtain ⟨A', c', rfl, _⟩ := hd.items H.out.below H.out.ge
  simp only [List.getElem_cons_zero] at hrow hd
  have c0 : w.cell? ⟨b, o, none⟩ = some (.int .i64 d.k) := by simpa using hrow 0 (by simp)
  have c1 : w.cell? ⟨b, o + 1, none⟩ = some (.int .i64 d.n) := by simpa using hrow 1 (by simp)
  have c2 : w.cell? ⟨b, o + 2, none⟩ = some (.string d.s) := by simpa using hrow 2 (by simp)
  have c3 : w.cell? ⟨b, o + 3, none⟩ = some (.slice A' d.l.length c') := by simpa using hrow 3 (by simp)
  simp only [List.length_cons, List.length_nil] at *
  clear hrow hd h1
  go_enter Tryd.func46, Tryd.ntmps46
  go_wp2_with (first | (go_at_call 64; refine (wrong_idle (H.out.next ((Below.refl _ _).alloc (Nat.le_refl _) _)) HE.out _).mono ?_; rintro e w1 ⟨rfl, hb1⟩; obtain ⟨g1, g2⟩ := bcell hb1; have hsz : w.heap.size < w1.heap.size := Nat.lt_of_lt_of_le (by simp) hb1.size; have HP := Lib.hid (fun w' v hg => HFIN.out w1 w' v _ hb1 hg); clear hb1; unfold evz EV.agg) | (go_at_call 44; refine (expr_idle (H.out.next ((Below.refl _ _).alloc (Nat.le_refl _) _)) HE.out d.k d.n d.s A' d.l.length c' _ _ _).mono ?_; rintro e w1 ⟨v1, rfl, hb1⟩; obtain ⟨g1, g2⟩ := bcell hb1; have hsz : w.heap.size < w1.heap.size := Nat.lt_of_lt_of_le (by simp) hb1.size; have HP := Lib.hid (fun w' v hg => HFIN.out w1 w' v _ hb1 hg); clear hb1; unfold EV.agg))
  ·
   exact bodyPost_ret (v := evz.agg) (by simp [results, Tryd.results46, go_sem, evz, EV.agg, g1]) rfl (HP.out _ evz (za1 _ _ _ _ _ _ _ _ _ _ _))
  exact bodyPost_ret (v := v1.agg) (by simp [results, Tryd.results46, go_sem, EV.agg, g1]) rfl (HP.out _ v1 (za1 _ _ _ _ _ _ _ _ _ _ _))
 go_enter Tryd.func46, Tryd.ntmps46
 go_wp2_with (first | (go_at_call 64; refine (wrong_idle (H.out.next ((Below.refl _ _).alloc (Nat.le_refl _) _)) HE.out _).mono ?_; rintro e w1 ⟨rfl, hb1⟩; obtain ⟨g1, g2⟩ := bcell hb1; have hsz : w.heap.size < w1.heap.size := Nat.lt_of_lt_of_le (by simp) hb1.size; have HP := Lib.hid (fun w' v hg => HFIN.out w1 w' v _ hb1 hg); clear hb1; unfold evz EV.agg) | (go_at_call 68; refine (exprs_idle (H.out.next ((Below.refl _ _).alloc (Nat.le_refl _) _)) HE.out A cap l (HL.out.below ((Below.refl _ _).alloc (Nat.le_refl _) _)) hn _ _ _).mono ?_; rintro e w1 ⟨v1, X, rfl, hO, hXl, hb1⟩; obtain ⟨g1, g2⟩ := bcell hb1; have hsz : w.heap.size < w1.heap.size := Nat.lt_of_lt_of_le (by simp) hb1.size; obtain ⟨v', cp, rfl, hXc, hcm, _⟩ := hO.form; have HP := Lib.hid (fun w' v hg => HFIN.out w1 w' v _ hb1 hg); clear hb1 hO hcm hXl))
 ·
  exact bodyPost_ret (v := evz.agg) (by simp [results, Tryd.results46, go_sem, evz, EV.agg, g1]) rfl (HP.out _ evz (za1 _ _ _ _ _ _ _ _ _ _ _))
 ·
  exact bodyPost_ret (v := evz.agg) (by simp [results, Tryd.results46, go_sem, evz, EV.agg, g1]) rfl (HP.out _ evz (za1 _ _ _ _ _ _ _ _ _ _ _))
 exact bodyPost_ret (by simp [results, Tryd.results46, go_sem, EV.agg, g1]) rfl (HP.out _ ⟨7, 0, 0, ⟨#[]⟩, none, 0, 0, ⟨#[]⟩, 0, none, 0, 0, v', X.length, cp, eC dt0, 0, 0⟩ (za1 _ _ _ _ _ _ _ _ _ _ _))
theorem call_up {p : Pl} {rec : Dt -> Fd Ex} {l : List Dt} (h : p.up = true) : callF p rec l = .err 15 := by unfold callF; rw [if_pos h]
theorem call_big {p : Pl} {rec : Dt -> Fd Ex} {l : List Dt} (h : p.up = false) (h2 : 7 < l.length) : callF p rec l = .err 10 := by unfold callF; rw [if_neg (by rw [h]; simp), if_pos h2]
theorem call_ok {p : Pl} {rec : Dt -> Fd Ex} {l : List Dt} (h : p.up = false) (h2 : ¬ 7 < l.length) : callF p rec l = mapF (eK 9 ⟨#[]⟩) (allF rec l) := by unfold callF; rw [if_neg (by rw [h]; simp), if_neg h2]
set_option maxHeartbeats 4000000 in
theorem call_any {W0 w : World} {m : Fm} {n : Nat} {rec : List ByteArray -> Dt -> Fd Ex} (he : ExprSays W0 m n rec) (h : zx W0 w m 0) (A : Option Addr) (cap : Nat) (l : List Dt) (hl : DsAt W0 w m.F A cap l) (hgd : ∀ x ∈ l, Good n x) (hn : l.length <= 1048576) (B : Option Addr) (bc : Nat) (ls : List ByteArray) (hsc : ScAt w m.F B bc ls) (hls : ls.length <= 40) :
  Calls Tryd.prog 66 #[.pointer (some ⟨m.F, 0, none⟩), .slice A l.length cap, .slice B ls.length bc] w (ExPost W0 w m (callF m.pl (rec ls) l)) := by
 have HL := Lib.hid hl
 have H := Lib.hid h
 have HE := Lib.hid he
 have HGD := Lib.hid hgd
 have HSC := Lib.hid hsc
 have hlt := h.lt
 have hne := World.new_ne w _ h.c0
 have hbc := hsc.le
 have hcap := hl.le
 have c3 := h.c3
 have hm : m.pl.up = m.up := rfl
 cases hup : m.up
 all_goals
  rw [hup] at c3 hm
  clear h hl he hgd hsc hup
 case true =>
  rw [call_up hm]
  clear hm
  go_enter Tryd.func66, Tryd.ntmps66
  go_wp2_with fail
  refine (ze (H.out.next ((Below.refl _ _).alloc (Nat.le_refl _) _)) 15).mono ?_
  rintro e w2 ⟨rfl, hF, hg⟩
  obtain ⟨g1, g2⟩ := gcell hg
  have HF := Lib.hid hF
  have HG := Lib.hid hg
  have hsz : w.heap.size < w2.heap.size := Nat.lt_of_lt_of_le (by simp) hg.size
  clear hF hg
  unfold evz EV.agg
  go_wp2_with fail
  exact bodyPost_ret (v := evz.agg) (by simp [results, Tryd.results66, go_sem, evz, EV.agg, g1, hne]) rfl (zo H.out HF.out HG.out (by decide) evz (za1 _ _ _ _ _ _ _ _ _ _ _))
 have hi1 : IntKind.i64.wrap ((l.length : Int) - 1) = (l.length : Int) - 1 := IntWalk.i64_in _ (by omega)
 by_cases h7 : 7 < l.length
 ·
  rw [call_big hm h7]
  clear hm
  go_enter Tryd.func66, Tryd.ntmps66
  go_wp2_with fail
  refine (ze (H.out.next ((Below.refl _ _).alloc (Nat.le_refl _) _)) 10).mono ?_
  rintro e w2 ⟨rfl, hF, hg⟩
  obtain ⟨g1, g2⟩ := gcell hg
  have HF := Lib.hid hF
  have HG := Lib.hid hg
  have hsz : w.heap.size < w2.heap.size := Nat.lt_of_lt_of_le (by simp) hg.size
  clear hF hg
  unfold evz EV.agg
  go_wp2_with fail
  exact bodyPost_ret (v := evz.agg) (by simp [results, Tryd.results66, go_sem, evz, EV.agg, g1, hne]) rfl (zo H.out HF.out HG.out (by decide) evz (za1 _ _ _ _ _ _ _ _ _ _ _))
 rw [call_ok hm h7]
 clear hm
 obtain ⟨r, hr⟩ : ∃ r, allF (rec ls) l = r := ⟨_, rfl⟩
 have HR := Lib.hid hr
 rw [hr]
 clear hr
 go_enter Tryd.func66, Tryd.ntmps66
 go_wp2_with fail
 refine (exprs_any HE.out (H.out.next ((Below.refl _ _).alloc (Nat.le_refl _) _)) A cap l (HL.out.below ((Below.refl _ _).alloc (Nat.le_refl _) _)) HGD.out hn B bc ls (HSC.out.below ((Below.refl _ _).alloc (Nat.le_refl _) _)) hls).mono ?_
 intro e w1 hpost
 rw [HR.out] at hpost
 cases r with
 | ok xs =>
  obtain ⟨v1, X, rfl, hO, rfl, hXl, hb1⟩ := hpost
  obtain ⟨g1, g2⟩ := bcell hb1
  have hsz : w.heap.size < w1.heap.size := Nat.lt_of_lt_of_le (by simp) hb1.size
  obtain ⟨v', cp, rfl, hXc, hcm, _⟩ := hO.form
  have HP := Lib.hid (fun w' hg => got_build (w' := w') hO (by simp) (((Below.refl w.heap.size w).alloc (Nat.le_refl _) _).trans (hb1.mono (by simp))) hg 9 ⟨#[]⟩ 0 none 0 [] (NmIn.nil _ _ _))
  clear hb1 hO hcm hXl
  go_wp2_with fail
  exact bodyPost_ret (by simp [results, Tryd.results66, go_sem, g1]) rfl (HP.out _ (za1 _ _ _ _ _ _ _ _ _ _ _))
 | err c =>
  obtain ⟨v1, X, rfl, hO, hXl, hc1, hF1, hg1⟩ := hpost
  obtain ⟨g1, g2⟩ := gcell hg1
  have hsz : w.heap.size < w1.heap.size := Nat.lt_of_lt_of_le (by simp) hg1.size
  obtain ⟨v', cp, rfl, hXc, hcm, _⟩ := hO.form
  have HP := Lib.hid (fun w' v hg => zo (w' := w') H.out hF1 hg1 hc1 v hg)
  clear hg1 hO hcm hF1 hc1 hXl
  go_wp2_with fail
  exact bodyPost_ret (by simp [results, Tryd.results66, go_sem, EV.agg, g1, hne]) rfl (HP.out _ ⟨9, 0, 0, ⟨#[]⟩, none, 0, 0, ⟨#[]⟩, 0, none, 0, 0, v', X.length, cp, eC dt0, 0, 0⟩ (za1 _ _ _ _ _ _ _ _ _ _ _))
end Go.Proofs.YtjmeodadkjcmmaaDoor
