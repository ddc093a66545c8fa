import Derived.Test.YtjmeodadkjcmmaaDoorFormF
namespace Go.Proofs.YtjmeodadkjcmmaaDoor
open Go.RowKit Go.ChangeShapes Go.WideShapes Go.Deep Go.ChangeAt
set_option linter.unusedVariables false
set_option maxRecDepth 20000
def LetSays (W0 : World) (m : Fm) (n : Nat) (rec : List ByteArray -> Dt -> Fd Ex) : Prop := ∀ (w : World) (A : Option Addr) (cap : Nat) (l : List Dt) (B : Option Addr) (bc : Nat) (ls : List ByteArray), zx W0 w m 0 -> DsAt W0 w m.F A cap l -> (∀ x ∈ l, Good n x) -> l.length <= 1048576 -> ScAt w m.F B bc ls -> ls.length <= 40 →
 Calls Tryd.prog 79 #[.pointer (some ⟨m.F, 0, none⟩), .slice A l.length cap, .slice B ls.length bc] w (ExPost W0 w m (letF rec ls l))
theorem quote_one {p : Pl} {rec : List ByteArray -> Dt -> Fd Ex} {ls : List ByteArray} {d : Dt} : wordF p rec ls [113, 117, 111, 116, 101] [d] = .ok (eC d) :=
 (if_neg (fun h => absurd rfl h.2.1)).trans (by rfl)
theorem quote_bad {p : Pl} {rec : List ByteArray -> Dt -> Fd Ex} {ls : List ByteArray} {l : List Dt} (h : l.length ≠ 1) : wordF p rec ls [113, 117, 111, 116, 101] l = .err 10 := by
 refine (if_neg (fun h => absurd rfl h.2.1)).trans ?_
 match l, h with
 | [], _ => rfl
 | [_], h => exact absurd rfl h
 | _ :: _ :: _, _ => rfl
theorem was_not {p : Pl} {l : List Dt} (h : p.up = false) : wasF p l = .err 4 := by
 match l with
 | [] => rfl
 | [d] => simp only [wasF]; rw [if_neg (by rw [h]; simp)]
 | _ :: _ :: _ => rfl
theorem was_len {p : Pl} {l : List Dt} (h : l.length ≠ 1) : wasF p l = .err 4 := by
 match l, h with
 | [], _ => rfl
 | [_], h => exact absurd rfl h
 | _ :: _ :: _, _ => rfl
theorem was_kind {p : Pl} {d : Dt} (h : d.k ≠ 3) : wasF p [d] = .err 4 := by
 simp only [wasF]; rw [if_neg (fun e => h e.2)]
theorem was_at {p : Pl} {d : Dt} (h : p.up = true) (hk : d.k = 3) : wasF p [d] = if idxL p.old d.s < 0 then .err 6 else .ok (.mk 15 dt0 ⟨#[]⟩ (idxL p.old d.s) [] []) := by
 simp only [wasF]; rw [if_pos ⟨h, hk⟩]
theorem index_at {s : ByteArray} {ix : Int} (A : Option Addr) (len cap : Nat) (ss : List ByteArray) (w : World) (hc : cap <= maxLen) (hl : len <= cap) (hA : zb1 w A len ss) (h : idxL ss s = ix) :
  Calls Tryd.prog 40 #[.slice A len cap, .string s] w fun e w' => e = .returned (.int .i64 ix) /\ w = w' := by
 have := index_any s A len cap ss w hc hl hA
 rwa [h] at this
theorem idxL_range (ss : List ByteArray) (s : ByteArray) : -1 <= idxL ss s /\ idxL ss s <= ss.length := by
 unfold idxL
 have := List.findIdx_le_length (xs := ss) (p := fun x => x.toList == s.toList)
 split <;> omega
theorem bad_late {W0 w w1 w2 w' : World} {m : Fm} {c : Int} (h : zx W0 w m 0) (hF : zx W0 w2 m c) (hb : Below w.heap.size w w1) (hg : w1.grownBy w2 (some m.F)) (hc : 1 <= c) (v : EV) (hg2 : w2.grownBy w' (some w.heap.size)) : ExPost W0 w m (.err c) (.returned v.agg) w' := by
 obtain ⟨e1, e2⟩ := h.later hF ((zb hb _).trans hg) ⟨hg2.os, hg2.tape, hg2.output, hg2.size, fun k hk => hg2.block k (Nat.lt_of_lt_of_le hk (Nat.le_trans hb.size hg.size)) (fun e => by have := Option.some.inj e; omega)⟩
 exact ⟨v, rfl, hc, e1, e2⟩
set_option maxHeartbeats 4000000 in
theorem special_let {W0 w : World} {m : Fm} {n : Nat} {rec : List ByteArray -> Dt -> Fd Ex} (he : ExprSays W0 m n rec) (hlet : LetSays W0 m n rec) (h : zx W0 w m 0) (A : Option Addr) (cap : Nat) (l : List Dt) (hl : DsAt W0 w m.F A cap l) (hgd : ∀ x ∈ l, Good n x) (hn : l.length <= 1048576) (B : Option Addr) (bc : Nat) (ls : List ByteArray) (hsc : ScAt w m.F B bc ls) (hls : ls.length <= 40) :
  Calls Tryd.prog 67 #[.pointer (some ⟨m.F, 0, none⟩), .string ⟨#[108, 101, 116]⟩, .slice A l.length cap, .slice B ls.length bc] w (ExPost W0 w m (wordF m.pl rec ls [108, 101, 116] l)) := by
 have H := Lib.hid h
 have HE := Lib.hid he
 have HLT := Lib.hid hlet
 have HSC := Lib.hid hsc
 have HL := Lib.hid hl
 have HGD := Lib.hid hgd
 have hlt := h.lt
 have hne := World.new_ne w _ h.c0
 have hbc := hsc.le
 have hcap := hl.le
 have hcapm := hl.cap_
 unfold maxLen at hcapm
 have c3 := h.c3
 have hm : m.pl.up = m.up := rfl
 cases hup : m.up
 all_goals
  rw [hup] at c3 hm
  clear h hl he hgd hsc hup hlet
 case true =>
  rw [show wordF m.pl rec ls [108, 101, 116] l = .err 15 from if_pos ⟨hm, by decide, by decide, by decide⟩]
  clear hm
  go_enter Tryd.func67, Tryd.ntmps67
  go_wp2_with fail
  refine (ze (H.out.next ((Below.refl _ _).alloc (Nat.le_refl _) _)) 15).mono ?_
  rintro e w2 ⟨rfl, hF, hg⟩
  obtain ⟨g1, g2⟩ := gcell hg
  have HF := Lib.hid hF
  have HG := Lib.hid hg
  have hsz : w.heap.size < w2.heap.size := Nat.lt_of_lt_of_le (by simp) hg.size
  clear hF hg
  unfold evz EV.agg
  go_wp2_with fail
  exact bodyPost_ret (v := evz.agg) (by simp [results, Tryd.results67, go_sem, evz, EV.agg, g1, hne]) rfl (zo H.out HF.out HG.out (by decide) evz (za1 _ _ _ _ _ _ _ _ _ _ _))
 rw [show wordF m.pl rec ls [108, 101, 116] l = letF rec ls l from (if_neg (fun h => by rw [hm] at h; exact absurd h.1 (by decide))).trans (by rfl)]
 clear hm
 obtain ⟨r, hr⟩ : ∃ r, letF rec ls l = r := ⟨_, rfl⟩
 have HR := Lib.hid hr
 rw [hr]
 clear hr
 go_enter Tryd.func67, Tryd.ntmps67
 go_wp2_with fail
 refine (HLT.out _ A cap l B bc ls (H.out.next ((Below.refl _ _).alloc (Nat.le_refl _) _)) (HL.out.below ((Below.refl _ _).alloc (Nat.le_refl _) _)) HGD.out hn (HSC.out.below ((Below.refl _ _).alloc (Nat.le_refl _) _)) hls).mono ?_
 intro e w1 hpost
 rw [HR.out] at hpost
 cases r with
 | ok x =>
  obtain ⟨v1, rfl, ht, hlo, hhi, hok, hb1⟩ := hpost
  obtain ⟨g1, g2⟩ := bcell hb1
  have hsz : w.heap.size < w1.heap.size := Nat.lt_of_lt_of_le (by simp) hb1.size
  have HP := Lib.hid (fun w' hg => got_copy (w' := w') ht hlo hhi hok hb1 hg)
  clear hb1 ht hlo hhi hok
  unfold EV.agg
  go_wp2_with fail
  exact bodyPost_ret (v := v1.agg) (by simp [results, Tryd.results67, go_sem, EV.agg, g1]) rfl (HP.out _ (za1 _ _ _ _ _ _ _ _ _ _ _))
 | err c =>
  obtain ⟨v1, rfl, hc1, hF1, hg1⟩ := hpost
  obtain ⟨g1, g2⟩ := gcell hg1
  have hsz : w.heap.size < w1.heap.size := Nat.lt_of_lt_of_le (by simp) hg1.size
  have HP := Lib.hid (fun w' hg => zo (w' := w') H.out hF1 hg1 hc1 v1 hg)
  clear hg1 hF1 hc1
  unfold EV.agg
  go_wp2_with fail
  exact bodyPost_ret (v := v1.agg) (by simp [results, Tryd.results67, go_sem, EV.agg, g1, hne]) rfl (HP.out _ (za1 _ _ _ _ _ _ _ _ _ _ _))
set_option maxHeartbeats 4000000 in
theorem special_begin {W0 w : World} {m : Fm} {n : Nat} {rec : List ByteArray -> Dt -> Fd Ex} (he : ExprSays W0 m n rec) (hlet : LetSays W0 m n rec) (h : zx W0 w m 0) (A : Option Addr) (cap : Nat) (l : List Dt) (hl : DsAt W0 w m.F A cap l) (hgd : ∀ x ∈ l, Good n x) (hn : l.length <= 1048576) (B : Option Addr) (bc : Nat) (ls : List ByteArray) (hsc : ScAt w m.F B bc ls) (hls : ls.length <= 40) :
  Calls Tryd.prog 67 #[.pointer (some ⟨m.F, 0, none⟩), .string ⟨#[98, 101, 103, 105, 110]⟩, .slice A l.length cap, .slice B ls.length bc] w (ExPost W0 w m (wordF m.pl rec ls [98, 101, 103, 105, 110] l)) := by
 have H := Lib.hid h
 have HE := Lib.hid he
 have HLT := Lib.hid hlet
 have HSC := Lib.hid hsc
 have HL := Lib.hid hl
 have HGD := Lib.hid hgd
 have hlt := h.lt
 have hne := World.new_ne w _ h.c0
 have hbc := hsc.le
 have hcap := hl.le
 have hcapm := hl.cap_
 unfold maxLen at hcapm
 have c3 := h.c3
 have hm : m.pl.up = m.up := rfl
 cases hup : m.up
 all_goals
  rw [hup] at c3 hm
  clear h hl he hgd hsc hup hlet
 case true =>
  rw [show wordF m.pl rec ls [98, 101, 103, 105, 110] l = .err 15 from if_pos ⟨hm, by decide, by decide, by decide⟩]
  clear hm
  go_enter Tryd.func67, Tryd.ntmps67
  go_wp2_with fail
  refine (ze (H.out.next ((Below.refl _ _).alloc (Nat.le_refl _) _)) 15).mono ?_
  rintro e w2 ⟨rfl, hF, hg⟩
  obtain ⟨g1, g2⟩ := gcell hg
  have HF := Lib.hid hF
  have HG := Lib.hid hg
  have hsz : w.heap.size < w2.heap.size := Nat.lt_of_lt_of_le (by simp) hg.size
  clear hF hg
  unfold evz EV.agg
  go_wp2_with fail
  exact bodyPost_ret (v := evz.agg) (by simp [results, Tryd.results67, go_sem, evz, EV.agg, g1, hne]) rfl (zo H.out HF.out HG.out (by decide) evz (za1 _ _ _ _ _ _ _ _ _ _ _))
 rw [show wordF m.pl rec ls [98, 101, 103, 105, 110] l = bodyF rec ls l from (if_neg (fun h => by rw [hm] at h; exact absurd h.1 (by decide))).trans (by rfl)]
 clear hm
 obtain ⟨r, hr⟩ : ∃ r, bodyF rec ls l = r := ⟨_, rfl⟩
 have HR := Lib.hid hr
 rw [hr]
 clear hr
 go_enter Tryd.func67, Tryd.ntmps67
 go_wp2_with fail
 refine (body_any HE.out (H.out.next ((Below.refl _ _).alloc (Nat.le_refl _) _)) A cap l (HL.out.below ((Below.refl _ _).alloc (Nat.le_refl _) _)) HGD.out hn B bc ls (HSC.out.below ((Below.refl _ _).alloc (Nat.le_refl _) _))).mono ?_
 intro e w1 hpost
 rw [HR.out] at hpost
 cases r with
 | ok x =>
  obtain ⟨v1, rfl, ht, hlo, hhi, hok, hb1⟩ := hpost
  obtain ⟨g1, g2⟩ := bcell hb1
  have hsz : w.heap.size < w1.heap.size := Nat.lt_of_lt_of_le (by simp) hb1.size
  have HP := Lib.hid (fun w' hg => got_copy (w' := w') ht hlo hhi hok hb1 hg)
  clear hb1 ht hlo hhi hok
  unfold EV.agg
  go_wp2_with fail
  exact bodyPost_ret (v := v1.agg) (by simp [results, Tryd.results67, go_sem, EV.agg, g1]) rfl (HP.out _ (za1 _ _ _ _ _ _ _ _ _ _ _))
 | err c =>
  obtain ⟨v1, rfl, hc1, hF1, hg1⟩ := hpost
  obtain ⟨g1, g2⟩ := gcell hg1
  have hsz : w.heap.size < w1.heap.size := Nat.lt_of_lt_of_le (by simp) hg1.size
  have HP := Lib.hid (fun w' hg => zo (w' := w') H.out hF1 hg1 hc1 v1 hg)
  clear hg1 hF1 hc1
  unfold EV.agg
  go_wp2_with fail
  exact bodyPost_ret (v := v1.agg) (by simp [results, Tryd.results67, go_sem, EV.agg, g1, hne]) rfl (HP.out _ (za1 _ _ _ _ _ _ _ _ _ _ _))
set_option maxHeartbeats 4000000 in
theorem special_set {W0 w : World} {m : Fm} {n : Nat} {rec : List ByteArray -> Dt -> Fd Ex} (he : ExprSays W0 m n rec) (hlet : LetSays W0 m n rec) (h : zx W0 w m 0) (A : Option Addr) (cap : Nat) (l : List Dt) (hl : DsAt W0 w m.F A cap l) (hgd : ∀ x ∈ l, Good n x) (hn : l.length <= 1048576) (B : Option Addr) (bc : Nat) (ls : List ByteArray) (hsc : ScAt w m.F B bc ls) (hls : ls.length <= 40) :
  Calls Tryd.prog 67 #[.pointer (some ⟨m.F, 0, none⟩), .string ⟨#[115, 101, 116, 33]⟩, .slice A l.length cap, .slice B ls.length bc] w (ExPost W0 w m (wordF m.pl rec ls [115, 101, 116, 33] l)) := by
 have H := Lib.hid h
 have HE := Lib.hid he
 have HLT := Lib.hid hlet
 have HSC := Lib.hid hsc
 have HL := Lib.hid hl
 have HGD := Lib.hid hgd
 have hlt := h.lt
 have hne := World.new_ne w _ h.c0
 have hbc := hsc.le
 have hcap := hl.le
 have hcapm := hl.cap_
 unfold maxLen at hcapm
 have c3 := h.c3
 have hm : m.pl.up = m.up := rfl
 cases hup : m.up
 all_goals
  rw [hup] at c3 hm
  clear h hl he hgd hsc hup hlet
 case true =>
  rw [show wordF m.pl rec ls [115, 101, 116, 33] l = .err 15 from if_pos ⟨hm, by decide, by decide, by decide⟩]
  clear hm
  go_enter Tryd.func67, Tryd.ntmps67
  go_wp2_with fail
  refine (ze (H.out.next ((Below.refl _ _).alloc (Nat.le_refl _) _)) 15).mono ?_
  rintro e w2 ⟨rfl, hF, hg⟩
  obtain ⟨g1, g2⟩ := gcell hg
  have HF := Lib.hid hF
  have HG := Lib.hid hg
  have hsz : w.heap.size < w2.heap.size := Nat.lt_of_lt_of_le (by simp) hg.size
  clear hF hg
  unfold evz EV.agg
  go_wp2_with fail
  exact bodyPost_ret (v := evz.agg) (by simp [results, Tryd.results67, go_sem, evz, EV.agg, g1, hne]) rfl (zo H.out HF.out HG.out (by decide) evz (za1 _ _ _ _ _ _ _ _ _ _ _))
 rw [show wordF m.pl rec ls [115, 101, 116, 33] l = setF m.pl rec ls l from (if_neg (fun h => by rw [hm] at h; exact absurd h.1 (by decide))).trans (by rfl)]
 clear hm
 obtain ⟨r, hr⟩ : ∃ r, setF m.pl rec ls l = r := ⟨_, rfl⟩
 have HR := Lib.hid hr
 rw [hr]
 clear hr
 go_enter Tryd.func67, Tryd.ntmps67
 go_wp2_with fail
 refine (set_any HE.out (H.out.next ((Below.refl _ _).alloc (Nat.le_refl _) _)) A cap l (HL.out.below ((Below.refl _ _).alloc (Nat.le_refl _) _)) HGD.out hn B bc ls (HSC.out.below ((Below.refl _ _).alloc (Nat.le_refl _) _)) hls).mono ?_
 intro e w1 hpost
 rw [HR.out] at hpost
 cases r with
 | ok x =>
  obtain ⟨v1, rfl, ht, hlo, hhi, hok, hb1⟩ := hpost
  obtain ⟨g1, g2⟩ := bcell hb1
  have hsz : w.heap.size < w1.heap.size := Nat.lt_of_lt_of_le (by simp) hb1.size
  have HP := Lib.hid (fun w' hg => got_copy (w' := w') ht hlo hhi hok hb1 hg)
  clear hb1 ht hlo hhi hok
  unfold EV.agg
  go_wp2_with fail
  exact bodyPost_ret (v := v1.agg) (by simp [results, Tryd.results67, go_sem, EV.agg, g1]) rfl (HP.out _ (za1 _ _ _ _ _ _ _ _ _ _ _))
 | err c =>
  obtain ⟨v1, rfl, hc1, hF1, hg1⟩ := hpost
  obtain ⟨g1, g2⟩ := gcell hg1
  have hsz : w.heap.size < w1.heap.size := Nat.lt_of_lt_of_le (by simp) hg1.size
  have HP := Lib.hid (fun w' hg => zo (w' := w') H.out hF1 hg1 hc1 v1 hg)
  clear hg1 hF1 hc1
  unfold EV.agg
  go_wp2_with fail
  exact bodyPost_ret (v := v1.agg) (by simp [results, Tryd.results67, go_sem, EV.agg, g1, hne]) rfl (HP.out _ (za1 _ _ _ _ _ _ _ _ _ _ _))
set_option maxHeartbeats 4000000 in
theorem special_record {W0 w : World} {m : Fm} {n : Nat} {rec : List ByteArray -> Dt -> Fd Ex} (he : ExprSays W0 m n rec) (hlet : LetSays W0 m n rec) (h : zx W0 w m 0) (A : Option Addr) (cap : Nat) (l : List Dt) (hl : DsAt W0 w m.F A cap l) (hgd : ∀ x ∈ l, Good n x) (hn : l.length <= 1048576) (B : Option Addr) (bc : Nat) (ls : List ByteArray) (hsc : ScAt w m.F B bc ls) (hls : ls.length <= 40) :
  Calls Tryd.prog 67 #[.pointer (some ⟨m.F, 0, none⟩), .string ⟨#[114, 101, 99, 111, 114, 100]⟩, .slice A l.length cap, .slice B ls.length bc] w (ExPost W0 w m (wordF m.pl rec ls [114, 101, 99, 111, 114, 100] l)) := by
 have H := Lib.hid h
 have HE := Lib.hid he
 have HLT := Lib.hid hlet
 have HSC := Lib.hid hsc
 have HL := Lib.hid hl
 have HGD := Lib.hid hgd
 have hlt := h.lt
 have hne := World.new_ne w _ h.c0
 have hbc := hsc.le
 have hcap := hl.le
 have hcapm := hl.cap_
 unfold maxLen at hcapm
 have c3 := h.c3
 have hm : m.pl.up = m.up := rfl
 cases hup : m.up
 all_goals
  rw [hup] at c3 hm
  clear h hl he hgd hsc hup hlet
 case true =>
  rw [show wordF m.pl rec ls [114, 101, 99, 111, 114, 100] l = .err 15 from if_pos ⟨hm, by decide, by decide, by decide⟩]
  clear hm
  go_enter Tryd.func67, Tryd.ntmps67
  go_wp2_with fail
  refine (ze (H.out.next ((Below.refl _ _).alloc (Nat.le_refl _) _)) 15).mono ?_
  rintro e w2 ⟨rfl, hF, hg⟩
  obtain ⟨g1, g2⟩ := gcell hg
  have HF := Lib.hid hF
  have HG := Lib.hid hg
  have hsz : w.heap.size < w2.heap.size := Nat.lt_of_lt_of_le (by simp) hg.size
  clear hF hg
  unfold evz EV.agg
  go_wp2_with fail
  exact bodyPost_ret (v := evz.agg) (by simp [results, Tryd.results67, go_sem, evz, EV.agg, g1, hne]) rfl (zo H.out HF.out HG.out (by decide) evz (za1 _ _ _ _ _ _ _ _ _ _ _))
 rw [show wordF m.pl rec ls [114, 101, 99, 111, 114, 100] l = .err 4 from (if_neg (fun h => by rw [hm] at h; exact absurd h.1 (by decide))).trans (by rfl)]
 clear hm
 go_enter Tryd.func67, Tryd.ntmps67
 go_wp2_with fail
 refine (ze (H.out.next ((Below.refl _ _).alloc (Nat.le_refl _) _)) 4).mono ?_
 rintro e w2 ⟨rfl, hF, hg⟩
 obtain ⟨g1, g2⟩ := gcell hg
 have HF := Lib.hid hF
 have HG := Lib.hid hg
 have hsz : w.heap.size < w2.heap.size := Nat.lt_of_lt_of_le (by simp) hg.size
 clear hF hg
 unfold evz EV.agg
 go_wp2_with fail
 exact bodyPost_ret (v := evz.agg) (by simp [results, Tryd.results67, go_sem, evz, EV.agg, g1, hne]) rfl (zo H.out HF.out HG.out (by decide) evz (za1 _ _ _ _ _ _ _ _ _ _ _))
set_option maxHeartbeats 4000000 in
theorem special_define {W0 w : World} {m : Fm} {n : Nat} {rec : List ByteArray -> Dt -> Fd Ex} (he : ExprSays W0 m n rec) (hlet : LetSays W0 m n rec) (h : zx W0 w m 0) (A : Option Addr) (cap : Nat) (l : List Dt) (hl : DsAt W0 w m.F A cap l) (hgd : ∀ x ∈ l, Good n x) (hn : l.length <= 1048576) (B : Option Addr) (bc : Nat) (ls : List ByteArray) (hsc : ScAt w m.F B bc ls) (hls : ls.length <= 40) :
  Calls Tryd.prog 67 #[.pointer (some ⟨m.F, 0, none⟩), .string ⟨#[100, 101, 102, 105, 110, 101]⟩, .slice A l.length cap, .slice B ls.length bc] w (ExPost W0 w m (wordF m.pl rec ls [100, 101, 102, 105, 110, 101] l)) := by
 have H := Lib.hid h
 have HE := Lib.hid he
 have HLT := Lib.hid hlet
 have HSC := Lib.hid hsc
 have HL := Lib.hid hl
 have HGD := Lib.hid hgd
 have hlt := h.lt
 have hne := World.new_ne w _ h.c0
 have hbc := hsc.le
 have hcap := hl.le
 have hcapm := hl.cap_
 unfold maxLen at hcapm
 have c3 := h.c3
 have hm : m.pl.up = m.up := rfl
 cases hup : m.up
 all_goals
  rw [hup] at c3 hm
  clear h hl he hgd hsc hup hlet
 case true =>
  rw [show wordF m.pl rec ls [100, 101, 102, 105, 110, 101] l = .err 15 from if_pos ⟨hm, by decide, by decide, by decide⟩]
  clear hm
  go_enter Tryd.func67, Tryd.ntmps67
  go_wp2_with fail
  refine (ze (H.out.next ((Below.refl _ _).alloc (Nat.le_refl _) _)) 15).mono ?_
  rintro e w2 ⟨rfl, hF, hg⟩
  obtain ⟨g1, g2⟩ := gcell hg
  have HF := Lib.hid hF
  have HG := Lib.hid hg
  have hsz : w.heap.size < w2.heap.size := Nat.lt_of_lt_of_le (by simp) hg.size
  clear hF hg
  unfold evz EV.agg
  go_wp2_with fail
  exact bodyPost_ret (v := evz.agg) (by simp [results, Tryd.results67, go_sem, evz, EV.agg, g1, hne]) rfl (zo H.out HF.out HG.out (by decide) evz (za1 _ _ _ _ _ _ _ _ _ _ _))
 rw [show wordF m.pl rec ls [100, 101, 102, 105, 110, 101] l = .err 4 from (if_neg (fun h => by rw [hm] at h; exact absurd h.1 (by decide))).trans (by rfl)]
 clear hm
 go_enter Tryd.func67, Tryd.ntmps67
 go_wp2_with fail
 refine (ze (H.out.next ((Below.refl _ _).alloc (Nat.le_refl _) _)) 4).mono ?_
 rintro e w2 ⟨rfl, hF, hg⟩
 obtain ⟨g1, g2⟩ := gcell hg
 have HF := Lib.hid hF
 have HG := Lib.hid hg
 have hsz : w.heap.size < w2.heap.size := Nat.lt_of_lt_of_le (by simp) hg.size
 clear hF hg
 unfold evz EV.agg
 go_wp2_with fail
 exact bodyPost_ret (v := evz.agg) (by simp [results, Tryd.results67, go_sem, evz, EV.agg, g1, hne]) rfl (zo H.out HF.out HG.out (by decide) evz (za1 _ _ _ _ _ _ _ _ _ _ _))
set_option maxHeartbeats 4000000 in
theorem special_upgrade {W0 w : World} {m : Fm} {n : Nat} {rec : List ByteArray -> Dt -> Fd Ex} (he : ExprSays W0 m n rec) (hlet : LetSays W0 m n rec) (h : zx W0 w m 0) (A : Option Addr) (cap : Nat) (l : List Dt) (hl : DsAt W0 w m.F A cap l) (hgd : ∀ x ∈ l, Good n x) (hn : l.length <= 1048576) (B : Option Addr) (bc : Nat) (ls : List ByteArray) (hsc : ScAt w m.F B bc ls) (hls : ls.length <= 40) :
  Calls Tryd.prog 67 #[.pointer (some ⟨m.F, 0, none⟩), .string ⟨#[117, 112, 103, 114, 97, 100, 101]⟩, .slice A l.length cap, .slice B ls.length bc] w (ExPost W0 w m (wordF m.pl rec ls [117, 112, 103, 114, 97, 100, 101] l)) := by
 have H := Lib.hid h
 have HE := Lib.hid he
 have HLT := Lib.hid hlet
 have HSC := Lib.hid hsc
 have HL := Lib.hid hl
 have HGD := Lib.hid hgd
 have hlt := h.lt
 have hne := World.new_ne w _ h.c0
 have hbc := hsc.le
 have hcap := hl.le
 have hcapm := hl.cap_
 unfold maxLen at hcapm
 have c3 := h.c3
 have hm : m.pl.up = m.up := rfl
 cases hup : m.up
 all_goals
  rw [hup] at c3 hm
  clear h hl he hgd hsc hup hlet
 case true =>
  rw [show wordF m.pl rec ls [117, 112, 103, 114, 97, 100, 101] l = .err 15 from if_pos ⟨hm, by decide, by decide, by decide⟩]
  clear hm
  go_enter Tryd.func67, Tryd.ntmps67
  go_wp2_with fail
  refine (ze (H.out.next ((Below.refl _ _).alloc (Nat.le_refl _) _)) 15).mono ?_
  rintro e w2 ⟨rfl, hF, hg⟩
  obtain ⟨g1, g2⟩ := gcell hg
  have HF := Lib.hid hF
  have HG := Lib.hid hg
  have hsz : w.heap.size < w2.heap.size := Nat.lt_of_lt_of_le (by simp) hg.size
  clear hF hg
  unfold evz EV.agg
  go_wp2_with fail
  exact bodyPost_ret (v := evz.agg) (by simp [results, Tryd.results67, go_sem, evz, EV.agg, g1, hne]) rfl (zo H.out HF.out HG.out (by decide) evz (za1 _ _ _ _ _ _ _ _ _ _ _))
 rw [show wordF m.pl rec ls [117, 112, 103, 114, 97, 100, 101] l = .err 4 from (if_neg (fun h => by rw [hm] at h; exact absurd h.1 (by decide))).trans (by rfl)]
 clear hm
 go_enter Tryd.func67, Tryd.ntmps67
 go_wp2_with fail
 refine (ze (H.out.next ((Below.refl _ _).alloc (Nat.le_refl _) _)) 4).mono ?_
 rintro e w2 ⟨rfl, hF, hg⟩
 obtain ⟨g1, g2⟩ := gcell hg
 have HF := Lib.hid hF
 have HG := Lib.hid hg
 have hsz : w.heap.size < w2.heap.size := Nat.lt_of_lt_of_le (by simp) hg.size
 clear hF hg
 unfold evz EV.agg
 go_wp2_with fail
 exact bodyPost_ret (v := evz.agg) (by simp [results, Tryd.results67, go_sem, evz, EV.agg, g1, hne]) rfl (zo H.out HF.out HG.out (by decide) evz (za1 _ _ _ _ _ _ _ _ _ _ _))
set_option maxHeartbeats 4000000 in
theorem special_if {W0 w : World} {m : Fm} {n : Nat} {rec : List ByteArray -> Dt -> Fd Ex} (he : ExprSays W0 m n rec) (hlet : LetSays W0 m n rec) (h : zx W0 w m 0) (A : Option Addr) (cap : Nat) (l : List Dt) (hl : DsAt W0 w m.F A cap l) (hgd : ∀ x ∈ l, Good n x) (hn : l.length <= 1048576) (B : Option Addr) (bc : Nat) (ls : List ByteArray) (hsc : ScAt w m.F B bc ls) (hls : ls.length <= 40) :
  Calls Tryd.prog 67 #[.pointer (some ⟨m.F, 0, none⟩), .string ⟨#[105, 102]⟩, .slice A l.length cap, .slice B ls.length bc] w (ExPost W0 w m (wordF m.pl rec ls [105, 102] l)) := by
 have H := Lib.hid h
 have HE := Lib.hid he
 have HLT := Lib.hid hlet
 have HSC := Lib.hid hsc
 have HL := Lib.hid hl
 have HGD := Lib.hid hgd
 have hlt := h.lt
 have hne := World.new_ne w _ h.c0
 have hbc := hsc.le
 have hcap := hl.le
 have hcapm := hl.cap_
 unfold maxLen at hcapm
 have c3 := h.c3
 have hm : m.pl.up = m.up := rfl
 cases hup : m.up
 all_goals
  rw [hup] at c3 hm
  clear h hl he hgd hsc hup hlet
 all_goals
  rw [show wordF m.pl rec ls [105, 102] l = (if l.length = 3 then mapF (eK 4 ⟨#[]⟩) (allF (rec ls) l) else .err 10) from (if_neg (fun h => absurd rfl h.2.2.1)).trans (by rfl)]
  clear hm
  by_cases h3 : l.length = 3
  ·
   rw [if_pos h3]
   have hb : ((l.length : Int) != 3) = false := by rw [bne_eq_false_iff_eq]; omega
   clear h3
   obtain ⟨r, hr⟩ : ∃ r, allF (rec ls) l = r := ⟨_, rfl⟩
   have HR := Lib.hid hr
   rw [hr]
   clear hr
   go_enter Tryd.func67, Tryd.ntmps67
   go_wp2_with fail
   refine (exprs_any HE.out (H.out.next ((Below.refl _ _).alloc (Nat.le_refl _) _)) A cap l (HL.out.below ((Below.refl _ _).alloc (Nat.le_refl _) _)) HGD.out hn B bc ls (HSC.out.below ((Below.refl _ _).alloc (Nat.le_refl _) _)) hls).mono ?_
   intro e w1 hpost
   rw [HR.out] at hpost
   cases r with
   | ok xs =>
    obtain ⟨v1, X, rfl, hO, rfl, hXl, hb1⟩ := hpost
    obtain ⟨g1, g2⟩ := bcell hb1
    have hsz : w.heap.size < w1.heap.size := Nat.lt_of_lt_of_le (by simp) hb1.size
    obtain ⟨v', cp, rfl, hXc, hcm, _⟩ := hO.form
    have HP := Lib.hid (fun w' hg => got_build (w' := w') hO (by simp) (((Below.refl w.heap.size w).alloc (Nat.le_refl _) _).trans (hb1.mono (by simp))) hg 4 ⟨#[]⟩ 0 none 0 [] (NmIn.nil _ _ _))
    clear hb1 hO hcm hXl
    go_wp2_with fail
    exact bodyPost_ret (by simp [results, Tryd.results67, go_sem, g1]) rfl (HP.out _ (za1 _ _ _ _ _ _ _ _ _ _ _))
   | err c =>
    obtain ⟨v1, X, rfl, hO, hXl, hc1, hF1, hg1⟩ := hpost
    obtain ⟨g1, g2⟩ := gcell hg1
    have hsz : w.heap.size < w1.heap.size := Nat.lt_of_lt_of_le (by simp) hg1.size
    obtain ⟨v', cp, rfl, hXc, hcm, _⟩ := hO.form
    have HP := Lib.hid (fun w' v hg => zo (w' := w') H.out hF1 hg1 hc1 v hg)
    clear hg1 hO hcm hF1 hc1 hXl
    go_wp2_with fail
    exact bodyPost_ret (by simp [results, Tryd.results67, go_sem, EV.agg, g1, hne]) rfl (HP.out _ ⟨4, 0, 0, ⟨#[]⟩, none, 0, 0, ⟨#[]⟩, 0, none, 0, 0, v', X.length, cp, eC dt0, 0, 0⟩ (za1 _ _ _ _ _ _ _ _ _ _ _))
  rw [if_neg h3]
  have hb : ((l.length : Int) != 3) = true := by rw [bne_iff_ne]; omega
  clear h3
  go_enter Tryd.func67, Tryd.ntmps67
  go_wp2_with fail
  refine (ze (H.out.next ((Below.refl _ _).alloc (Nat.le_refl _) _)) 10).mono ?_
  rintro e w2 ⟨rfl, hF, hg⟩
  obtain ⟨g1, g2⟩ := gcell hg
  have HF := Lib.hid hF
  have HG := Lib.hid hg
  have hsz : w.heap.size < w2.heap.size := Nat.lt_of_lt_of_le (by simp) hg.size
  clear hF hg
  unfold evz EV.agg
  go_wp2_with fail
  exact bodyPost_ret (v := evz.agg) (by simp [results, Tryd.results67, go_sem, evz, EV.agg, g1, hne]) rfl (zo H.out HF.out HG.out (by decide) evz (za1 _ _ _ _ _ _ _ _ _ _ _))
set_option maxHeartbeats 4000000 in
theorem special_quote {W0 w : World} {m : Fm} {n : Nat} {rec : List ByteArray -> Dt -> Fd Ex} (he : ExprSays W0 m n rec) (hlet : LetSays W0 m n rec) (h : zx W0 w m 0) (A : Option Addr) (cap : Nat) (l : List Dt) (hl : DsAt W0 w m.F A cap l) (hgd : ∀ x ∈ l, Good n x) (hn : l.length <= 1048576) (B : Option Addr) (bc : Nat) (ls : List ByteArray) (hsc : ScAt w m.F B bc ls) (hls : ls.length <= 40) :
  Calls Tryd.prog 67 #[.pointer (some ⟨m.F, 0, none⟩), .string ⟨#[113, 117, 111, 116, 101]⟩, .slice A l.length cap, .slice B ls.length bc] w (ExPost W0 w m (wordF m.pl rec ls [113, 117, 111, 116, 101] l)) := by
 have H := Lib.hid h
 have HE := Lib.hid he
 have HLT := Lib.hid hlet
 have HSC := Lib.hid hsc
 have HL := Lib.hid hl
 have HGD := Lib.hid hgd
 have hlt := h.lt
 have hne := World.new_ne w _ h.c0
 have hbc := hsc.le
 have hcap := hl.le
 have hcapm := hl.cap_
 unfold maxLen at hcapm
 have c3 := h.c3
 have hm : m.pl.up = m.up := rfl
 cases hup : m.up
 all_goals
  rw [hup] at c3 hm
  clear h hl he hgd hsc hup hlet
 all_goals
  clear hm
  by_cases h1 : l.length = 1
  ·
   obtain ⟨d, rfl⟩ : ∃ d, l = [d] := by
    match l, h1 with
    | [d], _ => exact ⟨d, rfl⟩
   obtain ⟨b, o, A', c', rfl, hbw, hbF, d0, d1, d2, d3, hd, _, _⟩ := HL.out.first H.out.below H.out.ge
   have HD := Lib.hid hd
   simp only [List.length_cons, List.length_nil, Nat.zero_add] at *
   rw [quote_one]
   clear h1 hd
   go_enter Tryd.func67, Tryd.ntmps67
   go_wp2_with fail
   exact bodyPost_ret (by simp [results, Tryd.results67, go_sem]) rfl (got_plain 1 d.k d.n d.s A' d.l.length c' d ⟨#[]⟩ 0 HD.out ((Below.refl _ _).alloc (Nat.le_refl _) _))
  rw [quote_bad h1]
  have hb : ((l.length : Int) != 1) = true := by rw [bne_iff_ne]; omega
  clear h1
  go_enter Tryd.func67, Tryd.ntmps67
  go_wp2_with fail
  refine (ze (H.out.next ((Below.refl _ _).alloc (Nat.le_refl _) _)) 10).mono ?_
  rintro e w2 ⟨rfl, hF, hg⟩
  obtain ⟨g1, g2⟩ := gcell hg
  have HF := Lib.hid hF
  have HG := Lib.hid hg
  have hsz : w.heap.size < w2.heap.size := Nat.lt_of_lt_of_le (by simp) hg.size
  clear hF hg
  unfold evz EV.agg
  go_wp2_with fail
  exact bodyPost_ret (v := evz.agg) (by simp [results, Tryd.results67, go_sem, evz, EV.agg, g1, hne]) rfl (zo H.out HF.out HG.out (by decide) evz (za1 _ _ _ _ _ _ _ _ _ _ _))
set_option maxHeartbeats 4000000 in
theorem special_was {W0 w : World} {m : Fm} {n : Nat} {rec : List ByteArray -> Dt -> Fd Ex} (he : ExprSays W0 m n rec) (hlet : LetSays W0 m n rec) (h : zx W0 w m 0) (A : Option Addr) (cap : Nat) (l : List Dt) (hl : DsAt W0 w m.F A cap l) (hgd : ∀ x ∈ l, Good n x) (hn : l.length <= 1048576) (B : Option Addr) (bc : Nat) (ls : List ByteArray) (hsc : ScAt w m.F B bc ls) (hls : ls.length <= 40) :
  Calls Tryd.prog 67 #[.pointer (some ⟨m.F, 0, none⟩), .string ⟨#[119, 97, 115]⟩, .slice A l.length cap, .slice B ls.length bc] w (ExPost W0 w m (wordF m.pl rec ls [119, 97, 115] l)) := by
 have H := Lib.hid h
 have HE := Lib.hid he
 have HLT := Lib.hid hlet
 have HSC := Lib.hid hsc
 have HL := Lib.hid hl
 have HGD := Lib.hid hgd
 have hlt := h.lt
 have hne := World.new_ne w _ h.c0
 have hbc := hsc.le
 have hcap := hl.le
 have hcapm := hl.cap_
 unfold maxLen at hcapm
 have c3 := h.c3
 have hm : m.pl.up = m.up := rfl
 cases hup : m.up
 all_goals
  rw [hup] at c3 hm
  clear h hl he hgd hsc hup hlet
 case false =>
  rw [show wordF m.pl rec ls [119, 97, 115] l = wasF m.pl l from (if_neg (fun h => absurd rfl h.2.2.2)).trans (by rfl)]
  rw [was_not hm]
  clear hm
  go_enter Tryd.func67, Tryd.ntmps67
  go_wp2_with fail
  refine (ze (H.out.next ((Below.refl _ _).alloc (Nat.le_refl _) _)) 4).mono ?_
  rintro e w2 ⟨rfl, hF, hg⟩
  obtain ⟨g1, g2⟩ := gcell hg
  have HF := Lib.hid hF
  have HG := Lib.hid hg
  have hsz : w.heap.size < w2.heap.size := Nat.lt_of_lt_of_le (by simp) hg.size
  clear hF hg
  unfold evz EV.agg
  go_wp2_with fail
  exact bodyPost_ret (v := evz.agg) (by simp [results, Tryd.results67, go_sem, evz, EV.agg, g1, hne]) rfl (zo H.out HF.out HG.out (by decide) evz (za1 _ _ _ _ _ _ _ _ _ _ _))
 rw [show wordF m.pl rec ls [119, 97, 115] l = wasF m.pl l from (if_neg (fun h => absurd rfl h.2.2.2)).trans (by rfl)]
 by_cases h1 : l.length = 1
 ·
  obtain ⟨d, rfl⟩ : ∃ d, l = [d] := by
   match l, h1 with
   | [d], _ => exact ⟨d, rfl⟩
  obtain ⟨b, o, A', c', rfl, hbw, hbF, d0, d1, d2, d3, _, _, _⟩ := HL.out.first H.out.below H.out.ge
  simp only [List.length_cons, List.length_nil, Nat.zero_add] at *
  clear h1
  by_cases hk : d.k = 3
  ·
   have hkb : (d.k != 3) = false := by rw [bne_eq_false_iff_eq]; exact hk
   have HW := Lib.hid (was_at (p := m.pl) (d := d) hm hk)
   have hcx : m.ol <= m.oc := H.out.ole
   have c2 := H.out.c2
   obtain ⟨ix, hix⟩ : ∃ ix, idxL m.os d.s = ix := ⟨_, rfl⟩
   have HIX := Lib.hid hix
   have HCT := Lib.hid (fun w' hst => index_at (ix := ix) m.O m.ol m.oc m.os w' H.out.ocap H.out.ole hst hix)
   have hir := idxL_range m.os d.s
   rw [hix] at hir
   have hI : ix <= 9223372036854775807 := by have := hir.2; have := H.out.o.size; have := H.out.ocap; unfold maxLen at this; omega
   have hO := H.out.o
   have HOS := Lib.hid hO
   clear hm hk hix hO
   by_cases h0 : ix < 0
   ·
    rw [HW.out, if_pos (by show idxL m.os d.s < 0; rw [HIX.out]; exact h0)]
    obtain ⟨hir1, _⟩ := hir
    go_enter Tryd.func67, Tryd.ntmps67
    go_wp2_with fail
    go_quiet ((go_at_call 40; exact zr (HCT.out _ (HOS.out.below (by (with_reducible repeat' (first | exact Below.refl _ _ | apply Below.drew | apply below_drewN | refine Below.alloc ?_ ?_ _)); all_goals (try simp); all_goals (try omega))))))
    go_wp2_with fail
    refine (ze (H.out.next (by (with_reducible repeat' (first | exact Below.refl _ _ | apply Below.drew | apply below_drewN | refine Below.alloc ?_ ?_ _)); all_goals (try simp); all_goals (try omega))) 6).mono ?_
    rintro e w2 ⟨rfl, hF, hg⟩
    obtain ⟨g1, g2⟩ := gcell hg
    have HF := Lib.hid hF
    have HG := Lib.hid hg
    have hsz : w.heap.size < w2.heap.size := Nat.lt_of_lt_of_le (by simp) hg.size
    clear hF hg
    unfold evz EV.agg
    go_wp2_with fail
    exact bodyPost_ret (v := evz.agg) (by simp [results, Tryd.results67, go_sem, evz, EV.agg, g1, hne]) rfl (bad_late H.out HF.out (w1 := _) (by (with_reducible repeat' (first | exact Below.refl _ _ | apply Below.drew | apply below_drewN | refine Below.alloc ?_ ?_ _)); all_goals (try simp); all_goals (try omega)) HG.out (by decide) evz (za1 _ _ _ _ _ _ _ _ _ _ _))
   rw [HW.out, if_neg (by show ¬ idxL m.os d.s < 0; rw [HIX.out]; exact h0), show idxL m.pl.old d.s = ix from HIX.out]
   go_enter Tryd.func67, Tryd.ntmps67
   go_wp2_with fail
   go_quiet ((go_at_call 40; exact zr (HCT.out _ (HOS.out.below (by (with_reducible repeat' (first | exact Below.refl _ _ | apply Below.drew | apply below_drewN | refine Below.alloc ?_ ?_ _)); all_goals (try simp); all_goals (try omega))))))
   go_wp2_with fail
   exact bodyPost_ret (by simp [results, Tryd.results67, go_sem]) rfl (got_plain 15 0 0 _ none 0 0 dt0 ⟨#[]⟩ ix (dt0_in W0) (Below.trans (by (with_reducible repeat' (first | exact Below.refl _ _ | apply Below.drew | apply below_drewN | refine Below.alloc ?_ ?_ _)); all_goals (try simp); all_goals (try omega)) (below9 _ _ (Nat.le_refl _) _ _ _ _ _ _ _ _ _ _)))
  have hkb : (d.k != 3) = true := by rw [bne_iff_ne]; exact hk
  rw [was_kind hk]
  clear hm hk
  go_enter Tryd.func67, Tryd.ntmps67
  go_wp2_with fail
  refine (ze (H.out.next ((Below.refl _ _).alloc (Nat.le_refl _) _)) 4).mono ?_
  rintro e w2 ⟨rfl, hF, hg⟩
  obtain ⟨g1, g2⟩ := gcell hg
  have HF := Lib.hid hF
  have HG := Lib.hid hg
  have hsz : w.heap.size < w2.heap.size := Nat.lt_of_lt_of_le (by simp) hg.size
  clear hF hg
  unfold evz EV.agg
  go_wp2_with fail
  exact bodyPost_ret (v := evz.agg) (by simp [results, Tryd.results67, go_sem, evz, EV.agg, g1, hne]) rfl (zo H.out HF.out HG.out (by decide) evz (za1 _ _ _ _ _ _ _ _ _ _ _))
 rw [was_len h1]
 have hb : ((l.length : Int) != 1) = true := by rw [bne_iff_ne]; omega
 clear h1 hm
 go_enter Tryd.func67, Tryd.ntmps67
 go_wp2_with fail
 refine (ze (H.out.next ((Below.refl _ _).alloc (Nat.le_refl _) _)) 4).mono ?_
 rintro e w2 ⟨rfl, hF, hg⟩
 obtain ⟨g1, g2⟩ := gcell hg
 have HF := Lib.hid hF
 have HG := Lib.hid hg
 have hsz : w.heap.size < w2.heap.size := Nat.lt_of_lt_of_le (by simp) hg.size
 clear hF hg
 unfold evz EV.agg
 go_wp2_with fail
 exact bodyPost_ret (v := evz.agg) (by simp [results, Tryd.results67, go_sem, evz, EV.agg, g1, hne]) rfl (zo H.out HF.out HG.out (by decide) evz (za1 _ _ _ _ _ _ _ _ _ _ _))
end Go.Proofs.YtjmeodadkjcmmaaDoor
