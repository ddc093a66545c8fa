import Derived.Test.YtjmeodadkjcmmaaDoorWordA
import Derived.Test.YtjmeodadkjcmmaaDoorWordB
import Derived.Test.YtjmeodadkjcmmaaDoorWordC
namespace Go.Proofs.YtjmeodadkjcmmaaDoor
open Go.RowKit Go.ChangeShapes Go.WideShapes Go.Deep Go.ChangeAt
set_option linter.unusedVariables false
set_option maxRecDepth 20000
set_option maxHeartbeats 8000000 in
theorem word_was {W0 w : World} {m : Fm} {n : Nat} {rec : List ByteArray -> Dt -> Fd Ex} (A : Option Addr) (cap : Nat) (l : List Dt) (B : Option Addr) (bc : Nat) (ls : List ByteArray) (h : zc1 W0 w m B bc ls) (hl : DsAt W0 w m.F A cap l) (hn : l.length <= 1048576) (hls : ls.length <= 40) (s : ByteArray) (hgd : ∀ x ∈ l, Good n x) (hs : s.toList = wWas) : Calls Tryd.prog 53 #[.agg #[.slice m.G m.gl m.gc, .slice m.S m.sl m.sc, .slice m.O m.ol m.oc, .bool m.up, .slice B ls.length bc], .string s, .slice A l.length cap] w (RefPost W0 w (wordF m.pl rec ls s.toList l)) := by
 have HL := Lib.hid hl
 have H := Lib.hid h
 have HNN := Lib.hid hn
 obtain ⟨N, hN⟩ : ∃ N, l.length = N := ⟨_, rfl⟩
 have HN := Lib.hid hN
 obtain ⟨K, hK⟩ : ∃ K, ls.length = K := ⟨_, rfl⟩
 have HK := Lib.hid hK
 have HK40 := Lib.hid hls
 have hcp : N <= cap := by rw [<- hN]; exact hl.le
 have hcm : cap <= 9223372036854775807 := by have := hl.cap_; unfold maxLen at this; omega
 have hNm : N <= 9223372036854775807 := by omega
 rw [hN, hK]
 obtain ⟨r, hr⟩ : ∃ r, wordF m.pl rec ls s.toList l = r := ⟨_, rfl⟩
 have HR := Lib.hid hr
 rw [hr]
 clear hr
 obtain ⟨up, hup⟩ : ∃ up, m.up = up := ⟨_, rfl⟩
 have HUP := Lib.hid hup
 rw [hup]
 obtain ⟨w2, hw2⟩ : ∃ w2, (w.alloc (.cells #[.slice m.G m.gl m.gc, .slice m.S m.sl m.sc, .slice m.O m.ol m.oc, .bool up, .slice B K bc] 60)).alloc (.cells #[.int .i64 0, .int .i64 0, .int .i64 0, .string ⟨#[]⟩, .slice none 0 0, .string ⟨#[]⟩, .int .i64 0, .slice none 0 0, .slice none 0 0] 63) = w2 := ⟨_, rfl⟩
 have hb2 : Below w.heap.size w w2 := by rw [<- hw2]; exact ((Below.refl _ _).alloc (Nat.le_refl _) _).alloc (by simp) _
 have hs2 : w2.heap.size = w.heap.size + 2 := by rw [<- hw2]; simp
 have z : (w.alloc (.cells #[.slice m.G m.gl m.gc, .slice m.S m.sl m.sc, .slice m.O m.ol m.oc, .bool up, .slice B K bc] 60)).heap.size = w.heap.size + 1 := by simp
 have p0 : ∀ j, w2.cell? ⟨w.heap.size, j, none⟩ = (#[.slice m.G m.gl m.gc, .slice m.S m.sl m.sc, .slice m.O m.ol m.oc, .bool up, .slice B K bc] : Array Value)[j]? := fun j => by rw [<- hw2]; exact (World.cell?_alloc_lt _ _ ⟨w.heap.size, j, none⟩ (by simp)).trans (za _ _ _ j)
 have R : ∀ j, w2.cell? ⟨w.heap.size + 1, j, none⟩ = (#[.int .i64 0, .int .i64 0, .int .i64 0, .string ⟨#[]⟩, .slice none 0 0, .string ⟨#[]⟩, .int .i64 0, .slice none 0 0, .slice none 0 0] : Array Value)[j]? := fun j => by rw [<- hw2, <- z]; exact za _ _ _ j
 have RF : ∀ j, w2.frozen? ⟨w.heap.size + 1, j, none⟩ = false := fun j => by rw [<- hw2, <- z]; exact zi _ _ _ j
 have a0 : w2.cell? ⟨w.heap.size, 0, none⟩ = some (.slice m.G m.gl m.gc) := p0 0
 have a1 : w2.cell? ⟨w.heap.size, 1, none⟩ = some (.slice m.S m.sl m.sc) := p0 1
 have a2 : w2.cell? ⟨w.heap.size, 2, none⟩ = some (.slice m.O m.ol m.oc) := p0 2
 have a3 : w2.cell? ⟨w.heap.size, 3, none⟩ = some (.bool up) := p0 3
 have a4 : w2.cell? ⟨w.heap.size, 4, none⟩ = some (.slice B K bc) := p0 4
 have HB2 := Lib.hid hb2
 have HS2 := Lib.hid hs2
 have HRF := Lib.hid (And.intro R RF)
 clear h hl hn hls hN hK hup hb2 hs2 z p0
 have b0 : (s.toList == [113, 117, 111, 116, 101]) = false := by rw [hs]; rfl
 have b1 : (s.toList == [105, 102]) = false := by rw [hs]; rfl
 have b2 : (s.toList == [98, 101, 103, 105, 110]) = false := by rw [hs]; rfl
 have b3 : (s.toList == [108, 97, 109, 98, 100, 97]) = false := by rw [hs]; rfl
 have b4 : (s.toList == [108, 101, 116]) = false := by rw [hs]; rfl
 have b5 : (s.toList == [115, 101, 116, 33]) = false := by rw [hs]; rfl
 have b6 : (s.toList == [119, 97, 115]) = true := by rw [hs]; rfl
 have hr2 : r = wasF m.pl l := by rw [<- HR.out]; unfold wordF; rw [if_neg (fun h => h.2.2.2 hs), if_neg (by rw [hs]; decide), if_neg (by rw [hs]; decide), if_neg (by rw [hs]; decide), if_neg (by rw [hs]; decide), if_neg (by rw [hs]; decide), if_neg (by rw [hs]; decide), if_pos hs]
 have HR2 := Lib.hid hr2
 clear hs hr2 HR
 cases up
 case false =>
  obtain rfl : r = .err 4 := by rw [HR2.out]; exact was_not HUP.out
  go_enter Tryd.func53, Tryd.ntmps53
  go_upto_region 1 with fail
  clear hw2
  go_wp2_with fail
  exact bodyPost_ret (v := .tuple #[evz.agg, .int .i64 4]) (by simp [results, Tryd.results53, go_sem, evz, EV.agg, R]) rfl (zn (by decide) (zg (by omega) HB2.out _ _ _ _ _ _ _ _ _))
 by_cases h1 : N = 1
 case neg =>
  obtain rfl : r = .err 4 := by rw [HR2.out]; exact was_len (by rw [HN.out]; exact h1)
  have i1 : ((N : Int) != 1) = true := by rw [bne_iff_ne]; omega
  go_enter Tryd.func53, Tryd.ntmps53
  go_upto_region 1 with fail
  clear hw2
  go_wp2_with fail
  exact bodyPost_ret (v := .tuple #[evz.agg, .int .i64 4]) (by simp [results, Tryd.results53, go_sem, evz, EV.agg, R]) rfl (zn (by decide) (zg (by omega) HB2.out _ _ _ _ _ _ _ _ _))
 obtain ⟨d, rfl⟩ := List.length_eq_one_iff.1 (HN.out.trans h1)
 subst h1
 obtain ⟨b, o, A', c', rfl, hbw, hbF, d0, d1, d2, d3, hd, hi, ht⟩ := (HL.out.below HB2.out).first (H.out.next HB2.out).below H.out.ge
 clear hd hi ht
 by_cases hk : d.k = 3
 case neg =>
  obtain rfl : r = .err 4 := by rw [HR2.out, was_kind hk]
  have hk2 : (d.k != 3) = true := by simpa using hk
  go_enter Tryd.func53, Tryd.ntmps53
  go_upto_region 1 with fail
  clear hw2
  go_wp2_with fail
  exact bodyPost_ret (v := .tuple #[evz.agg, .int .i64 4]) (by simp [results, Tryd.results53, go_sem, evz, EV.agg, R]) rfl (zn (by decide) (zg (by omega) HB2.out _ _ _ _ _ _ _ _ _))
 have hk2 : (d.k != 3) = false := by simpa using hk
 have HRW := Lib.hid (show r = if idxL m.os d.s < 0 then .err 6 else .ok (.mk 15 dt0 ⟨#[]⟩ (idxL m.os d.s) [] []) from by rw [HR2.out]; exact was_at HUP.out hk)
 clear hk
 have HA := Lib.hid ((H.out.next HB2.out).o)
 have HOS := Lib.hid ((H.out.next HB2.out).o.size)
 have holc : m.ol <= m.oc := H.out.ole
 have hocm : m.oc <= 9223372036854775807 := H.out.ocap
 have holm : m.ol <= 9223372036854775807 := by omega
 have HQ := Lib.hid (show w2.cell? ⟨w.heap.size, 2, none⟩ = some (.slice m.O m.ol m.oc) /\ w2.cell? ⟨b, o + 2, none⟩ = some (.string d.s) from ⟨a2, d2⟩)
 obtain ⟨OL, hOL⟩ : ∃ OL, m.ol = OL := ⟨_, rfl⟩
 have hs2 := HS2.out
 rw [hOL] at HA HOS holc holm HQ a2
 clear hOL
 go_enter Tryd.func53, Tryd.ntmps53
 go_upto_region 1 with fail
 clear hw2
 go_wp2_with fail
 go_loopw [18] (fun i wr => ∃ k : Nat, k <= OL /\ i = .int .i64 k /\ Below w2.heap.size w2 wr /\ ∀ j, j < k -> (hj : j < m.os.length) -> (m.os[j].toList == d.s.toList) = false) (fun i _ => OL - (intOf i).toNat)
 case atStart => exact ⟨0, by omega, rfl, Below.refl _ _, fun j h => absurd h (by omega)⟩
 case round =>
  obtain ⟨k, hk, rfl, hb, hall⟩ := hrel
  have HALL := Lib.hid hall
  have HB := Lib.hid hb
  have hsw := hb.size
  have q0 : wr.cell? ⟨w.heap.size, 2, none⟩ = some (.slice m.O OL m.oc) := (hb.cell (p := ⟨w.heap.size, 2, none⟩) (by show w.heap.size < _; omega)).trans HQ.out.1
  have q1 : wr.cell? ⟨b, o + 2, none⟩ = some (.string d.s) := (hb.cell (p := ⟨b, o + 2, none⟩) hbw).trans HQ.out.2
  have R3 : ∀ j, wr.cell? ⟨w.heap.size + 1, j, none⟩ = (#[.int .i64 0, .int .i64 0, .int .i64 0, .string ⟨#[]⟩, .slice none 0 0, .string ⟨#[]⟩, .int .i64 0, .slice none 0 0, .slice none 0 0] : Array Value)[j]? := fun j => (hb.cell (p := ⟨w.heap.size + 1, j, none⟩) (by show w.heap.size + 1 < _; omega)).trans (HRF.out.1 j)
  have RF3 : ∀ j, wr.frozen? ⟨w.heap.size + 1, j, none⟩ = false := fun j => (hb.frozen (p := ⟨w.heap.size + 1, j, none⟩) (by show w.heap.size + 1 < _; omega)).trans (HRF.out.2 j)
  have HBW := Lib.hid (show Below w.heap.size w wr from HB2.out.trans (hb.mono (by omega)))
  have hk0 : (0 : Int) <= (k : Int) := Int.natCast_nonneg _
  clear hb hall a0 a1 a2 a3 a4 d0 d1 d2 d3 R RF
  by_cases hlt : k < OL
  ·
   have hlt2 : (k : Int) < (OL : Int) := by omega
   have hks : k < m.os.length := by rw [HOS.out]; exact hlt
   obtain ⟨b2, o2, hO, hbw2, hrow⟩ := (HA.out.below HB.out).at_ (by omega)
   have c0 : wr.cell? ⟨b2, o2 + k, none⟩ = some (.string m.os[k]) := hrow k hks
   rw [hO] at q0
   clear hrow hO
   cases he : (m.os[k].toList == d.s.toList)
   ·
    go_wp2_with fail
    go_quiet (fail)
    go_wp2_with fail
    go_roundw
    case rel =>
     refine ⟨k + 1, by omega, by go_num, below_drewN HB.out _, fun j hj hj' => ?_⟩
     by_cases hjk : j = k
     ·
      subst hjk; exact he
     exact HALL.out j (by omega) hj'
    case measure => simp [intOf]; omega
   have hix := idxL_at hks he HALL.out
   obtain rfl : r = .ok (.mk 15 dt0 ⟨#[]⟩ k [] []) := by rw [HRW.out, hix, if_neg (by omega)]
   clear hix
   go_wp2_with fail
   go_quiet (fail)
   go_wp2_with fail
   exact bodyPost_ret (v := .tuple #[.agg #[.int .i64 15, .int .i64 0, .int .i64 0, .string ⟨#[]⟩, .slice none 0 0, .string ⟨#[]⟩, .int .i64 k, .slice none 0 0, .slice none 0 0], .int .i64 0]) (by simp [results, Tryd.results53, go_sem, R3]) rfl (ref_plain 15 0 0 _ none 0 0 dt0 ⟨#[]⟩ k (dt0_in W0) (zg (by omega) (below_drewN HBW.out _) _ _ _ _ _ _ _ _ _))
  obtain rfl : k = OL := by omega
  obtain rfl : r = .err 6 := by rw [HRW.out, idxL_no (fun j hj => HALL.out j (by rw [<- HOS.out]; exact hj) hj), if_pos (by decide)]
  go_wp2_with fail
  exact bodyPost_ret (v := .tuple #[evz.agg, .int .i64 6]) (by simp [results, Tryd.results53, go_sem, evz, EV.agg, R3]) rfl (zn (by decide) (zg (by omega) HBW.out _ _ _ _ _ _ _ _ _))
/- Contract of (place).formedWord, all words (printed by gen_formedr.py). -/
theorem word_any {W0 w : World} {m : Fm} {n : Nat} {rec : List ByteArray -> Dt -> Fd Ex} (A : Option Addr) (cap : Nat) (l : List Dt) (B : Option Addr) (bc : Nat) (ls : List ByteArray) (h : zc1 W0 w m B bc ls) (hl : DsAt W0 w m.F A cap l) (hn : l.length <= 1048576) (hls : ls.length <= 40) (s : ByteArray) (he : RefSays W0 m n rec) (hlet : RefLet W0 m n rec) (hgd : ∀ x ∈ l, Good n x) : Calls Tryd.prog 53 #[.agg #[.slice m.G m.gl m.gc, .slice m.S m.sl m.sc, .slice m.O m.ol m.oc, .bool m.up, .slice B ls.length bc], .string s, .slice A l.length cap] w (RefPost W0 w (wordF m.pl rec ls s.toList l)) := by
 by_cases h0 : s.toList = wQuote
 ·
  exact word_quote (n := n) (rec := rec) A cap l B bc ls h hl hn hls s h0
 by_cases h1 : s.toList = wIf
 ·
  exact word_if (n := n) (rec := rec) A cap l B bc ls h hl hn hls s he hgd h1
 by_cases h6 : s.toList = wWas
 ·
  exact word_was (n := n) (rec := rec) A cap l B bc ls h hl hn hls s hgd h6
 cases hu : m.up
 case true =>
  have := word_pure (n := n) (rec := rec) A cap l B bc ls h hl hn hls s hu h0 h1 h6
  rwa [hu] at this
 have hres : Calls Tryd.prog 53 #[.agg #[.slice m.G m.gl m.gc, .slice m.S m.sl m.sc, .slice m.O m.ol m.oc, .bool m.up, .slice B ls.length bc], .string s, .slice A l.length cap] w (RefPost W0 w (wordF m.pl rec ls s.toList l)) := by
  by_cases h2 : s.toList = wBegin
  ·
   exact word_begin (n := n) (rec := rec) A cap l B bc ls h hl hn hls s he hgd hu h2
  by_cases h3 : s.toList = wLambda
  ·
   exact word_lambda (n := n) (rec := rec) A cap l B bc ls h hl hn hls s he hgd hu h3
  by_cases h4 : s.toList = wLet
  ·
   exact word_let (n := n) (rec := rec) A cap l B bc ls h hl hn hls s hlet hgd hu h4
  by_cases h5 : s.toList = wSet
  ·
   exact word_set (n := n) (rec := rec) A cap l B bc ls h hl hn hls s he hgd hu h5
  exact word_none (n := n) (rec := rec) A cap l B bc ls h hl hn hls s hu h0 h1 h2 h3 h4 h5 h6
 rwa [hu] at hres
end Go.Proofs.YtjmeodadkjcmmaaDoor
