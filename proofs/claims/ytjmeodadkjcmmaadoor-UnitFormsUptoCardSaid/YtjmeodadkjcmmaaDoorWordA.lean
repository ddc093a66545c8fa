import Derived.Test.YtjmeodadkjcmmaaDoorBodyU
import Derived.Test.YtjmeodadkjcmmaaDoorRopU
namespace Go.Proofs.YtjmeodadkjcmmaaDoor
open Go.RowKit Go.ChangeShapes Go.WideShapes Go.Deep Go.ChangeAt
set_option linter.unusedVariables false
set_option maxRecDepth 20000
def quoteR : List Dt -> Fd Ex
 | [d] => .ok (eC d)
 | _ => .err 10
theorem wordF_quote {p : Pl} {rec : List ByteArray -> Dt -> Fd Ex} {ls : List ByteArray} {w : List UInt8} (hs : w = wQuote) (l : List Dt) : wordF p rec ls w l = quoteR l := by
 unfold wordF
 rw [if_neg (fun h => h.2.1 hs), if_pos hs]
 match l with
 | [] => rfl
 | [d] => rfl
 | a :: b :: q => rfl
set_option maxHeartbeats 4000000 in
theorem word_pure {W0 w : World} {m : Fm} {n : Nat} {rec : List ByteArray -> Dt -> Fd Ex} (A : Option Addr) (cap : Nat) (l : List Dt) (B : Option Addr) (bc : Nat) (ls : List ByteArray) (h : zc1 W0 w m B bc ls) (hl : DsAt W0 w m.F A cap l) (hn : l.length <= 1048576) (hls : ls.length <= 40) (s : ByteArray) (hu : m.up = true) (h1 : s.toList ≠ wQuote) (h2 : s.toList ≠ wIf) (h3 : s.toList ≠ wWas) : Calls Tryd.prog 53 #[.agg #[.slice m.G m.gl m.gc, .slice m.S m.sl m.sc, .slice m.O m.ol m.oc, .bool m.up, .slice B ls.length bc], .string s, .slice A l.length cap] w (RefPost W0 w (wordF m.pl rec ls s.toList l)) := by
 have HL := Lib.hid hl
 have H := Lib.hid h
 have HNN := Lib.hid hn
 obtain ⟨N, hN⟩ : ∃ N, l.length = N := ⟨_, rfl⟩
 have HN := Lib.hid hN
 obtain ⟨K, hK⟩ : ∃ K, ls.length = K := ⟨_, rfl⟩
 have HK := Lib.hid hK
 have HK40 := Lib.hid hls
 have hcp : N <= cap := by rw [<- hN]; exact hl.le
 have hcm : cap <= 9223372036854775807 := by have := hl.cap_; unfold maxLen at this; omega
 have hNm : N <= 9223372036854775807 := by omega
 rw [hN, hK]
 obtain ⟨r, hr⟩ : ∃ r, wordF m.pl rec ls s.toList l = r := ⟨_, rfl⟩
 have HR := Lib.hid hr
 rw [hr]
 clear hr
 obtain ⟨up, hup⟩ : ∃ up, m.up = up := ⟨_, rfl⟩
 have HUP := Lib.hid hup
 rw [hup]
 obtain ⟨w2, hw2⟩ : ∃ w2, (w.alloc (.cells #[.slice m.G m.gl m.gc, .slice m.S m.sl m.sc, .slice m.O m.ol m.oc, .bool up, .slice B K bc] 60)).alloc (.cells #[.int .i64 0, .int .i64 0, .int .i64 0, .string ⟨#[]⟩, .slice none 0 0, .string ⟨#[]⟩, .int .i64 0, .slice none 0 0, .slice none 0 0] 63) = w2 := ⟨_, rfl⟩
 have hb2 : Below w.heap.size w w2 := by rw [<- hw2]; exact ((Below.refl _ _).alloc (Nat.le_refl _) _).alloc (by simp) _
 have hs2 : w2.heap.size = w.heap.size + 2 := by rw [<- hw2]; simp
 have z : (w.alloc (.cells #[.slice m.G m.gl m.gc, .slice m.S m.sl m.sc, .slice m.O m.ol m.oc, .bool up, .slice B K bc] 60)).heap.size = w.heap.size + 1 := by simp
 have p0 : ∀ j, w2.cell? ⟨w.heap.size, j, none⟩ = (#[.slice m.G m.gl m.gc, .slice m.S m.sl m.sc, .slice m.O m.ol m.oc, .bool up, .slice B K bc] : Array Value)[j]? := fun j => by rw [<- hw2]; exact (World.cell?_alloc_lt _ _ ⟨w.heap.size, j, none⟩ (by simp)).trans (za _ _ _ j)
 have R : ∀ j, w2.cell? ⟨w.heap.size + 1, j, none⟩ = (#[.int .i64 0, .int .i64 0, .int .i64 0, .string ⟨#[]⟩, .slice none 0 0, .string ⟨#[]⟩, .int .i64 0, .slice none 0 0, .slice none 0 0] : Array Value)[j]? := fun j => by rw [<- hw2, <- z]; exact za _ _ _ j
 have RF : ∀ j, w2.frozen? ⟨w.heap.size + 1, j, none⟩ = false := fun j => by rw [<- hw2, <- z]; exact zi _ _ _ j
 have a0 : w2.cell? ⟨w.heap.size, 0, none⟩ = some (.slice m.G m.gl m.gc) := p0 0
 have a1 : w2.cell? ⟨w.heap.size, 1, none⟩ = some (.slice m.S m.sl m.sc) := p0 1
 have a2 : w2.cell? ⟨w.heap.size, 2, none⟩ = some (.slice m.O m.ol m.oc) := p0 2
 have a3 : w2.cell? ⟨w.heap.size, 3, none⟩ = some (.bool up) := p0 3
 have a4 : w2.cell? ⟨w.heap.size, 4, none⟩ = some (.slice B K bc) := p0 4
 have HB2 := Lib.hid hb2
 have HS2 := Lib.hid hs2
 have HRF := Lib.hid (And.intro R RF)
 clear h hl hn hls hN hK hup hb2 hs2 z p0
 obtain rfl : r = .err 15 := by rw [<- HR.out]; unfold wordF; rw [if_pos ⟨hu, h1, h2, h3⟩]
 obtain rfl : up = true := by rw [<- HUP.out, hu]
 have b0 : (s.toList == [113, 117, 111, 116, 101]) = false := by simpa [wQuote] using h1
 have b1 : (s.toList == [105, 102]) = false := by simpa [wIf] using h2
 have b6 : (s.toList == [119, 97, 115]) = false := by simpa [wWas] using h3
 clear hu h1 h2 h3
 go_enter Tryd.func53, Tryd.ntmps53
 go_upto_region 1 with fail
 clear hw2
 go_wp2_with fail
 exact bodyPost_ret (v := .tuple #[evz.agg, .int .i64 15]) (by simp [results, Tryd.results53, go_sem, evz, EV.agg, R]) rfl (zn (by decide) (zg (by omega) HB2.out _ _ _ _ _ _ _ _ _))
set_option maxHeartbeats 4000000 in
theorem word_none {W0 w : World} {m : Fm} {n : Nat} {rec : List ByteArray -> Dt -> Fd Ex} (A : Option Addr) (cap : Nat) (l : List Dt) (B : Option Addr) (bc : Nat) (ls : List ByteArray) (h : zc1 W0 w m B bc ls) (hl : DsAt W0 w m.F A cap l) (hn : l.length <= 1048576) (hls : ls.length <= 40) (s : ByteArray) (hu : m.up = false) (h0 : s.toList ≠ wQuote) (h1 : s.toList ≠ wIf) (h2 : s.toList ≠ wBegin) (h3 : s.toList ≠ wLambda) (h4 : s.toList ≠ wLet) (h5 : s.toList ≠ wSet) (h6 : s.toList ≠ wWas) : Calls Tryd.prog 53 #[.agg #[.slice m.G m.gl m.gc, .slice m.S m.sl m.sc, .slice m.O m.ol m.oc, .bool m.up, .slice B ls.length bc], .string s, .slice A l.length cap] w (RefPost W0 w (wordF m.pl rec ls s.toList l)) := by
 have HL := Lib.hid hl
 have H := Lib.hid h
 have HNN := Lib.hid hn
 obtain ⟨N, hN⟩ : ∃ N, l.length = N := ⟨_, rfl⟩
 have HN := Lib.hid hN
 obtain ⟨K, hK⟩ : ∃ K, ls.length = K := ⟨_, rfl⟩
 have HK := Lib.hid hK
 have HK40 := Lib.hid hls
 have hcp : N <= cap := by rw [<- hN]; exact hl.le
 have hcm : cap <= 9223372036854775807 := by have := hl.cap_; unfold maxLen at this; omega
 have hNm : N <= 9223372036854775807 := by omega
 rw [hN, hK]
 obtain ⟨r, hr⟩ : ∃ r, wordF m.pl rec ls s.toList l = r := ⟨_, rfl⟩
 have HR := Lib.hid hr
 rw [hr]
 clear hr
 obtain ⟨up, hup⟩ : ∃ up, m.up = up := ⟨_, rfl⟩
 have HUP := Lib.hid hup
 rw [hup]
 obtain ⟨w2, hw2⟩ : ∃ w2, (w.alloc (.cells #[.slice m.G m.gl m.gc, .slice m.S m.sl m.sc, .slice m.O m.ol m.oc, .bool up, .slice B K bc] 60)).alloc (.cells #[.int .i64 0, .int .i64 0, .int .i64 0, .string ⟨#[]⟩, .slice none 0 0, .string ⟨#[]⟩, .int .i64 0, .slice none 0 0, .slice none 0 0] 63) = w2 := ⟨_, rfl⟩
 have hb2 : Below w.heap.size w w2 := by rw [<- hw2]; exact ((Below.refl _ _).alloc (Nat.le_refl _) _).alloc (by simp) _
 have hs2 : w2.heap.size = w.heap.size + 2 := by rw [<- hw2]; simp
 have z : (w.alloc (.cells #[.slice m.G m.gl m.gc, .slice m.S m.sl m.sc, .slice m.O m.ol m.oc, .bool up, .slice B K bc] 60)).heap.size = w.heap.size + 1 := by simp
 have p0 : ∀ j, w2.cell? ⟨w.heap.size, j, none⟩ = (#[.slice m.G m.gl m.gc, .slice m.S m.sl m.sc, .slice m.O m.ol m.oc, .bool up, .slice B K bc] : Array Value)[j]? := fun j => by rw [<- hw2]; exact (World.cell?_alloc_lt _ _ ⟨w.heap.size, j, none⟩ (by simp)).trans (za _ _ _ j)
 have R : ∀ j, w2.cell? ⟨w.heap.size + 1, j, none⟩ = (#[.int .i64 0, .int .i64 0, .int .i64 0, .string ⟨#[]⟩, .slice none 0 0, .string ⟨#[]⟩, .int .i64 0, .slice none 0 0, .slice none 0 0] : Array Value)[j]? := fun j => by rw [<- hw2, <- z]; exact za _ _ _ j
 have RF : ∀ j, w2.frozen? ⟨w.heap.size + 1, j, none⟩ = false := fun j => by rw [<- hw2, <- z]; exact zi _ _ _ j
 have a0 : w2.cell? ⟨w.heap.size, 0, none⟩ = some (.slice m.G m.gl m.gc) := p0 0
 have a1 : w2.cell? ⟨w.heap.size, 1, none⟩ = some (.slice m.S m.sl m.sc) := p0 1
 have a2 : w2.cell? ⟨w.heap.size, 2, none⟩ = some (.slice m.O m.ol m.oc) := p0 2
 have a3 : w2.cell? ⟨w.heap.size, 3, none⟩ = some (.bool up) := p0 3
 have a4 : w2.cell? ⟨w.heap.size, 4, none⟩ = some (.slice B K bc) := p0 4
 have HB2 := Lib.hid hb2
 have HS2 := Lib.hid hs2
 have HRF := Lib.hid (And.intro R RF)
 clear h hl hn hls hN hK hup hb2 hs2 z p0
 obtain rfl : r = .err 4 := by rw [<- HR.out]; unfold wordF; rw [if_neg (by rw [show m.pl.up = false from hu]; simp), if_neg h0, if_neg h1, if_neg h4, if_neg h3, if_neg h2, if_neg h5, if_neg h6]
 obtain rfl : up = false := by rw [<- HUP.out, hu]
 have b0 : (s.toList == [113, 117, 111, 116, 101]) = false := by simpa [wQuote] using h0
 have b1 : (s.toList == [105, 102]) = false := by simpa [wIf] using h1
 have b2 : (s.toList == [98, 101, 103, 105, 110]) = false := by simpa [wBegin] using h2
 have b3 : (s.toList == [108, 97, 109, 98, 100, 97]) = false := by simpa [wLambda] using h3
 have b4 : (s.toList == [108, 101, 116]) = false := by simpa [wLet] using h4
 have b5 : (s.toList == [115, 101, 116, 33]) = false := by simpa [wSet] using h5
 have b6 : (s.toList == [119, 97, 115]) = false := by simpa [wWas] using h6
 clear hu h0 h1 h2 h3 h4 h5 h6
 go_enter Tryd.func53, Tryd.ntmps53
 go_upto_region 1 with fail
 clear hw2
 go_wp2_with fail
 exact bodyPost_ret (v := .tuple #[evz.agg, .int .i64 4]) (by simp [results, Tryd.results53, go_sem, evz, EV.agg, R]) rfl (zn (by decide) (zg (by omega) HB2.out _ _ _ _ _ _ _ _ _))
set_option maxHeartbeats 4000000 in
theorem word_quote {W0 w : World} {m : Fm} {n : Nat} {rec : List ByteArray -> Dt -> Fd Ex} (A : Option Addr) (cap : Nat) (l : List Dt) (B : Option Addr) (bc : Nat) (ls : List ByteArray) (h : zc1 W0 w m B bc ls) (hl : DsAt W0 w m.F A cap l) (hn : l.length <= 1048576) (hls : ls.length <= 40) (s : ByteArray) (hs : s.toList = wQuote) : Calls Tryd.prog 53 #[.agg #[.slice m.G m.gl m.gc, .slice m.S m.sl m.sc, .slice m.O m.ol m.oc, .bool m.up, .slice B ls.length bc], .string s, .slice A l.length cap] w (RefPost W0 w (wordF m.pl rec ls s.toList l)) := by
 have HL := Lib.hid hl
 have H := Lib.hid h
 have HNN := Lib.hid hn
 obtain ⟨N, hN⟩ : ∃ N, l.length = N := ⟨_, rfl⟩
 have HN := Lib.hid hN
 obtain ⟨K, hK⟩ : ∃ K, ls.length = K := ⟨_, rfl⟩
 have HK := Lib.hid hK
 have HK40 := Lib.hid hls
 have hcp : N <= cap := by rw [<- hN]; exact hl.le
 have hcm : cap <= 9223372036854775807 := by have := hl.cap_; unfold maxLen at this; omega
 have hNm : N <= 9223372036854775807 := by omega
 rw [hN, hK]
 obtain ⟨r, hr⟩ : ∃ r, wordF m.pl rec ls s.toList l = r := ⟨_, rfl⟩
 have HR := Lib.hid hr
 rw [hr]
 clear hr
 obtain ⟨up, hup⟩ : ∃ up, m.up = up := ⟨_, rfl⟩
 have HUP := Lib.hid hup
 rw [hup]
 obtain ⟨w2, hw2⟩ : ∃ w2, (w.alloc (.cells #[.slice m.G m.gl m.gc, .slice m.S m.sl m.sc, .slice m.O m.ol m.oc, .bool up, .slice B K bc] 60)).alloc (.cells #[.int .i64 0, .int .i64 0, .int .i64 0, .string ⟨#[]⟩, .slice none 0 0, .string ⟨#[]⟩, .int .i64 0, .slice none 0 0, .slice none 0 0] 63) = w2 := ⟨_, rfl⟩
 have hb2 : Below w.heap.size w w2 := by rw [<- hw2]; exact ((Below.refl _ _).alloc (Nat.le_refl _) _).alloc (by simp) _
 have hs2 : w2.heap.size = w.heap.size + 2 := by rw [<- hw2]; simp
 have z : (w.alloc (.cells #[.slice m.G m.gl m.gc, .slice m.S m.sl m.sc, .slice m.O m.ol m.oc, .bool up, .slice B K bc] 60)).heap.size = w.heap.size + 1 := by simp
 have p0 : ∀ j, w2.cell? ⟨w.heap.size, j, none⟩ = (#[.slice m.G m.gl m.gc, .slice m.S m.sl m.sc, .slice m.O m.ol m.oc, .bool up, .slice B K bc] : Array Value)[j]? := fun j => by rw [<- hw2]; exact (World.cell?_alloc_lt _ _ ⟨w.heap.size, j, none⟩ (by simp)).trans (za _ _ _ j)
 have R : ∀ j, w2.cell? ⟨w.heap.size + 1, j, none⟩ = (#[.int .i64 0, .int .i64 0, .int .i64 0, .string ⟨#[]⟩, .slice none 0 0, .string ⟨#[]⟩, .int .i64 0, .slice none 0 0, .slice none 0 0] : Array Value)[j]? := fun j => by rw [<- hw2, <- z]; exact za _ _ _ j
 have RF : ∀ j, w2.frozen? ⟨w.heap.size + 1, j, none⟩ = false := fun j => by rw [<- hw2, <- z]; exact zi _ _ _ j
 have a0 : w2.cell? ⟨w.heap.size, 0, none⟩ = some (.slice m.G m.gl m.gc) := p0 0
 have a1 : w2.cell? ⟨w.heap.size, 1, none⟩ = some (.slice m.S m.sl m.sc) := p0 1
 have a2 : w2.cell? ⟨w.heap.size, 2, none⟩ = some (.slice m.O m.ol m.oc) := p0 2
 have a3 : w2.cell? ⟨w.heap.size, 3, none⟩ = some (.bool up) := p0 3
 have a4 : w2.cell? ⟨w.heap.size, 4, none⟩ = some (.slice B K bc) := p0 4
 have HB2 := Lib.hid hb2
 have HS2 := Lib.hid hs2
 have HRF := Lib.hid (And.intro R RF)
 clear h hl hn hls hN hK hup hb2 hs2 z p0
 have b0 : (s.toList == [113, 117, 111, 116, 101]) = true := by rw [hs]; rfl
 have b1 : (s.toList == [105, 102]) = false := by rw [hs]; rfl
 have b2 : (s.toList == [98, 101, 103, 105, 110]) = false := by rw [hs]; rfl
 have b3 : (s.toList == [108, 97, 109, 98, 100, 97]) = false := by rw [hs]; rfl
 have b4 : (s.toList == [108, 101, 116]) = false := by rw [hs]; rfl
 have b5 : (s.toList == [115, 101, 116, 33]) = false := by rw [hs]; rfl
 have b6 : (s.toList == [119, 97, 115]) = false := by rw [hs]; rfl
 have hr2 : r = quoteR l := by rw [<- HR.out]; exact wordF_quote hs l
 clear hs
 by_cases h1 : N = 1
 ·
  obtain ⟨d, rfl⟩ := List.length_eq_one_iff.1 (HN.out.trans h1)
  obtain rfl : r = .ok (eC d) := hr2
  obtain ⟨b, o, rfl, hbw, hbF, cs, hrow, hd⟩ := (HL.out.below HB2.out).nth 0 (by simp)
  obtain ⟨A', c', rfl, _⟩ := hd.items (H.out.next HB2.out).below H.out.ge
  have q0 : w2.cell? ⟨b, o, none⟩ = some (.int .i64 d.k) := by simpa using hrow 0 (by simp)
  have q1 : w2.cell? ⟨b, o + 1, none⟩ = some (.int .i64 d.n) := by simpa using hrow 1 (by simp)
  have q2 : w2.cell? ⟨b, o + 2, none⟩ = some (.string d.s) := by simpa using hrow 2 (by simp)
  have q3 : w2.cell? ⟨b, o + 3, none⟩ = some (.slice A' d.l.length c') := by simpa using hrow 3 (by simp)
  have HD := Lib.hid hd
  subst h1
  clear hrow hd
  cases up
  all_goals
   go_enter Tryd.func53, Tryd.ntmps53
   go_upto_region 1 with fail
   clear hw2
   go_wp2_with fail
   exact bodyPost_ret (v := .tuple #[.agg #[.int .i64 1, .int .i64 d.k, .int .i64 d.n, .string d.s, .slice A' d.l.length c', .string ⟨#[]⟩, .int .i64 0, .slice none 0 0, .slice none 0 0], .int .i64 0]) (by simp [results, Tryd.results53, go_sem, R]) rfl (ref_plain 1 d.k d.n d.s A' d.l.length c' d ⟨#[]⟩ 0 HD.out (zg (by omega) HB2.out _ _ _ _ _ _ _ _ _))
 obtain rfl : r = .err 10 := by
  rw [hr2]
  match l, HN.out with
  | [], _ => rfl
  | [d], h => exact absurd h.symm h1
  | a :: b :: q, _ => rfl
 have i1 : ((N : Int) == 1) = false := by rw [beq_eq_false_iff_ne]; omega
 clear hr2
 cases up
 all_goals
  go_enter Tryd.func53, Tryd.ntmps53
  go_upto_region 1 with fail
  clear hw2
  go_wp2_with fail
  exact bodyPost_ret (v := .tuple #[evz.agg, .int .i64 10]) (by simp [results, Tryd.results53, go_sem, evz, EV.agg, R]) rfl (zn (by decide) (zg (by omega) HB2.out _ _ _ _ _ _ _ _ _))
set_option maxHeartbeats 4000000 in
theorem word_if {W0 w : World} {m : Fm} {n : Nat} {rec : List ByteArray -> Dt -> Fd Ex} (A : Option Addr) (cap : Nat) (l : List Dt) (B : Option Addr) (bc : Nat) (ls : List ByteArray) (h : zc1 W0 w m B bc ls) (hl : DsAt W0 w m.F A cap l) (hn : l.length <= 1048576) (hls : ls.length <= 40) (s : ByteArray) (he : RefSays W0 m n rec) (hgd : ∀ x ∈ l, Good n x) (hs : s.toList = wIf) : Calls Tryd.prog 53 #[.agg #[.slice m.G m.gl m.gc, .slice m.S m.sl m.sc, .slice m.O m.ol m.oc, .bool m.up, .slice B ls.length bc], .string s, .slice A l.length cap] w (RefPost W0 w (wordF m.pl rec ls s.toList l)) := by
 have HL := Lib.hid hl
 have H := Lib.hid h
 have HNN := Lib.hid hn
 obtain ⟨N, hN⟩ : ∃ N, l.length = N := ⟨_, rfl⟩
 have HN := Lib.hid hN
 obtain ⟨K, hK⟩ : ∃ K, ls.length = K := ⟨_, rfl⟩
 have HK := Lib.hid hK
 have HK40 := Lib.hid hls
 have hcp : N <= cap := by rw [<- hN]; exact hl.le
 have hcm : cap <= 9223372036854775807 := by have := hl.cap_; unfold maxLen at this; omega
 have hNm : N <= 9223372036854775807 := by omega
 rw [hN, hK]
 obtain ⟨r, hr⟩ : ∃ r, wordF m.pl rec ls s.toList l = r := ⟨_, rfl⟩
 have HR := Lib.hid hr
 rw [hr]
 clear hr
 obtain ⟨up, hup⟩ : ∃ up, m.up = up := ⟨_, rfl⟩
 have HUP := Lib.hid hup
 rw [hup]
 obtain ⟨w2, hw2⟩ : ∃ w2, (w.alloc (.cells #[.slice m.G m.gl m.gc, .slice m.S m.sl m.sc, .slice m.O m.ol m.oc, .bool up, .slice B K bc] 60)).alloc (.cells #[.int .i64 0, .int .i64 0, .int .i64 0, .string ⟨#[]⟩, .slice none 0 0, .string ⟨#[]⟩, .int .i64 0, .slice none 0 0, .slice none 0 0] 63) = w2 := ⟨_, rfl⟩
 have hb2 : Below w.heap.size w w2 := by rw [<- hw2]; exact ((Below.refl _ _).alloc (Nat.le_refl _) _).alloc (by simp) _
 have hs2 : w2.heap.size = w.heap.size + 2 := by rw [<- hw2]; simp
 have z : (w.alloc (.cells #[.slice m.G m.gl m.gc, .slice m.S m.sl m.sc, .slice m.O m.ol m.oc, .bool up, .slice B K bc] 60)).heap.size = w.heap.size + 1 := by simp
 have p0 : ∀ j, w2.cell? ⟨w.heap.size, j, none⟩ = (#[.slice m.G m.gl m.gc, .slice m.S m.sl m.sc, .slice m.O m.ol m.oc, .bool up, .slice B K bc] : Array Value)[j]? := fun j => by rw [<- hw2]; exact (World.cell?_alloc_lt _ _ ⟨w.heap.size, j, none⟩ (by simp)).trans (za _ _ _ j)
 have R : ∀ j, w2.cell? ⟨w.heap.size + 1, j, none⟩ = (#[.int .i64 0, .int .i64 0, .int .i64 0, .string ⟨#[]⟩, .slice none 0 0, .string ⟨#[]⟩, .int .i64 0, .slice none 0 0, .slice none 0 0] : Array Value)[j]? := fun j => by rw [<- hw2, <- z]; exact za _ _ _ j
 have RF : ∀ j, w2.frozen? ⟨w.heap.size + 1, j, none⟩ = false := fun j => by rw [<- hw2, <- z]; exact zi _ _ _ j
 have a0 : w2.cell? ⟨w.heap.size, 0, none⟩ = some (.slice m.G m.gl m.gc) := p0 0
 have a1 : w2.cell? ⟨w.heap.size, 1, none⟩ = some (.slice m.S m.sl m.sc) := p0 1
 have a2 : w2.cell? ⟨w.heap.size, 2, none⟩ = some (.slice m.O m.ol m.oc) := p0 2
 have a3 : w2.cell? ⟨w.heap.size, 3, none⟩ = some (.bool up) := p0 3
 have a4 : w2.cell? ⟨w.heap.size, 4, none⟩ = some (.slice B K bc) := p0 4
 have HB2 := Lib.hid hb2
 have HS2 := Lib.hid hs2
 have HRF := Lib.hid (And.intro R RF)
 clear h hl hn hls hN hK hup hb2 hs2 z p0
 have b0 : (s.toList == [113, 117, 111, 116, 101]) = false := by rw [hs]; rfl
 have b1 : (s.toList == [105, 102]) = true := by rw [hs]; rfl
 have b2 : (s.toList == [98, 101, 103, 105, 110]) = false := by rw [hs]; rfl
 have b3 : (s.toList == [108, 97, 109, 98, 100, 97]) = false := by rw [hs]; rfl
 have b4 : (s.toList == [108, 101, 116]) = false := by rw [hs]; rfl
 have b5 : (s.toList == [115, 101, 116, 33]) = false := by rw [hs]; rfl
 have b6 : (s.toList == [119, 97, 115]) = false := by rw [hs]; rfl
 have hr2 : r = (if l.length = 3 then mapF (eK 4 ⟨#[]⟩) (allF (rec ls) l) else .err 10) := by rw [<- HR.out]; unfold wordF; rw [if_neg (fun h => h.2.2.1 hs), if_neg (by rw [hs]; decide), if_pos hs]
 clear hs
 have HE := Lib.hid he
 have HGD := Lib.hid hgd
 clear he hgd
 by_cases h1 : N = 3
 ·
  have hal := formedAll_any HE.out A cap l B bc ls (H.out.next HB2.out) (HL.out.below HB2.out) HGD.out HNN.out HK40.out
  rw [HN.out, HK.out, HUP.out] at hal
  have HAL := Lib.hid hal
  obtain ⟨ra, hra⟩ : ∃ ra, allF (rec ls) l = ra := ⟨_, rfl⟩
  rw [if_pos (HN.out.trans h1), hra] at hr2
  rw [hra] at HAL
  subst h1
  clear hra hal
  cases up
  all_goals
   go_enter Tryd.func53, Tryd.ntmps53
   go_upto_region 1 with fail
   clear hw2
   go_wp2_with fail
   refine HAL.out.mono ?_
   intro e w3 hp
   cases ra with
   | err c =>
    obtain ⟨sA, sl, sc, rfl, hc, hb3⟩ := hp
    obtain rfl : r = .err c := hr2
    have HB3 := Lib.hid hb3
    have R3 : ∀ j, w3.cell? ⟨w.heap.size + 1, j, none⟩ = (#[.int .i64 0, .int .i64 0, .int .i64 0, .string ⟨#[]⟩, .slice none 0 0, .string ⟨#[]⟩, .int .i64 0, .slice none 0 0, .slice none 0 0] : Array Value)[j]? := fun j => (hb3.cell (p := ⟨w.heap.size + 1, j, none⟩) (by show w.heap.size + 1 < _; have := HS2.out; omega)).trans (HRF.out.1 j)
    have RF3 : ∀ j, w3.frozen? ⟨w.heap.size + 1, j, none⟩ = false := fun j => (hb3.frozen (p := ⟨w.heap.size + 1, j, none⟩) (by show w.heap.size + 1 < _; have := HS2.out; omega)).trans (HRF.out.2 j)
    clear hb3 R RF a0 a1 a2 a3 a4
    go_wp2_with fail
    exact bodyPost_ret (v := .tuple #[.agg #[.int .i64 4, .int .i64 0, .int .i64 0, .string ⟨#[]⟩, .slice none 0 0, .string ⟨#[]⟩, .int .i64 0, .slice none 0 0, .slice sA sl sc], .int .i64 c]) (by simp [results, Tryd.results53, go_sem, R3]) rfl ⟨⟨4, 0, 0, ⟨#[]⟩, none, 0, 0, ⟨#[]⟩, 0, none, 0, 0, sA, sl, sc, eC dt0, 0, 0⟩, rfl, hc, zg (by omega) (HB2.out.trans (HB3.out.mono HB2.out.size)) _ _ _ _ _ _ _ _ _⟩
   | ok xs =>
    obtain ⟨v, X, rfl, hO, hX, hXl, hb3⟩ := hp
    obtain rfl : r = .ok (eK 4 ⟨#[]⟩ xs) := hr2
    obtain ⟨A', cp, rfl, hXc, hcm2, _⟩ := hO.form
    have HXL := Lib.hid hXl
    have HO := Lib.hid hO
    have HX := Lib.hid hX
    have HB3 := Lib.hid hb3
    have R3 : ∀ j, w3.cell? ⟨w.heap.size + 1, j, none⟩ = (#[.int .i64 0, .int .i64 0, .int .i64 0, .string ⟨#[]⟩, .slice none 0 0, .string ⟨#[]⟩, .int .i64 0, .slice none 0 0, .slice none 0 0] : Array Value)[j]? := fun j => (hb3.cell (p := ⟨w.heap.size + 1, j, none⟩) (by show w.heap.size + 1 < _; have := HS2.out; omega)).trans (HRF.out.1 j)
    have RF3 : ∀ j, w3.frozen? ⟨w.heap.size + 1, j, none⟩ = false := fun j => (hb3.frozen (p := ⟨w.heap.size + 1, j, none⟩) (by show w.heap.size + 1 < _; have := HS2.out; omega)).trans (HRF.out.2 j)
    clear hb3 hO hX R RF a0 a1 a2 a3 a4
    go_wp2_with fail
    refine bodyPost_ret (v := .tuple #[.agg #[.int .i64 4, .int .i64 0, .int .i64 0, .string ⟨#[]⟩, .slice none 0 0, .string ⟨#[]⟩, .int .i64 0, .slice none 0 0, .slice A' X.length cp], .int .i64 0]) ?_ rfl ?_
    ·
     rw [HXL.out]
     simp [results, Tryd.results53, go_sem, R3]
    obtain ⟨u, hu1, hu2⟩ := got_buildG (W0 := W0) (w := w) (g := w.heap.size + 1) HO.out (by have := HS2.out; omega) (HB2.out.trans (HB3.out.mono HB2.out.size)) (Nat.le_succ _) (za1 w3 (w.heap.size + 1) _ _ _ _ _ _ _ _ _) 4 ⟨#[]⟩ 0
    injection hu1 with hu1
    rw [HX.out] at hu2
    rw [hu1]
    exact ⟨u, rfl, hu2⟩
 obtain rfl : r = .err 10 := by rw [hr2, if_neg (by rw [HN.out]; exact h1)]
 have i1 : ((N : Int) == 3) = false := by rw [beq_eq_false_iff_ne]; omega
 clear hr2
 cases up
 all_goals
  go_enter Tryd.func53, Tryd.ntmps53
  go_upto_region 1 with fail
  clear hw2
  go_wp2_with fail
  exact bodyPost_ret (v := .tuple #[evz.agg, .int .i64 10]) (by simp [results, Tryd.results53, go_sem, evz, EV.agg, R]) rfl (zn (by decide) (zg (by omega) HB2.out _ _ _ _ _ _ _ _ _))
set_option maxHeartbeats 4000000 in
theorem word_begin {W0 w : World} {m : Fm} {n : Nat} {rec : List ByteArray -> Dt -> Fd Ex} (A : Option Addr) (cap : Nat) (l : List Dt) (B : Option Addr) (bc : Nat) (ls : List ByteArray) (h : zc1 W0 w m B bc ls) (hl : DsAt W0 w m.F A cap l) (hn : l.length <= 1048576) (hls : ls.length <= 40) (s : ByteArray) (he : RefSays W0 m n rec) (hgd : ∀ x ∈ l, Good n x) (hu : m.up = false) (hs : s.toList = wBegin) : Calls Tryd.prog 53 #[.agg #[.slice m.G m.gl m.gc, .slice m.S m.sl m.sc, .slice m.O m.ol m.oc, .bool m.up, .slice B ls.length bc], .string s, .slice A l.length cap] w (RefPost W0 w (wordF m.pl rec ls s.toList l)) := by
 have HL := Lib.hid hl
 have H := Lib.hid h
 have HNN := Lib.hid hn
 obtain ⟨N, hN⟩ : ∃ N, l.length = N := ⟨_, rfl⟩
 have HN := Lib.hid hN
 obtain ⟨K, hK⟩ : ∃ K, ls.length = K := ⟨_, rfl⟩
 have HK := Lib.hid hK
 have HK40 := Lib.hid hls
 have hcp : N <= cap := by rw [<- hN]; exact hl.le
 have hcm : cap <= 9223372036854775807 := by have := hl.cap_; unfold maxLen at this; omega
 have hNm : N <= 9223372036854775807 := by omega
 rw [hN, hK]
 obtain ⟨r, hr⟩ : ∃ r, wordF m.pl rec ls s.toList l = r := ⟨_, rfl⟩
 have HR := Lib.hid hr
 rw [hr]
 clear hr
 obtain ⟨up, hup⟩ : ∃ up, m.up = up := ⟨_, rfl⟩
 have HUP := Lib.hid hup
 rw [hup]
 obtain ⟨w2, hw2⟩ : ∃ w2, (w.alloc (.cells #[.slice m.G m.gl m.gc, .slice m.S m.sl m.sc, .slice m.O m.ol m.oc, .bool up, .slice B K bc] 60)).alloc (.cells #[.int .i64 0, .int .i64 0, .int .i64 0, .string ⟨#[]⟩, .slice none 0 0, .string ⟨#[]⟩, .int .i64 0, .slice none 0 0, .slice none 0 0] 63) = w2 := ⟨_, rfl⟩
 have hb2 : Below w.heap.size w w2 := by rw [<- hw2]; exact ((Below.refl _ _).alloc (Nat.le_refl _) _).alloc (by simp) _
 have hs2 : w2.heap.size = w.heap.size + 2 := by rw [<- hw2]; simp
 have z : (w.alloc (.cells #[.slice m.G m.gl m.gc, .slice m.S m.sl m.sc, .slice m.O m.ol m.oc, .bool up, .slice B K bc] 60)).heap.size = w.heap.size + 1 := by simp
 have p0 : ∀ j, w2.cell? ⟨w.heap.size, j, none⟩ = (#[.slice m.G m.gl m.gc, .slice m.S m.sl m.sc, .slice m.O m.ol m.oc, .bool up, .slice B K bc] : Array Value)[j]? := fun j => by rw [<- hw2]; exact (World.cell?_alloc_lt _ _ ⟨w.heap.size, j, none⟩ (by simp)).trans (za _ _ _ j)
 have R : ∀ j, w2.cell? ⟨w.heap.size + 1, j, none⟩ = (#[.int .i64 0, .int .i64 0, .int .i64 0, .string ⟨#[]⟩, .slice none 0 0, .string ⟨#[]⟩, .int .i64 0, .slice none 0 0, .slice none 0 0] : Array Value)[j]? := fun j => by rw [<- hw2, <- z]; exact za _ _ _ j
 have RF : ∀ j, w2.frozen? ⟨w.heap.size + 1, j, none⟩ = false := fun j => by rw [<- hw2, <- z]; exact zi _ _ _ j
 have a0 : w2.cell? ⟨w.heap.size, 0, none⟩ = some (.slice m.G m.gl m.gc) := p0 0
 have a1 : w2.cell? ⟨w.heap.size, 1, none⟩ = some (.slice m.S m.sl m.sc) := p0 1
 have a2 : w2.cell? ⟨w.heap.size, 2, none⟩ = some (.slice m.O m.ol m.oc) := p0 2
 have a3 : w2.cell? ⟨w.heap.size, 3, none⟩ = some (.bool up) := p0 3
 have a4 : w2.cell? ⟨w.heap.size, 4, none⟩ = some (.slice B K bc) := p0 4
 have HB2 := Lib.hid hb2
 have HS2 := Lib.hid hs2
 have HRF := Lib.hid (And.intro R RF)
 clear h hl hn hls hN hK hup hb2 hs2 z p0
 have b0 : (s.toList == [113, 117, 111, 116, 101]) = false := by rw [hs]; rfl
 have b1 : (s.toList == [105, 102]) = false := by rw [hs]; rfl
 have b2 : (s.toList == [98, 101, 103, 105, 110]) = true := by rw [hs]; rfl
 have b3 : (s.toList == [108, 97, 109, 98, 100, 97]) = false := by rw [hs]; rfl
 have b4 : (s.toList == [108, 101, 116]) = false := by rw [hs]; rfl
 have b5 : (s.toList == [115, 101, 116, 33]) = false := by rw [hs]; rfl
 have b6 : (s.toList == [119, 97, 115]) = false := by rw [hs]; rfl
 obtain rfl : r = bodyF rec ls l := by rw [<- HR.out]; unfold wordF; rw [if_neg (by rw [show m.pl.up = false from hu]; simp), if_neg (by rw [hs]; decide), if_neg (by rw [hs]; decide), if_neg (by rw [hs]; decide), if_neg (by rw [hs]; decide), if_pos hs]
 obtain rfl : up = false := by rw [<- HUP.out, hu]
 have hal := formedBody_any he A cap l B bc ls (H.out.next HB2.out) (HL.out.below HB2.out) hgd HNN.out
 rw [HN.out, HK.out, HUP.out] at hal
 have HAL := Lib.hid hal
 clear hs hu hal he hgd
 go_enter Tryd.func53, Tryd.ntmps53
 go_upto_region 1 with fail
 clear hw2
 go_wp2_with fail
 refine HAL.out.mono ?_
 intro e w3 hp
 obtain ⟨v, c, rfl, hb3, hx⟩ := hp.both
 have HX := Lib.hid hx
 have HB3 := Lib.hid hb3
 have R3 : ∀ j, w3.cell? ⟨w.heap.size + 1, j, none⟩ = (#[.int .i64 0, .int .i64 0, .int .i64 0, .string ⟨#[]⟩, .slice none 0 0, .string ⟨#[]⟩, .int .i64 0, .slice none 0 0, .slice none 0 0] : Array Value)[j]? := fun j => (hb3.cell (p := ⟨w.heap.size + 1, j, none⟩) (by show w.heap.size + 1 < _; have := HS2.out; omega)).trans (HRF.out.1 j)
 have RF3 : ∀ j, w3.frozen? ⟨w.heap.size + 1, j, none⟩ = false := fun j => (hb3.frozen (p := ⟨w.heap.size + 1, j, none⟩) (by show w.heap.size + 1 < _; have := HS2.out; omega)).trans (HRF.out.2 j)
 clear hb3 hx hp R RF a0 a1 a2 a3 a4
 unfold EV.agg
 go_wp2_with fail
 exact bodyPost_ret (v := .tuple #[v.agg, .int .i64 c]) (by simp [results, Tryd.results53, go_sem, R3, EV.agg]) rfl (ref_copy HB2.out HB3.out HX.out (za1 _ _ _ _ _ _ _ _ _ _ _) (Nat.le_succ _) (by have := HS2.out; omega))
def RefLet (W0 : World) (m : Fm) (n : Nat) (rec : List ByteArray -> Dt -> Fd Ex) : Prop := ∀ (w : World) (A : Option Addr) (cap : Nat) (l : List Dt) (B : Option Addr) (bc : Nat) (ls : List ByteArray), zc1 W0 w m B bc ls -> DsAt W0 w m.F A cap l -> (∀ x ∈ l, Good n x) -> l.length <= 1048576 -> ls.length <= 40 →
 Calls Tryd.prog 75 #[.agg #[.slice m.G m.gl m.gc, .slice m.S m.sl m.sc, .slice m.O m.ol m.oc, .bool m.up, .slice B ls.length bc], .slice A l.length cap] w (RefPost W0 w (letF rec ls l))
set_option maxHeartbeats 4000000 in
theorem word_let {W0 w : World} {m : Fm} {n : Nat} {rec : List ByteArray -> Dt -> Fd Ex} (A : Option Addr) (cap : Nat) (l : List Dt) (B : Option Addr) (bc : Nat) (ls : List ByteArray) (h : zc1 W0 w m B bc ls) (hl : DsAt W0 w m.F A cap l) (hn : l.length <= 1048576) (hls : ls.length <= 40) (s : ByteArray) (hlet : RefLet W0 m n rec) (hgd : ∀ x ∈ l, Good n x) (hu : m.up = false) (hs : s.toList = wLet) : Calls Tryd.prog 53 #[.agg #[.slice m.G m.gl m.gc, .slice m.S m.sl m.sc, .slice m.O m.ol m.oc, .bool m.up, .slice B ls.length bc], .string s, .slice A l.length cap] w (RefPost W0 w (wordF m.pl rec ls s.toList l)) := by
 have HL := Lib.hid hl
 have H := Lib.hid h
 have HNN := Lib.hid hn
 obtain ⟨N, hN⟩ : ∃ N, l.length = N := ⟨_, rfl⟩
 have HN := Lib.hid hN
 obtain ⟨K, hK⟩ : ∃ K, ls.length = K := ⟨_, rfl⟩
 have HK := Lib.hid hK
 have HK40 := Lib.hid hls
 have hcp : N <= cap := by rw [<- hN]; exact hl.le
 have hcm : cap <= 9223372036854775807 := by have := hl.cap_; unfold maxLen at this; omega
 have hNm : N <= 9223372036854775807 := by omega
 rw [hN, hK]
 obtain ⟨r, hr⟩ : ∃ r, wordF m.pl rec ls s.toList l = r := ⟨_, rfl⟩
 have HR := Lib.hid hr
 rw [hr]
 clear hr
 obtain ⟨up, hup⟩ : ∃ up, m.up = up := ⟨_, rfl⟩
 have HUP := Lib.hid hup
 rw [hup]
 obtain ⟨w2, hw2⟩ : ∃ w2, (w.alloc (.cells #[.slice m.G m.gl m.gc, .slice m.S m.sl m.sc, .slice m.O m.ol m.oc, .bool up, .slice B K bc] 60)).alloc (.cells #[.int .i64 0, .int .i64 0, .int .i64 0, .string ⟨#[]⟩, .slice none 0 0, .string ⟨#[]⟩, .int .i64 0, .slice none 0 0, .slice none 0 0] 63) = w2 := ⟨_, rfl⟩
 have hb2 : Below w.heap.size w w2 := by rw [<- hw2]; exact ((Below.refl _ _).alloc (Nat.le_refl _) _).alloc (by simp) _
 have hs2 : w2.heap.size = w.heap.size + 2 := by rw [<- hw2]; simp
 have z : (w.alloc (.cells #[.slice m.G m.gl m.gc, .slice m.S m.sl m.sc, .slice m.O m.ol m.oc, .bool up, .slice B K bc] 60)).heap.size = w.heap.size + 1 := by simp
 have p0 : ∀ j, w2.cell? ⟨w.heap.size, j, none⟩ = (#[.slice m.G m.gl m.gc, .slice m.S m.sl m.sc, .slice m.O m.ol m.oc, .bool up, .slice B K bc] : Array Value)[j]? := fun j => by rw [<- hw2]; exact (World.cell?_alloc_lt _ _ ⟨w.heap.size, j, none⟩ (by simp)).trans (za _ _ _ j)
 have R : ∀ j, w2.cell? ⟨w.heap.size + 1, j, none⟩ = (#[.int .i64 0, .int .i64 0, .int .i64 0, .string ⟨#[]⟩, .slice none 0 0, .string ⟨#[]⟩, .int .i64 0, .slice none 0 0, .slice none 0 0] : Array Value)[j]? := fun j => by rw [<- hw2, <- z]; exact za _ _ _ j
 have RF : ∀ j, w2.frozen? ⟨w.heap.size + 1, j, none⟩ = false := fun j => by rw [<- hw2, <- z]; exact zi _ _ _ j
 have a0 : w2.cell? ⟨w.heap.size, 0, none⟩ = some (.slice m.G m.gl m.gc) := p0 0
 have a1 : w2.cell? ⟨w.heap.size, 1, none⟩ = some (.slice m.S m.sl m.sc) := p0 1
 have a2 : w2.cell? ⟨w.heap.size, 2, none⟩ = some (.slice m.O m.ol m.oc) := p0 2
 have a3 : w2.cell? ⟨w.heap.size, 3, none⟩ = some (.bool up) := p0 3
 have a4 : w2.cell? ⟨w.heap.size, 4, none⟩ = some (.slice B K bc) := p0 4
 have HB2 := Lib.hid hb2
 have HS2 := Lib.hid hs2
 have HRF := Lib.hid (And.intro R RF)
 clear h hl hn hls hN hK hup hb2 hs2 z p0
 have b0 : (s.toList == [113, 117, 111, 116, 101]) = false := by rw [hs]; rfl
 have b1 : (s.toList == [105, 102]) = false := by rw [hs]; rfl
 have b2 : (s.toList == [98, 101, 103, 105, 110]) = false := by rw [hs]; rfl
 have b3 : (s.toList == [108, 97, 109, 98, 100, 97]) = false := by rw [hs]; rfl
 have b4 : (s.toList == [108, 101, 116]) = true := by rw [hs]; rfl
 have b5 : (s.toList == [115, 101, 116, 33]) = false := by rw [hs]; rfl
 have b6 : (s.toList == [119, 97, 115]) = false := by rw [hs]; rfl
 obtain rfl : r = letF rec ls l := by rw [<- HR.out]; unfold wordF; rw [if_neg (by rw [show m.pl.up = false from hu]; simp), if_neg (by rw [hs]; decide), if_neg (by rw [hs]; decide), if_pos hs]
 obtain rfl : up = false := by rw [<- HUP.out, hu]
 have hal := hlet _ A cap l B bc ls (H.out.next HB2.out) (HL.out.below HB2.out) hgd HNN.out HK40.out
 rw [HN.out, HK.out, HUP.out] at hal
 have HAL := Lib.hid hal
 clear hs hu hal hlet hgd
 go_enter Tryd.func53, Tryd.ntmps53
 go_upto_region 1 with fail
 clear hw2
 go_wp2_with fail
 refine HAL.out.mono ?_
 intro e w3 hp
 obtain ⟨v, c, rfl, hb3, hx⟩ := hp.both
 have HX := Lib.hid hx
 have HB3 := Lib.hid hb3
 have R3 : ∀ j, w3.cell? ⟨w.heap.size + 1, j, none⟩ = (#[.int .i64 0, .int .i64 0, .int .i64 0, .string ⟨#[]⟩, .slice none 0 0, .string ⟨#[]⟩, .int .i64 0, .slice none 0 0, .slice none 0 0] : Array Value)[j]? := fun j => (hb3.cell (p := ⟨w.heap.size + 1, j, none⟩) (by show w.heap.size + 1 < _; have := HS2.out; omega)).trans (HRF.out.1 j)
 have RF3 : ∀ j, w3.frozen? ⟨w.heap.size + 1, j, none⟩ = false := fun j => (hb3.frozen (p := ⟨w.heap.size + 1, j, none⟩) (by show w.heap.size + 1 < _; have := HS2.out; omega)).trans (HRF.out.2 j)
 clear hb3 hx hp R RF a0 a1 a2 a3 a4
 unfold EV.agg
 go_wp2_with fail
 exact bodyPost_ret (v := .tuple #[v.agg, .int .i64 c]) (by simp [results, Tryd.results53, go_sem, R3, EV.agg]) rfl (ref_copy HB2.out HB3.out HX.out (za1 _ _ _ _ _ _ _ _ _ _ _) (Nat.le_succ _) (by have := HS2.out; omega))
end Go.Proofs.YtjmeodadkjcmmaaDoor
