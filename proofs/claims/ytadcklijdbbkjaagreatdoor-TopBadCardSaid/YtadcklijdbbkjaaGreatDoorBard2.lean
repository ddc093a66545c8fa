/- bard.expr: what it does at a level; the closure. -/
import Derived.Test.YtadcklijdbbkjaaGreatDoorBard1
namespace Go.Proofs.YtadcklijdbbkjaaGreatDoor
open Go.RowKit Go.ChangeShapes Go.WideShapes Go.Deep Go.ChangeAt
set_option linter.unusedVariables false

/-- What 'expr' does at level d. -/
def ExprAt (ty base d : Nat) : Prop := ∀ (w : World) (b : Nat) (v : Value) (n : Nat), Bard ty base w b v n → n + d ≤ 10 →
  Calls Tryz.prog 27 #[.pointer (some ⟨b, 0, none⟩), .int .i64 d] w (BardPost ty base w b v n (Lb d))
set_option maxHeartbeats 1000000 in
set_option maxRecDepth 20000 in
theorem sub_any {ty base d : Nat} (hE : ExprAt ty base d) (hd : d ≤ 100) {w : World} {b : Nat} {v : Value} {n : Nat} (h : Bard ty base w b v n) (hn : n + d ≤ 10) {B D : Nat} (cb : w.cell? ⟨B, 0, none⟩ = some (.pointer (some ⟨b, 0, none⟩))) (cd : w.cell? ⟨D, 0, none⟩ = some (.int .i64 ((d : Int) + 1))) :
    Calls Tryz.prog 71 #[.pointer (some ⟨B, 0, none⟩), .pointer (some ⟨D, 0, none⟩)] w (BardPost ty base w b v n (Lb d)) := by
  have C := Lib.hid (hE w b v n h hn)
  have hd0 : (d : Int) ≤ 100 := by omega
  have hd1 : (0 : Int) ≤ (d : Int) := Int.natCast_nonneg _
  clear h hE
  go_enter Tryz.func71, Tryz.ntmps71
  go_wp2_with fail
  refine C.out.mono ?_
  rintro e w1 ⟨s, v', rfl, hs, hb, ht⟩
  have HS := Lib.hid hs
  have HB := Lib.hid hb
  have HT := Lib.hid ht
  clear hs hb ht
  go_wp2_with fail
  go_ret
  exact ⟨s, v', rfl, HS.out, HB.out, HT.out⟩
theorem Lb_le : ∀ d : Nat, d ≤ 10 → Lb d ≤ 100000000 := by
  intro d hd
  have : ∀ x : Nat, x ≤ 10 → Lb x ≤ 5000000 := by
    intro x hx
    rcases (show x = 0 ∨ x = 1 ∨ x = 2 ∨ x = 3 ∨ x = 4 ∨ x = 5 ∨ x = 6 ∨ x = 7 ∨ x = 8 ∨ x = 9 ∨ x = 10 by omega) with rfl | rfl | rfl | rfl | rfl | rfl | rfl | rfl | rfl | rfl | rfl <;> simp [Lb]
  have := this d hd
  omega
theorem size_add (a b : ByteArray) : (a ++ b).size = a.size + b.size := ByteArray.size_append
theorem size_lit (a : Array UInt8) : (ByteArray.mk a).size = a.size := rfl
theorem infoString : (Tryz.prog.info? 9).map (fun i => (i.zero, i.size, i.bytes)) = some (some (.string ByteArray.empty), 1, 16) := by kernel_rfl
/-- Where a call of 'expr' stands: the bard, the boxes of what the closure captures, the raw thing. -/
structure Fr where
  b : Nat
  n : Nat
  d : Nat
  B : Nat
  D : Nat
  R : Nat
  k : Int
  a : Int
  c : Int
  e : Int
  x : Int
  w0 : World
  v0 : Value
structure St (ty base : Nat) (F : Fr) (w : World) (v : Value) : Prop where
  bard : Bard ty base w F.b v F.n
  fb : Fix F.b w v F.B [.pointer (some ⟨F.b, 0, none⟩)]
  fd : Fix F.b w v F.D [.int .i64 F.x]
  fr : Fix F.b w v F.R [.int .i64 F.k, .int .i64 F.a, .int .i64 F.c, .int .i64 F.e]
  tr : Tr (bO F.b F.v0) (bO F.b v) F.w0 w
section
variable {ty base : Nat} {F : Fr} {w w' : World} {v v' : Value}
theorem St.new (h : St ty base F w v) (hb : Below w.heap.size w w') : St ty base F w' v := ⟨h.bard.new hb, h.fb.new hb, h.fd.new hb, h.fr.new hb, h.tr.new hb⟩
theorem St.turn (h : St ty base F w v) (hB : Bard ty base w' F.b v' F.n) (ht : Tr (bO F.b v) (bO F.b v') w w') : St ty base F w' v' := ⟨hB, h.fb.tr ht, h.fd.tr ht, h.fr.tr ht, h.tr.trans ht⟩
theorem St.cb (h : St ty base F w v) : w.cell? ⟨F.B, 0, none⟩ = some (.pointer (some ⟨F.b, 0, none⟩)) := h.fb.at_ 0 (by simp)
theorem St.cd (h : St ty base F w v) : w.cell? ⟨F.D, 0, none⟩ = some (.int .i64 F.x) := h.fd.at_ 0 (by simp)
theorem St.r0 (h : St ty base F w v) : w.cell? ⟨F.R, 0, none⟩ = some (.int .i64 F.k) := h.fr.at_ 0 (by simp)
theorem St.r1 (h : St ty base F w v) : w.cell? ⟨F.R, 1, none⟩ = some (.int .i64 F.a) := h.fr.at_ 1 (by simp)
theorem St.r2 (h : St ty base F w v) : w.cell? ⟨F.R, 2, none⟩ = some (.int .i64 F.c) := h.fr.at_ 2 (by simp)
theorem St.r3 (h : St ty base F w v) : w.cell? ⟨F.R, 3, none⟩ = some (.int .i64 F.e) := h.fr.at_ 3 (by simp)
def SubIs (ty base : Nat) (F : Fr) (w : World) (v : Value) (e : Ending) (w' : World) : Prop := ∃ (s : ByteArray) (v' : Value), e = .returned (.string s) ∧ s.size ≤ Lb F.d ∧ St ty base F w' v' ∧ Tr (bO F.b v) (bO F.b v') w w'
theorem St.sub (h : St ty base F w v) (hE : ExprAt ty base F.d) (hn : F.n + F.d ≤ 10) (hx : F.x = (F.d : Int) + 1 := by rfl) : Calls Tryz.prog 71 #[.pointer (some ⟨F.B, 0, none⟩), .pointer (some ⟨F.D, 0, none⟩)] w (SubIs ty base F w v) := by
  refine (sub_any hE (by omega) h.bard hn h.cb (hx ▸ h.cd)).mono ?_
  rintro e w' ⟨s, v', rfl, hs, hb, ht⟩
  exact ⟨s, v', rfl, hs, h.turn hb ht, ht⟩
theorem St.expr (h : St ty base F w v) (hE : ExprAt ty base F.d) (hn : F.n + F.d ≤ 10) : Calls Tryz.prog 27 #[.pointer (some ⟨F.b, 0, none⟩), .int .i64 F.d] w (SubIs ty base F w v) := by
  refine (hE w F.b v F.n h.bard hn).mono ?_
  rintro e w' ⟨s, v', rfl, hs, hb, ht⟩
  exact ⟨s, v', rfl, hs, h.turn hb ht, ht⟩
/-- Where the walk begins: behind 'next', the raw thing laid. -/
theorem St.start {b n d : Nat} {k a c e x : Int} {w w1 : World} {v : Value} (h : Bard ty base w b v n) (T1 T2 T3 : TypeId) (h1 : Bard ty base w1 b v n) (ht : Tr (bO b v) (bO b v) ((w.alloc (.cells #[.pointer (some ⟨b, 0, none⟩)] T1)).alloc (.cells #[.int .i64 x] T2)) w1) :
    St ty base ⟨b, n, d, w.heap.size, w.heap.size + 1, w1.heap.size, k, a, c, e, x, w, v⟩ (w1.alloc (.cells #[.int .i64 k, .int .i64 a, .int .i64 c, .int .i64 e] T3)) v := by
  have b1 : Below w.heap.size w (w.alloc (.cells #[.pointer (some ⟨b, 0, none⟩)] T1)) := (Below.refl _ _).alloc (Nat.le_refl _) _
  have h0 := h.new b1
  have b2 := below_a (Below.refl (w.alloc (.cells #[.pointer (some ⟨b, 0, none⟩)] T1)).heap.size (w.alloc (.cells #[.pointer (some ⟨b, 0, none⟩)] T1))) (.cells #[.int .i64 x] T2)
  have f1 := ((Fix.alloc h #[.pointer (some ⟨b, 0, none⟩)] T1).new b2).tr ht
  have f2 := (Fix.alloc h0 #[.int .i64 x] T2).tr ht
  have b3 := below_a (Below.refl w1.heap.size w1) (.cells #[.int .i64 k, .int .i64 a, .int .i64 c, .int .i64 e] T3)
  refine ⟨h1.new b3, f1.new b3, ?_, Fix.alloc h1 #[.int .i64 k, .int .i64 a, .int .i64 c, .int .i64 e] T3, ((((Tr.refl _ w).alloc _).alloc _).trans ht).alloc _⟩
  have e : (w.alloc (.cells #[.pointer (some ⟨b, 0, none⟩)] T1)).heap.size = w.heap.size + 1 := by simp
  rw [← e]
  exact f2.new b3
theorem St.lB (h : St ty base F w v) : F.B < w.heap.size := h.fb.lt
theorem St.lD (h : St ty base F w v) : F.D < w.heap.size := h.fd.lt
theorem St.lR (h : St ty base F w v) : F.R < w.heap.size := h.fr.lt
/-- The locals, opened. -/
theorem St.loc (h : St ty base F w v) : ∃ (X : List ByteArray) (g cap : Nat), X.length = F.n ∧ v = .slice (some ⟨g, 0, none⟩) F.n cap ∧ F.n ≤ cap ∧ cap ≤ maxLen ∧ OwnAt kitTx ty base w v X ∧ w.cell? ⟨F.b, 1, none⟩ = some v ∧ w.frozen? ⟨F.b, 1, none⟩ = false ∧ F.b < w.heap.size := by
  obtain ⟨X, g, cap, h1, h2, h3, h4, h5, h6, h7, _⟩ := h.bard.open_
  exact ⟨X, g, cap, h1, h2, h3, h4, h7, h.bard.loc, h.bard.frz 1, h.bard.lt⟩
/-- Behind an append to the locals, ahead of its store. -/
theorem St.mid (h : St ty base F w v) (hg : w.grownBy w' v.ownBlock) : w'.cell? ⟨F.B, 0, none⟩ = some (.pointer (some ⟨F.b, 0, none⟩)) ∧ w'.cell? ⟨F.b, 1, none⟩ = some v ∧ w'.frozen? ⟨F.b, 1, none⟩ = false ∧ F.B < w'.heap.size ∧ F.b < w'.heap.size := by
  have e1 : w'.heap[F.B]? = w.heap[F.B]? := hg.block F.B h.fb.lt (fun e => h.fb.ne (Or.inr e.symm))
  have e2 : w'.heap[F.b]? = w.heap[F.b]? := hg.block F.b h.bard.lt (fun e => h.bard.apart e.symm)
  exact ⟨(World.cell?_of_block (a := ⟨F.B, 0, none⟩) e1).trans h.cb, (World.cell?_of_block (a := ⟨F.b, 1, none⟩) e2).trans h.bard.loc, (World.frozen?_of_block (a := ⟨F.b, 1, none⟩) e2).trans (h.bard.frz 1), Nat.lt_of_lt_of_le h.fb.lt hg.size, Nat.lt_of_lt_of_le h.bard.lt hg.size⟩
theorem St.push (h : St ty base F w v) {X : List ByteArray} (hX : X.length = F.n) {x : ByteArray} (hO : OwnAt kitTx ty base w' v' (X ++ [x])) (hg : w.grownBy w' v.ownBlock) (hv : v'.ownBlock = v.ownBlock ∨ ∃ k, v'.ownBlock = some k ∧ w.heap.size ≤ k) :
    St ty base { F with n := F.n + 1 } (w'.setCell ⟨F.b, 1, none⟩ v') v' := by
  obtain ⟨hB, ht⟩ := h.bard.push hX hO hg hv
  exact ⟨hB, h.fb.tr ht, h.fd.tr ht, h.fr.tr ht, h.tr.trans ht⟩
theorem St.cut {m g cap : Nat} (h : St ty base F w (.slice (some ⟨g, 0, none⟩) (m + 1) cap)) (hn : F.n = m + 1) (hm : 0 < m) :
    St ty base { F with n := m } (w.setCell ⟨F.b, 1, none⟩ (.slice (some ⟨g, 0, none⟩) m cap)) (.slice (some ⟨g, 0, none⟩) m cap) := by
  have hB0 := h.bard
  rw [hn] at hB0
  obtain ⟨hB, ht⟩ := hB0.cut hm
  exact ⟨hB, h.fb.tr ht, h.fd.tr ht, h.fr.tr ht, h.tr.trans ht⟩
/-- A literal that was laid ahead of a call. -/
theorem Fix.lit {b n : Nat} (h : Bard ty base w b v n) (cs : Array Value) (T : TypeId) {wa wb : World} (ha : Below (w.alloc (.cells cs T)).heap.size (w.alloc (.cells cs T)) wa) (ht : Tr (bO b v) (bO b v') wa wb) : Fix b wb v' w.heap.size cs.toList := ((Fix.alloc h cs T).new ha).tr ht
theorem Fix.get {b g i : Nat} {cs : List Value} {u : Value} (h : Fix b w v g cs) (hi : cs[i]? = some u) : w.cell? ⟨g, i, none⟩ = some u := (h.at_ i (List.getElem?_eq_some_iff.1 hi).1).trans hi
theorem Fix.getA {b g i : Nat} {cs : Array Value} {u : Value} (h : Fix b w v g cs.toList) (hi : cs[i]? = some u) : w.cell? ⟨g, i, none⟩ = some u := h.get (by simpa using hi)
theorem lit_cell (cs : Array Value) (T : TypeId) (i : Nat) (u : Value) (h : cs[i]? = some u) (W : World) : (W.alloc (.cells cs T)).cell? ⟨W.heap.size, i, none⟩ = some u := (cell_new W cs T i).trans h
/-- The boxes behind 'next'. -/
theorem boxes {b n : Nat} {x : Int} {w w1 : World} {v : Value} (h : Bard ty base w b v n) {T1 T2 : TypeId} (ht : Tr (bO b v) (bO b v) ((w.alloc (.cells #[.pointer (some ⟨b, 0, none⟩)] T1)).alloc (.cells #[.int .i64 x] T2)) w1) :
    w.heap.size < w1.heap.size ∧ w.heap.size + 1 < w1.heap.size ∧ w1.cell? ⟨w.heap.size, 0, none⟩ = some (.pointer (some ⟨b, 0, none⟩)) ∧ w1.cell? ⟨w.heap.size + 1, 0, none⟩ = some (.int .i64 x) := by
  have b1 : Below w.heap.size w (w.alloc (.cells #[.pointer (some ⟨b, 0, none⟩)] T1)) := (Below.refl _ _).alloc (Nat.le_refl _) _
  have h0 := h.new b1
  have b2 := below_a (Below.refl (w.alloc (.cells #[.pointer (some ⟨b, 0, none⟩)] T1)).heap.size (w.alloc (.cells #[.pointer (some ⟨b, 0, none⟩)] T1))) (.cells #[.int .i64 x] T2)
  have f1 := ((Fix.alloc h #[.pointer (some ⟨b, 0, none⟩)] T1).new b2).tr ht
  have f2 := (Fix.alloc h0 #[.int .i64 x] T2).tr ht
  have e : (w.alloc (.cells #[.pointer (some ⟨b, 0, none⟩)] T1)).heap.size = w.heap.size + 1 := by simp
  rw [e] at f2
  exact ⟨f1.lt, f2.lt, f1.at_ 0 (by simp), f2.at_ 0 (by simp)⟩
theorem St.post (h : St ty base F w v) {s : ByteArray} {L : Nat} (hs : s.size ≤ L) : BardPost ty base F.w0 F.b F.v0 F.n L (.returned (.string s)) w := ⟨s, v, rfl, hs, h.bard, h.tr⟩
end
/-- A number that is picked. -/
theorem pick_n (a : Int) (ia : isI a) (n : Nat) (hc : 0 < n) (hC : n ≤ 100) : ∃ i : Nat, i < n ∧ ∀ w, Calls Tryz.prog 9 #[.int .i64 a, .int .i64 (n : Int)] w fun e w' => e = .returned (.int .i64 i) ∧ w' = w := by
  have h0 : (0 : Int) < (n : Int) := by omega
  obtain ⟨p0, p1⟩ := pk_in a h0
  obtain ⟨i, hi⟩ : ∃ i : Nat, pk a n = (i : Int) := ⟨(pk a n).toNat, by omega⟩
  refine ⟨i, by omega, fun w => ?_⟩
  have := picked_any a n ia h0 (by omega) w
  rwa [hi] at this
/-- A literal's element that is picked. -/
theorem pick_lit (a : Int) (ia : isI a) (cs : Array Value) (hc : 0 < cs.size) (hC : cs.size ≤ 100) (hs : ∀ j, j < cs.size → ∃ s : ByteArray, cs[j]? = some (.string s) ∧ s.size ≤ 20) :
    ∃ (i : Nat) (s : ByteArray), i < cs.size ∧ (∀ w, Calls Tryz.prog 9 #[.int .i64 a, .int .i64 cs.size] w fun e w' => e = .returned (.int .i64 i) ∧ w' = w) ∧ cs[i]? = some (.string s) ∧ s.size ≤ 20 := by
  have h0 : (0 : Int) < (cs.size : Int) := by omega
  obtain ⟨p0, p1⟩ := pk_in a h0
  obtain ⟨i, hi⟩ : ∃ i : Nat, pk a cs.size = (i : Int) := ⟨(pk a cs.size).toNat, by omega⟩
  obtain ⟨s, h1, h2⟩ := hs i (by omega)
  refine ⟨i, s, by omega, fun w => ?_, h1, h2⟩
  have := picked_any a cs.size ia h0 (by omega) w
  rwa [hi] at this
end Go.Proofs.YtadcklijdbbkjaaGreatDoor
