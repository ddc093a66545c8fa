/- Contracts of grafterykeep.picked, bard.next, bard.local. -/
import Derived.Test.YtadcklijdbbkjaaGreatDoorBard0
import Derived.Deep.Cut
import Derived.BigQuiet
namespace Go.Proofs.YtadcklijdbbkjaaGreatDoor
open Go.RowKit Go.ChangeShapes Go.WideShapes Go.Deep
set_option linter.unusedVariables false

def pk (n many : Int) : Int := (if n < 0 then -(n + 1) else n).tmod many
theorem pk_in (n : Int) {many : Int} (hm : 0 < many) : 0 ≤ pk n many ∧ pk n many < many := by
  unfold pk
  have h0 : 0 ≤ (if n < 0 then -(n + 1) else n) := by split <;> omega
  rw [Int.tmod_eq_emod_of_nonneg h0]
  exact ⟨Int.emod_nonneg _ (by omega), Int.emod_lt_of_pos _ hm⟩

set_option maxHeartbeats 1000000 in
set_option maxRecDepth 20000 in
theorem picked_any (n many : Int) (hn : isI n) (hm : 0 < many) (hM : many ≤ 9223372036854775807) (w : World) : Calls Tryz.prog 9 #[.int .i64 n, .int .i64 many] w fun e w' => e = .returned (.int .i64 (pk n many)) ∧ w' = w := by
  obtain ⟨n0, n1⟩ := hn
  have hm0 : ¬ many = 0 := by omega
  have hm1 : ¬ many = -1 := by omega
  have HP := Lib.hid (pk_in n hm)
  by_cases h : n < 0
  · have HK := Lib.hid (show pk n many = (-(n + 1)).tmod many by unfold pk; rw [if_pos h])
    go_enter Tryz.func9, Tryz.ntmps9
    have w0 : IntKind.i64.wrap (n + 1) = n + 1 := IntWalk.i64_in _ (by omega)
    have w1 : IntKind.i64.wrap (-(n + 1)) = -(n + 1) := IntWalk.i64_in _ (by omega)
    have w2 : IntKind.i64.wrap ((-(n + 1)).tmod many) = (-(n + 1)).tmod many := IntWalk.i64_in _ (by have := HP.out; rw [HK.out] at this; omega)
    go_wp2_with fail
    go_ret
    exact ⟨by rw [HK.out]; first | rfl | (rw [Int.tmod_eq_emod_of_nonneg (by assumption)]; rfl) | (rw [Int.neg_tmod]; rfl), rfl⟩
  · have HK := Lib.hid (show pk n many = n.tmod many by unfold pk; rw [if_neg h])
    go_enter Tryz.func9, Tryz.ntmps9
    have w2 : IntKind.i64.wrap (n.tmod many) = n.tmod many := IntWalk.i64_in _ (by have := HP.out; rw [HK.out] at this; omega)
    go_wp2_with fail
    go_ret
    exact ⟨by rw [HK.out]; first | rfl | (rw [Int.tmod_eq_emod_of_nonneg (by assumption)]; rfl) | (rw [Int.neg_tmod]; rfl), rfl⟩
theorem isI0 : isI 0 := by unfold isI; omega
/-- What a call of 'next' hands back. -/
def NextIs (ty base : Nat) (w : World) (b : Nat) (v : Value) (n : Nat) (k a c d : Int) (e : Ending) (w' : World) : Prop :=
  e = .returned (.agg #[.int .i64 k, .int .i64 a, .int .i64 c, .int .i64 d]) ∧ Bard ty base w' b v n ∧ Tr (bO b v) (bO b v) w w'
/-- The first of raw things, or zeros. -/
def HeadIs (w : World) (A : Option Addr) (len : Nat) (k a c d : Int) : Prop :=
  (len = 0 ∧ k = 0 ∧ a = 0 ∧ c = 0 ∧ d = 0) ∨ (0 < len ∧ ∃ g o, A = some ⟨g, o, none⟩ ∧ w.cell? ⟨g, o, none⟩ = some (.int .i64 k) ∧ w.cell? ⟨g, o + 1, none⟩ = some (.int .i64 a) ∧ w.cell? ⟨g, o + 2, none⟩ = some (.int .i64 c) ∧ w.cell? ⟨g, o + 3, none⟩ = some (.int .i64 d))
theorem Bard.take {ty base : Nat} {w : World} {b : Nat} {v : Value} {n : Nat} (h : Bard ty base w b v n) {A : Option Addr} {len cap : Nat} (hr : Raws base w A len cap) :
    Bard ty base (w.setCell ⟨b, 0, none⟩ (.slice A len cap)) b v n ∧ Tr (bO b v) (bO b v) w (w.setCell ⟨b, 0, none⟩ (.slice A len cap)) := by
  have htr : Tr (bO b v) (bO b v) w (w.setCell ⟨b, 0, none⟩ (.slice A len cap)) := (Tr.refl (bO b v) w).set (Or.inl rfl) _
  have hbel := htr.below h.from' h.base_le
  obtain ⟨A', len', cap', hc, _⟩ := h.raw
  refine ⟨⟨h.from_, Nat.lt_of_lt_of_le h.lt htr.size, ⟨A, len, cap, set_same hc, hr.below hbel⟩, set_other h.loc (by omega), ?_, ?_, h.apart, h.tab.below hbel, h.pos⟩, htr⟩
  · intro o
    simpa using h.frz o
  · obtain ⟨X, hX, hO⟩ := h.own
    exact ⟨X, hX, hO.grown (grown_set w b 0 _) (Or.inr h.apart) (fun _ _ _ hu => hu.elim)⟩

set_option maxHeartbeats 2000000 in
set_option maxRecDepth 20000 in
theorem next_at {ty base : Nat} {w : World} {b : Nat} {v : Value} {n : Nat} (h : Bard ty base w b v n) {A : Option Addr} {len cap : Nat} (hc : w.cell? ⟨b, 0, none⟩ = some (.slice A len cap)) (hr : Raws base w A len cap) {k a c d : Int} (hh : HeadIs w A len k a c d) :
    Calls Tryz.prog 69 #[.pointer (some ⟨b, 0, none⟩)] w (NextIs ty base w b v n k a c d) := by
  have H := Lib.hid h
  have hbl := h.lt
  have f0 := h.frz 0
  have hle := hr.le
  have hwd := hr.wide
  unfold maxLen at hwd
  have HR := Lib.hid hr
  clear hr h
  rcases hh with ⟨rfl, rfl, rfl, rfl, rfl⟩ | ⟨hpos, g, o, rfl, e0, e1, e2, e3⟩
  · have hq : (((0 : Nat) : Int) == 0) = true := rfl
    go_enter Tryz.func69, Tryz.ntmps69
    go_wp2_with fail
    refine bodyPost_ret (v := .agg #[.int .i64 0, .int .i64 0, .int .i64 0, .int .i64 0]) (by simp [results, Tryz.results69, go_sem]) rfl ?_
    exact ⟨rfl, H.out.new (below_a (Below.refl _ _) _), (Tr.refl _ _).alloc _⟩
  · obtain ⟨g', o', e', hg, _⟩ := HR.out.at_ hpos
    cases e'
    have hgw : g < w.heap.size := Nat.lt_of_lt_of_le hg H.out.base_le
    have hq : ((len : Int) == 0) = false := by simp; omega
    have HG := Lib.hid hg
    clear hg
    by_cases hcap : cap = 1
    · subst hcap
      obtain rfl : len = 1 := by omega
      have hR2 : Raws base w (some ⟨g, o, none⟩) 0 0 := ⟨Nat.le_refl _, by unfold maxLen; omega, fun h => absurd h (by omega)⟩
      obtain ⟨hb2, ht2⟩ := H.out.take hR2
      have HB2 := Lib.hid hb2
      have HT2 := Lib.hid ht2
      clear hb2 ht2 hR2
      go_enter Tryz.func69, Tryz.ntmps69
      go_wp2_with fail
      refine bodyPost_ret (v := .agg #[.int .i64 k, .int .i64 a, .int .i64 c, .int .i64 d]) (by simp [results, Tryz.results69, go_sem]) rfl ?_
      exact ⟨rfl, (HB2.out.new (below_a (Below.refl _ _) _)).new (below_a (Below.refl _ _) _), (HT2.out.alloc _).alloc _⟩
    · have hR2 : Raws base w (some ⟨g, o + 4, none⟩) (len - 1) (cap - 1) := HR.out.part (k := 1) (m := len) (Nat.le_refl _) (by omega) (by unfold maxLen; omega) HG.out (fun _ => by simp)
      obtain ⟨hb2, ht2⟩ := H.out.take hR2
      have HB2 := Lib.hid hb2
      have HT2 := Lib.hid ht2
      clear hb2 ht2 hR2
      go_enter Tryz.func69, Tryz.ntmps69
      go_wp2_with fail
      refine bodyPost_ret (v := .agg #[.int .i64 k, .int .i64 a, .int .i64 c, .int .i64 d]) (by simp [results, Tryz.results69, go_sem]) rfl ?_
      exact ⟨rfl, (HB2.out.new (below_a (Below.refl _ _) _)).new (below_a (Below.refl _ _) _), (HT2.out.alloc _).alloc _⟩

theorem HeadIs.below {base : Nat} {w w' : World} {A : Option Addr} {len cap : Nat} {k a c d : Int} (h : HeadIs w A len k a c d) (hr : Raws base w A len cap) (hb : Below base w w') : HeadIs w' A len k a c d := by
  rcases h with h | ⟨hp, g, o, rfl, e0, e1, e2, e3⟩
  · exact Or.inl h
  · obtain ⟨g', o', e', hg, _⟩ := hr.at_ hp
    cases e'
    exact Or.inr ⟨hp, g, o, rfl, (hb.cell (p := ⟨g, _, none⟩) hg).trans e0, (hb.cell (p := ⟨g, _, none⟩) hg).trans e1, (hb.cell (p := ⟨g, _, none⟩) hg).trans e2, (hb.cell (p := ⟨g, _, none⟩) hg).trans e3⟩
/-- What the next raw thing is, is known ahead. -/
theorem Bard.head {ty base : Nat} {w : World} {b : Nat} {v : Value} {n : Nat} (h : Bard ty base w b v n) : ∃ k a c d : Int, isI k ∧ isI a ∧ isI c ∧ isI d ∧
    ∀ w', Below w.heap.size w w' → Calls Tryz.prog 69 #[.pointer (some ⟨b, 0, none⟩)] w' (NextIs ty base w' b v n k a c d) := by
  obtain ⟨A, len, cap, hc, hr⟩ := h.raw
  by_cases h0 : len = 0
  · exact ⟨0, 0, 0, 0, isI0, isI0, isI0, isI0, fun w' hb => next_at (h.new hb) ((hb.cell (p := ⟨b, 0, none⟩) h.lt).trans hc) (hr.below (hb.mono h.base_le)) (Or.inl ⟨h0, rfl, rfl, rfl, rfl⟩)⟩
  · obtain ⟨g, o, e, hg, hcs⟩ := hr.at_ (by omega)
    obtain ⟨k, a, c, d, ik, ia, ic, id_, e0, e1, e2, e3⟩ := hcs 0 (by omega)
    simp only [Nat.zero_mul, Nat.add_zero] at e0 e1 e2 e3
    have hh : HeadIs w A len k a c d := Or.inr ⟨by omega, g, o, e, e0, e1, e2, e3⟩
    exact ⟨k, a, c, d, ik, ia, ic, id_, fun w' hb => next_at (h.new hb) ((hb.cell (p := ⟨b, 0, none⟩) h.lt).trans hc) (hr.below (hb.mono h.base_le)) (hh.below hr (hb.mono h.base_le))⟩

set_option maxHeartbeats 2000000 in
set_option maxRecDepth 20000 in
theorem local_any {ty base : Nat} {w : World} {b : Nat} {v : Value} {n : Nat} (h : Bard ty base w b v n) (hn : n ≤ 100) (m : Int) (hm : isI m) :
    Calls Tryz.prog 70 #[.pointer (some ⟨b, 0, none⟩), .int .i64 m] w fun e w' => ∃ s : ByteArray, e = .returned (.string s) ∧ s.size ≤ 20 ∧ Below w.heap.size w w' := by
  obtain ⟨X, g, cap, hX, hv, hle, hcap, hg, hgb, hO, hcell⟩ := h.open_
  have hloc := h.loc
  have hp := h.pos
  subst hv
  have hmany : (0 : Int) < (n : Int) := by omega
  obtain ⟨p0, p1⟩ := pk_in m hmany
  have PK := Lib.hid (fun w => picked_any m n hm hmany (by omega) w)
  obtain ⟨i, hi⟩ : ∃ i : Nat, pk m n = (i : Int) := ⟨(pk m n).toNat, by omega⟩
  rw [hi] at PK p1
  have hin : i < X.length := by omega
  obtain ⟨c1, c2⟩ := hcell i hin
  obtain ⟨s, hs⟩ : ∃ s, X[i] = s := ⟨_, rfl⟩
  rw [hs] at c1 c2
  have C2 := Lib.hid c2
  have hne : ¬ n = 0 := by omega
  have hq : ((n : Int) == 0) = false := by simp; omega
  have i0 : (0 : Int) ≤ (i : Int) := Int.natCast_nonneg _
  clear hi hs hin hcell hO h c2 p0
  go_enter Tryz.func70, Tryz.ntmps70
  go_wp2_with fail
  go_quiet (first | (refine (PK.out _).mono ?_; rintro e w5 ⟨rfl, rfl⟩; exact ⟨rfl, _, rfl⟩))
  obtain ⟨n1, rfl⟩ : ∃ n1, n1 = nq := ⟨nq, rfl⟩
  go_wp2_with fail
  go_ret
  exact ⟨s, rfl, C2.out, below_n (Below.refl _ _) _⟩
end Go.Proofs.YtadcklijdbbkjaaGreatDoor
