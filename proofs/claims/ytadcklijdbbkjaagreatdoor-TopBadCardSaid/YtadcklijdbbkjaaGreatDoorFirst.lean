/- Contracts of grafterykeep.First and Later: a text, in new memory alone. -/
import Derived.Test.YtadcklijdbbkjaaGreatDoorText
import Derived.Deep.RegionLaw
import Derived.Deep.Cut
namespace Go.Proofs.YtadcklijdbbkjaaGreatDoor
open Go.RowKit Go.ChangeShapes Go.WideShapes Go.Deep
set_option linter.unusedVariables false

/-- A slice of raw things, with its form. -/
structure RawsN (base : Nat) (w : World) (A : Option Addr) (len cap : Nat) : Prop where
  raws : Raws base w A len cap
  nil_ : A = none → len = 0 ∧ cap = 0
theorem RawsN.below {base : Nat} {w w' : World} {A : Option Addr} {len cap : Nat} (h : RawsN base w A len cap) (hb : Below base w w') : RawsN base w' A len cap := ⟨h.raws.below hb, h.nil_⟩
theorem Raws.zero (base : Nat) (w : World) (A : Option Addr) {cap : Nat} (h : cap ≤ maxLen) : Raws base w A 0 cap := ⟨Nat.zero_le _, h, fun h => absurd h (by omega)⟩
/-- From k on; up to m. -/
theorem Raws.from_ {base : Nat} {w : World} {g o len cap : Nat} (h : Raws base w (some ⟨g, o, none⟩) len cap) (h0 : 0 < len) {k c : Nat} (hk : k ≤ len) (hc : len - k ≤ c) (hw : c ≤ maxLen) : Raws base w (some ⟨g, o + k * 4, none⟩) (len - k) c := by
  obtain ⟨g', o', e, hg, _⟩ := h.at_ h0
  cases e
  exact h.part (Nat.le_refl _) hc hw hg (fun _ => rfl)
theorem Raws.upto {base : Nat} {w : World} {g o len cap : Nat} (h : Raws base w (some ⟨g, o, none⟩) len cap) (h0 : 0 < len) {m : Nat} (hm : m ≤ len) : Raws base w (some ⟨g, o, none⟩) m cap := by
  obtain ⟨g', o', e, hg, _⟩ := h.at_ h0
  cases e
  have := h.le
  have h' := h.part (k := 0) (m := m) (c := cap) hm (by omega) h.wide hg (A := some ⟨g, o, none⟩) (fun _ => by simp)
  simpa using h'
theorem TextIs.mono {L L' : Nat} {w : World} {e : Ending} {w' : World} (h : TextIs L w e w') (hl : L ≤ L') : TextIs L' w e w' := by
  obtain ⟨s, h1, h2, h3⟩ := h
  exact ⟨s, h1, Nat.le_trans h2 hl, h3⟩
def TextOk (base : Nat) : Prop := ∀ (w : World) (A : Option Addr) (len cap : Nat), Raws base w A len cap → TabB base w → base ≤ w.heap.size → Calls Tryz.prog 14 #[.slice A len cap] w (TextIs 250 w)

set_option maxHeartbeats 4000000 in
set_option maxRecDepth 20000 in
theorem first_any {base : Nat} (hX : TextOk base) {w : World} {A : Option Addr} {len cap : Nat} (hr : RawsN base w A len cap) (ht : TabB base w) (hb : base ≤ w.heap.size) :
    Calls Tryz.prog 8 #[.slice A len cap] w (TextIs 2000 w) := by
  obtain ⟨n, hn⟩ : ∃ n, len / 2 = n := ⟨_, rfl⟩
  have hle := hr.raws.le
  have hwd := hr.raws.wide
  have hwd' := hwd
  unfold maxLen at hwd'
  have hq : (len : Int).tdiv 2 = (n : Int) := by rw [Int.tdiv_eq_ediv_of_nonneg (by omega)]; omega
  have hqw : IntKind.i64.wrap (n : Int) = (n : Int) := IntWalk.i64_in _ (by omega)
  have hn0 : (0 : Int) ≤ (n : Int) := Int.natCast_nonneg _
  have hnl : n ≤ len := by omega
  have hnc : n ≤ cap := by omega
  have HX := Lib.hid hX
  have HT := Lib.hid ht
  have HB := Lib.hid hb
  -- the two parts, whatever the world
  have key : ∀ A1 l1 c1 A2 l2 c2, Raws base w A1 l1 c1 → Raws base w A2 l2 c2 →
      (∀ w', Below w.heap.size w w' → Calls Tryz.prog 14 #[.slice A1 l1 c1] w' (TextIs 250 w')) ∧ (∀ w', Below w.heap.size w w' → Calls Tryz.prog 14 #[.slice A2 l2 c2] w' (TextIs 250 w')) :=
    fun A1 l1 c1 A2 l2 c2 r1 r2 => ⟨fun w' hbl => hX w' A1 l1 c1 (r1.below (hbl.mono hb)) (ht.below (hbl.mono hb)) (Nat.le_trans hb hbl.size), fun w' hbl => hX w' A2 l2 c2 (r2.below (hbl.mono hb)) (ht.below (hbl.mono hb)) (Nat.le_trans hb hbl.size)⟩
  have HR := Lib.hid hr
  clear hr ht hb hX
  cases A with
  | none =>
    obtain ⟨rfl, rfl⟩ := HR.out.nil_ rfl
    obtain rfl : n = 0 := by omega
    obtain ⟨k1, k2⟩ := key none 0 0 none 0 0 HR.out.raws HR.out.raws
    have K1 := Lib.hid k1
    have K2 := Lib.hid k2
    clear key k1 k2
    go_enter Tryz.func8, Tryz.ntmps8
    go_wp2_with fail
    go_region_law (first
      | (go_simp; go_at_call 14; (with_reducible refine (K1.out _ (below_d (Below.refl _ _))).mono ?_); rintro q w1 ⟨s1, rfl, hs1, hb1⟩; have HS1 := Lib.hid hs1; have HB1 := Lib.hid (below_t (below_d (Below.refl _ _)) hb1); have b1 : s1.size ≤ 250 := hs1; have g1 : ¬ 9223372036854775807 < 29 + s1.size := (by omega); have g2 : ¬ 9223372036854775807 < 29 + s1.size + 58 := (by omega); clear hs1 hb1)
      | (go_simp; go_at_call 14; (with_reducible refine (K2.out _ HB1.out).mono ?_); rintro q w2 ⟨s2, rfl, hs2, hb2⟩; have HS2 := Lib.hid hs2; have HB2 := Lib.hid (below_t HB1.out hb2); have b2 : s2.size ≤ 250 := hs2; have g3 : ¬ 9223372036854775807 < 29 + s1.size + 58 + s2.size := (by omega); have g4 : ¬ 9223372036854775807 < 29 + s1.size + 58 + s2.size + 57 := (by omega); clear hs2 hb2))
    all_goals go_wp2_with fail
    all_goals go_ret
    all_goals refine ⟨_, rfl, ?_, HB2.out⟩
    all_goals simp only [size_add, size_lit, List.size_toArray, List.length_cons, List.length_nil]
    all_goals omega
  | some a =>
    by_cases h0 : len = 0
    · subst h0
      obtain rfl : n = 0 := by omega
      obtain ⟨k1, k2⟩ := key (some a) 0 cap (some a) 0 cap HR.out.raws HR.out.raws
      have K1 := Lib.hid k1
      have K2 := Lib.hid k2
      clear key k1 k2
      go_enter Tryz.func8, Tryz.ntmps8
      go_wp2_with fail
      go_region_law (first
        | (go_simp; go_at_call 14; (with_reducible refine (K1.out _ (below_d (Below.refl _ _))).mono ?_); rintro q w1 ⟨s1, rfl, hs1, hb1⟩; have HS1 := Lib.hid hs1; have HB1 := Lib.hid (below_t (below_d (Below.refl _ _)) hb1); have b1 : s1.size ≤ 250 := hs1; have g1 : ¬ 9223372036854775807 < 29 + s1.size := (by omega); have g2 : ¬ 9223372036854775807 < 29 + s1.size + 58 := (by omega); clear hs1 hb1)
        | (go_simp; go_at_call 14; (with_reducible refine (K2.out _ HB1.out).mono ?_); rintro q w2 ⟨s2, rfl, hs2, hb2⟩; have HS2 := Lib.hid hs2; have HB2 := Lib.hid (below_t HB1.out hb2); have b2 : s2.size ≤ 250 := hs2; have g3 : ¬ 9223372036854775807 < 29 + s1.size + 58 + s2.size := (by omega); have g4 : ¬ 9223372036854775807 < 29 + s1.size + 58 + s2.size + 57 := (by omega); clear hs2 hb2))
      all_goals go_wp2_with fail
      all_goals go_ret
      all_goals refine ⟨_, rfl, ?_, HB2.out⟩
      all_goals simp only [size_add, size_lit, List.size_toArray, List.length_cons, List.length_nil]
      all_goals omega
    · have hp : 0 < len := by omega
      obtain ⟨g, o, e, _, _⟩ := HR.out.raws.at_ hp
      cases e
      obtain ⟨k1, k2⟩ := key _ _ _ _ _ (cap - n) (HR.out.raws.upto hp hnl) (HR.out.raws.from_ hp hnl (by omega) (by omega))
      have K1 := Lib.hid k1
      have K2 := Lib.hid k2
      have hcn : ¬ cap = n := by omega
      have hcn' : ¬ cap - n = 0 := by omega
      clear key k1 k2
      go_enter Tryz.func8, Tryz.ntmps8
      go_wp2_with fail
      go_region_law (first
        | (go_simp; go_at_call 14; (with_reducible refine (K1.out _ (below_d (Below.refl _ _))).mono ?_); rintro q w1 ⟨s1, rfl, hs1, hb1⟩; have HS1 := Lib.hid hs1; have HB1 := Lib.hid (below_t (below_d (Below.refl _ _)) hb1); have b1 : s1.size ≤ 250 := hs1; have g1 : ¬ 9223372036854775807 < 29 + s1.size := (by omega); have g2 : ¬ 9223372036854775807 < 29 + s1.size + 58 := (by omega); clear hs1 hb1)
        | (go_simp; go_at_call 14; (with_reducible refine (K2.out _ HB1.out).mono ?_); rintro q w2 ⟨s2, rfl, hs2, hb2⟩; have HS2 := Lib.hid hs2; have HB2 := Lib.hid (below_t HB1.out hb2); have b2 : s2.size ≤ 250 := hs2; have g3 : ¬ 9223372036854775807 < 29 + s1.size + 58 + s2.size := (by omega); have g4 : ¬ 9223372036854775807 < 29 + s1.size + 58 + s2.size + 57 := (by omega); clear hs2 hb2))
      all_goals go_wp2_with fail
      all_goals go_ret
      all_goals refine ⟨_, rfl, ?_, HB2.out⟩
      all_goals simp only [size_add, size_lit, List.size_toArray, List.length_cons, List.length_nil]
      all_goals omega
end Go.Proofs.YtadcklijdbbkjaaGreatDoor
