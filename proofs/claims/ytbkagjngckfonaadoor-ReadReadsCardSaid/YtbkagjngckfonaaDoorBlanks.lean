/- Contracts of read's blanks and grafteryref's skip. -/
import Derived.Test.YtbkagjngckfonaaDoorPP
import Derived.Test.YtbkagjngckfonaaDoorMem
import Derived.Deep.LoopGhost
import Derived.Deep.QuietTactic
import Derived.BigQuiet
import Derived.WalkSpells
import Derived.Maps.AppendAt
import Derived.Lib.Hide
namespace Go.Proofs.YtbkagjngckfonaaDoor
open Go.RowKit Go.ChangeShapes Go.WideShapes Go.Deep
set_option linter.unusedVariables false

/-- A parser: its text, where it is, its other cells. -/
structure St (w : World) (b : Nat) (s : ByteArray) (k : Nat) (R : List Value) : Prop where
  c0 : w.cell? ⟨b, 0, none⟩ = some (.string s)
  c1 : w.cell? ⟨b, 1, none⟩ = some (.int .i64 k)
  rest : ∀ j u, R[j]? = some u → w.cell? ⟨b, 2 + j, none⟩ = some u
  frz : ∀ o, w.frozen? ⟨b, o, none⟩ = false
theorem St.lt {w : World} {b : Nat} {s : ByteArray} {k : Nat} {R : List Value} (h : St w b s k R) : b < w.heap.size := World.block_lt_of_cell? w _ h.c0
theorem St.drew {w : World} {b : Nat} {s : ByteArray} {k : Nat} {R : List Value} (h : St w b s k R) (n : Nat) : St (w.drewN n) b s k R := ⟨h.c0, h.c1, h.rest, h.frz⟩
theorem set_same' {w : World} {p i : Nat} {u v : Value} (h : w.cell? ⟨p, i, none⟩ = some v) : (w.setCell ⟨p, i, none⟩ u).cell? ⟨p, i, none⟩ = some u := World.cell?_setCell_same (h := h) ..
theorem set_other' {w : World} {p j i : Nat} {u v : Value} (h : w.cell? ⟨p, i, none⟩ = some v) (hne : i ≠ j) : (w.setCell ⟨p, j, none⟩ u).cell? ⟨p, i, none⟩ = some v := by
  have h1 : (⟨p, j, none⟩ : Addr) ≠ ⟨p, i, none⟩ := by intro e; cases e; exact hne rfl
  exact (World.cell?_setCell_other (h := h1) ..).trans h
theorem St.at_ {w : World} {b : Nat} {s : ByteArray} {k : Nat} {R : List Value} (h : St w b s k R) (k' : Nat) : St (w.setCell ⟨b, 1, none⟩ (.int .i64 k')) b s k' R :=
  ⟨set_other' h.c0 (by decide), set_same' h.c1, fun j u hj => set_other' (h.rest j u hj) (by omega), fun o => by rw [World.frozen?_setCell]; exact h.frz o⟩
/-- Only block b turned of what was there. -/
def Only (b : Nat) (w w' : World) : Prop := w.grownBy w' (some b)
theorem Only.refl (b : Nat) (w : World) : Only b w w := ⟨rfl, rfl, rfl, Nat.le_refl _, fun _ _ _ => rfl⟩
theorem Only.trans {b : Nat} {x y z : World} (h : Only b x y) (k : Only b y z) : Only b x z := World.grownBy.trans h k
theorem Only.drew {b : Nat} {x y : World} (h : Only b x y) (n : Nat) : Only b x (y.drewN n) := ⟨h.os, h.tape, h.output, h.size, h.block⟩
theorem Only.set {b j : Nat} {x y : World} (h : Only b x y) (u : Value) : Only b x (y.setCell ⟨b, j, none⟩ u) :=
  h.trans ⟨rfl, rfl, rfl, by simp, fun k _ hk => heap_setCell_other y ⟨b, j, none⟩ k u (fun e => hk (by simp [e]))⟩
theorem Only.of_below {b : Nat} {x y : World} (h : Below x.heap.size x y) : Only b x y := ⟨h.os, h.tape, h.output, h.size, fun i hi _ => h.block i hi⟩
theorem Only.below {b B : Nat} {x y : World} (h : Only b x y) (hB : B ≤ b) (hx : B ≤ x.heap.size) : Below B x y :=
  ⟨h.os, h.tape, h.output, h.size, fun k hk => World.grownBy.block h k (Nat.lt_of_lt_of_le hk hx) (fun e => by have e' := Option.some.inj e; subst e'; exact Nat.lt_irrefl _ (Nat.lt_of_lt_of_le hk hB))⟩
theorem Only.cell {b c o : Nat} {x y : World} {u : Value} (h : Only b x y) (hc : x.cell? ⟨c, o, none⟩ = some u) (hne : c ≠ b) : y.cell? ⟨c, o, none⟩ = some u :=
  World.grownBy.cell h hc (fun e => hne (Option.some.inj e))

theorem ne8 (c : UInt8) (n : Nat) (hn : n < 256) (h : c ≠ UInt8.ofNat n) : ((c.toNat : Int) == (n : Int)) = false := by
  have h1 : c.toNat ≠ n := fun e => h (by rw [← e]; simp)
  simp
  omega
theorem blank_cases {c : UInt8} (h : isBlank c = true) : c = 32 ∨ c = 10 ∨ c = 9 := by
  unfold isBlank at h
  simp only [Bool.or_eq_true, beq_iff_eq] at h
  rcases h with (h | h) | h
  · exact Or.inl h
  · exact Or.inr (Or.inl h)
  · exact Or.inr (Or.inr h)
theorem blank_not {c : UInt8} (h : isBlank c = false) : ((c.toNat : Int) == 32) = false ∧ ((c.toNat : Int) == 10) = false ∧ ((c.toNat : Int) == 9) = false := by
  unfold isBlank at h
  simp only [Bool.or_eq_false_iff, beq_eq_false_iff_ne] at h
  exact ⟨ne8 c 32 (by decide) h.1.1, ne8 c 10 (by decide) h.1.2, ne8 c 9 (by decide) h.2⟩

def MovedTo (b : Nat) (s : ByteArray) (k : Nat) (R : List Value) (w : World) (e : Ending) (w' : World) : Prop := e = .returned (.tuple #[]) ∧ St w' b s k R ∧ Only b w w'

set_option maxHeartbeats 4000000 in
set_option maxRecDepth 20000 in
theorem blanks_any (w : World) (b : Nat) (s : ByteArray) (k0 : Nat) (R : List Value) (hs : s.size ≤ 3000) (hk0 : k0 ≤ s.size) (h : St w b s k0 R) : Calls Tryd.prog 15 #[.pointer (some ⟨b, 0, none⟩)] w (MovedTo b s (skipA s k0) R w) := by
  have H := Lib.hid h
  clear h
  go_enter Tryd.func15, Tryd.ntmps15
  go_wp2_with fail
  go_loopg [2] (s.size - k0) (fun g c wr => ∃ k : Nat, g = s.size - k ∧ k ≤ s.size ∧ St wr b s k R ∧ Only b w wr ∧ k + bl false ((lst s).drop k) = skipA s k0)
  case atStart => exact ⟨k0, by omega, hk0, H.out, Only.refl _ _, rfl⟩
  case round =>
    obtain ⟨k, hg, hk, hst, hon, heq⟩ := hrel
    have HG := Lib.hid hg
    have HST := Lib.hid hst
    have HON := Lib.hid hon
    have HEQ := Lib.hid heq
    have p0 := hst.c0
    have p1 := hst.c1
    have f1 := hst.frz 1
    clear hg hst hon heq
    by_cases hlt : k < s.size
    · have y3 : (0 : Int) ≤ (k : Int) := Int.natCast_nonneg _
      have y4 : (k : Int) < (s.size : Int) := by omega
      obtain ⟨c, hc⟩ : ∃ c : UInt8, s[k] = c := ⟨_, rfl⟩
      have HC := Lib.hid hc
      by_cases hb : isBlank c = true
      · have HN := Lib.hid ((skip_blank s k hlt (by rw [hc]; exact hb)).symm.trans HEQ.out)
        obtain rfl | rfl | rfl := blank_cases hb
        all_goals
          clear hb
          go_wp2_with fail
          go_quiet (fail)
          go_wp2_with fail
          go_quiet (fail)
          go_wp2_with fail
          go_roundg (s.size - (k + 1))
          case measure => have := HG.out; omega
          case rel => exact ⟨k + 1, rfl, by omega, ((HST.out.drew _).at_ (k + 1)), (HON.out.drew _).set _, HN.out⟩
      · have hbf : isBlank c = false := by simpa using hb
        by_cases h59 : c = 59
        · subst h59
          have HN := Lib.hid ((skip_semi s k hlt hc).symm.trans HEQ.out)
          clear hb hbf
          go_wp2_with fail
          go_quiet (fail)
          go_wp2_with fail
          go_quiet (fail)
          go_wp2_with fail
          clear p0 p1 f1
          go_loopg [68] (s.size - k) (fun g x wx => ∃ j : Nat, g = s.size - j ∧ j ≤ s.size ∧ k ≤ j ∧ St wx b s j R ∧ Only b w wx ∧ j + bl true ((lst s).drop j) = skipA s k0)
          case atStart => exact ⟨k, rfl, hk, Nat.le_refl _, HST.out.drew _, HON.out.drew _, HN.out⟩
          case round =>
            obtain ⟨j, hg, hj, hkj, hst, hon, heq⟩ := hrel
            have HGJ := Lib.hid hg
            have HSJ := Lib.hid hst
            have HOJ := Lib.hid hon
            have HEJ := Lib.hid heq
            have p0 := hst.c0
            have p1 := hst.c1
            have f1 := hst.frz 1
            clear hg hst hon heq y3 y4 hc
            by_cases hjl : j < s.size
            · have y3 : (0 : Int) ≤ (j : Int) := Int.natCast_nonneg _
              have y4 : (j : Int) < (s.size : Int) := by omega
              obtain ⟨c, hc⟩ : ∃ c : UInt8, s[j] = c := ⟨_, rfl⟩
              by_cases h10 : c = 10
              · subst h10
                have hne : k ≠ j := by
                  intro e
                  subst e
                  have := HC.out
                  rw [hc] at this
                  exact absurd this (by decide)
                have HNJ := Lib.hid ((skip_nl s j hjl hc).symm.trans HEJ.out)
                go_wp2_with fail
                go_quiet (fail)
                go_wp2_with fail
                go_roundg (s.size - j)
                case measure => have := HG.out; omega
                case rel => exact ⟨j, rfl, by omega, HSJ.out.drew _, HOJ.out.drew _, HNJ.out⟩
              · have q1 : ((c.toNat : Int) == 10) = false := ne8 c 10 (by decide) h10
                have q2 : ((c.toNat : Int) != 10) = true := by rw [bne, q1]; rfl
                have HNJ := Lib.hid ((skip_com s j hjl (by rw [hc]; exact h10)).symm.trans HEJ.out)
                clear h10
                go_wp2_with fail
                go_quiet (fail)
                go_wp2_with fail
                go_roundg (s.size - (j + 1))
                case measure => have := HGJ.out; omega
                case rel => exact ⟨j + 1, rfl, by omega, by omega, ((HSJ.out.drew _).at_ (j + 1)), (HOJ.out.drew _).set _, HNJ.out⟩
            · obtain rfl : s.size = j := by omega
              have HNJ := Lib.hid ((skip_end s true).symm.trans HEJ.out)
              have hdf : decide ((s.size : Int) < (s.size : Int)) = false := by simp
              go_wp2_with fail
              go_quiet (fail)
              go_wp2_with fail
              go_roundg 0
              case measure => have := HG.out; omega
              case rel => exact ⟨s.size, by omega, by omega, HSJ.out.drew _, HOJ.out.drew _, (skip_end s false).trans HNJ.out⟩
        · have HN := Lib.hid ((skip_other s k hlt (by rw [hc]; exact hbf) (by rw [hc]; exact h59)).symm.trans HEQ.out)
          obtain ⟨q1, q2, q3⟩ := blank_not hbf
          have q4 : ((c.toNat : Int) == 59) = false := ne8 c 59 (by decide) h59
          clear hb hbf h59
          go_wp2_with fail
          go_quiet (fail)
          go_wp2_with fail
          go_quiet (fail)
          go_wp2_with fail
          go_end0
          exact ⟨rfl, HN.out ▸ (HST.out.drew _), HON.out.drew _⟩
    · obtain rfl : s.size = k := by omega
      have HN := Lib.hid ((skip_end s false).symm.trans HEQ.out)
      go_wp2_with fail
      go_quiet (fail)
      go_wp2_with fail
      go_end0
      exact ⟨rfl, HN.out ▸ (HST.out.drew _), HON.out.drew _⟩
set_option maxHeartbeats 4000000 in
set_option maxRecDepth 20000 in
theorem skip_any (w : World) (b : Nat) (s : ByteArray) (k0 : Nat) (R : List Value) (hs : s.size ≤ 3000) (hk0 : k0 ≤ s.size) (h : St w b s k0 R) : Calls Tryd.prog 18 #[.pointer (some ⟨b, 0, none⟩)] w (MovedTo b s (skipA s k0) R w) := by
  have H := Lib.hid h
  clear h
  go_enter Tryd.func18, Tryd.ntmps18
  go_wp2_with fail
  go_loopg [2] (s.size - k0) (fun g c wr => ∃ k : Nat, g = s.size - k ∧ k ≤ s.size ∧ St wr b s k R ∧ Only b w wr ∧ k + bl false ((lst s).drop k) = skipA s k0)
  case atStart => exact ⟨k0, by omega, hk0, H.out, Only.refl _ _, rfl⟩
  case round =>
    obtain ⟨k, hg, hk, hst, hon, heq⟩ := hrel
    have HG := Lib.hid hg
    have HST := Lib.hid hst
    have HON := Lib.hid hon
    have HEQ := Lib.hid heq
    have p0 := hst.c0
    have p1 := hst.c1
    have f1 := hst.frz 1
    clear hg hst hon heq
    by_cases hlt : k < s.size
    · have y3 : (0 : Int) ≤ (k : Int) := Int.natCast_nonneg _
      have y4 : (k : Int) < (s.size : Int) := by omega
      obtain ⟨c, hc⟩ : ∃ c : UInt8, s[k] = c := ⟨_, rfl⟩
      have HC := Lib.hid hc
      by_cases hb : isBlank c = true
      · have HN := Lib.hid ((skip_blank s k hlt (by rw [hc]; exact hb)).symm.trans HEQ.out)
        obtain rfl | rfl | rfl := blank_cases hb
        all_goals
          clear hb
          go_wp2_with fail
          go_quiet (fail)
          go_wp2_with fail
          go_quiet (fail)
          go_wp2_with fail
          go_roundg (s.size - (k + 1))
          case measure => have := HG.out; omega
          case rel => exact ⟨k + 1, rfl, by omega, ((HST.out.drew _).at_ (k + 1)), (HON.out.drew _).set _, HN.out⟩
      · have hbf : isBlank c = false := by simpa using hb
        by_cases h59 : c = 59
        · subst h59
          have HN := Lib.hid ((skip_semi s k hlt hc).symm.trans HEQ.out)
          clear hb hbf
          go_wp2_with fail
          go_quiet (fail)
          go_wp2_with fail
          go_quiet (fail)
          go_wp2_with fail
          clear p0 p1 f1
          go_loopg [49] (s.size - k) (fun g x wx => ∃ j : Nat, g = s.size - j ∧ j ≤ s.size ∧ k ≤ j ∧ St wx b s j R ∧ Only b w wx ∧ j + bl true ((lst s).drop j) = skipA s k0)
          case atStart => exact ⟨k, rfl, hk, Nat.le_refl _, HST.out.drew _, HON.out.drew _, HN.out⟩
          case round =>
            obtain ⟨j, hg, hj, hkj, hst, hon, heq⟩ := hrel
            have HGJ := Lib.hid hg
            have HSJ := Lib.hid hst
            have HOJ := Lib.hid hon
            have HEJ := Lib.hid heq
            have p0 := hst.c0
            have p1 := hst.c1
            have f1 := hst.frz 1
            clear hg hst hon heq y3 y4 hc
            by_cases hjl : j < s.size
            · have y3 : (0 : Int) ≤ (j : Int) := Int.natCast_nonneg _
              have y4 : (j : Int) < (s.size : Int) := by omega
              obtain ⟨c, hc⟩ : ∃ c : UInt8, s[j] = c := ⟨_, rfl⟩
              by_cases h10 : c = 10
              · subst h10
                have hne : k ≠ j := by
                  intro e
                  subst e
                  have := HC.out
                  rw [hc] at this
                  exact absurd this (by decide)
                have HNJ := Lib.hid ((skip_nl s j hjl hc).symm.trans HEJ.out)
                go_wp2_with fail
                go_quiet (fail)
                go_wp2_with fail
                go_roundg (s.size - j)
                case measure => have := HG.out; omega
                case rel => exact ⟨j, rfl, by omega, HSJ.out.drew _, HOJ.out.drew _, HNJ.out⟩
              · have q1 : ((c.toNat : Int) == 10) = false := ne8 c 10 (by decide) h10
                have q2 : ((c.toNat : Int) != 10) = true := by rw [bne, q1]; rfl
                have HNJ := Lib.hid ((skip_com s j hjl (by rw [hc]; exact h10)).symm.trans HEJ.out)
                clear h10
                go_wp2_with fail
                go_quiet (fail)
                go_wp2_with fail
                go_roundg (s.size - (j + 1))
                case measure => have := HGJ.out; omega
                case rel => exact ⟨j + 1, rfl, by omega, by omega, ((HSJ.out.drew _).at_ (j + 1)), (HOJ.out.drew _).set _, HNJ.out⟩
            · obtain rfl : s.size = j := by omega
              have HNJ := Lib.hid ((skip_end s true).symm.trans HEJ.out)
              have hdf : decide ((s.size : Int) < (s.size : Int)) = false := by simp
              go_wp2_with fail
              go_quiet (fail)
              go_wp2_with fail
              go_roundg 0
              case measure => have := HG.out; omega
              case rel => exact ⟨s.size, by omega, by omega, HSJ.out.drew _, HOJ.out.drew _, (skip_end s false).trans HNJ.out⟩
        · have HN := Lib.hid ((skip_other s k hlt (by rw [hc]; exact hbf) (by rw [hc]; exact h59)).symm.trans HEQ.out)
          obtain ⟨q1, q2, q3⟩ := blank_not hbf
          have q4 : ((c.toNat : Int) == 59) = false := ne8 c 59 (by decide) h59
          clear hb hbf h59
          go_wp2_with fail
          go_quiet (fail)
          go_wp2_with fail
          go_quiet (fail)
          go_wp2_with fail
          go_end0
          exact ⟨rfl, HN.out ▸ (HST.out.drew _), HON.out.drew _⟩
    · obtain rfl : s.size = k := by omega
      have HN := Lib.hid ((skip_end s false).symm.trans HEQ.out)
      go_wp2_with fail
      go_quiet (fail)
      go_wp2_with fail
      go_end0
      exact ⟨rfl, HN.out ▸ (HST.out.drew _), HON.out.drew _⟩
end Go.Proofs.YtbkagjngckfonaaDoor
