/- Contract of grafterykeep.Expr: a text of at most 250 bytes, in new memory alone. -/
import Derived.Test.YtadcklijdbbkjaaGreatDoorZip
import Derived.Deep.LoopGhost
namespace Go.Proofs.YtadcklijdbbkjaaGreatDoor
open Go.RowKit Go.ChangeShapes Go.WideShapes Go.Deep
set_option linter.unusedVariables false

/-- A new bard. -/
theorem Bard.make {base : Nat} {w : World} {A : Option Addr} {len cap : Nat} (hr : Raws base w A len cap) (ht : TabB base w) (hb : base ≤ w.heap.size) (T : TypeId) :
    Bard 9 base ((w.alloc (.cells #[.string ⟨#[110]⟩] 9)).alloc (.cells #[.slice A len cap, .slice (some ⟨w.heap.size, 0, none⟩) 1 1, .int .i64 0] T)) (w.heap.size + 1) (.slice (some ⟨w.heap.size, 0, none⟩) 1 1) 1 := by
  have b1 : Below w.heap.size w (w.alloc (.cells #[.string ⟨#[110]⟩] 9)) := (Below.refl _ _).alloc (Nat.le_refl _) _
  have b2 := below_a b1 (.cells #[.slice A len cap, .slice (some ⟨w.heap.size, 0, none⟩) 1 1, .int .i64 0] T)
  have e1 : (w.alloc (.cells #[.string ⟨#[110]⟩] 9)).heap.size = w.heap.size + 1 := by simp
  have c : ∀ j, ((w.alloc (.cells #[.string ⟨#[110]⟩] 9)).alloc (.cells #[.slice A len cap, .slice (some ⟨w.heap.size, 0, none⟩) 1 1, .int .i64 0] T)).cell? ⟨w.heap.size + 1, j, none⟩ = (#[.slice A len cap, .slice (some ⟨w.heap.size, 0, none⟩) 1 1, .int .i64 0] : Array Value)[j]? := by
    intro j
    rw [← e1]
    exact cell_new _ _ T j
  refine ⟨by omega, by simp, ⟨A, len, cap, c 0, hr.below (b2.mono hb)⟩, c 1, ?_, ⟨[⟨#[110]⟩], rfl, ?_⟩, ?_, ht.below (b2.mono hb), by omega⟩
  · intro o
    rw [← e1]
    exact frozen_new _ _ _ _
  · have h0 : OwnAt kitTx 9 base (w.alloc (.cells #[.string ⟨#[110]⟩] 9)) (.slice (some ⟨w.heap.size, 0, none⟩) 1 1) [⟨#[110]⟩] := by
      refine ⟨⟨rfl, Or.inr ⟨w.heap.size, 1, #[.string ⟨#[110]⟩], rfl, hb, heap_alloc_new w _, Nat.le_refl _, by unfold maxLen; omega, rfl, rfl⟩⟩, ?_, fun _ _ _ h => h.elim, fun _ _ _ h => h.elim⟩
      intro x hx
      obtain rfl := List.mem_singleton.1 hx
      show _ ≤ 20
      decide
    exact h0.new ((Below.refl _ _).alloc (Nat.le_refl _) _)
  · intro e
    have := Option.some.inj e
    simp at this

/-- What Expr does. -/
def TextIs (L : Nat) (w : World) (e : Ending) (w' : World) : Prop := ∃ s : ByteArray, e = .returned (.string s) ∧ s.size ≤ L ∧ Below w.heap.size w w'
/-- A new bard's expr, at a level. -/
theorem new_expr {base d : Nat} (hE : ExprAt 9 base d) (hd : d ≤ 5) {w : World} {A : Option Addr} {len cap : Nat} (hr : Raws base w A len cap) (ht : TabB base w) (hb : base ≤ w.heap.size) (T : TypeId) :
    Calls Tryz.prog 27 #[.pointer (some ⟨w.heap.size + 1, 0, none⟩), .int .i64 d] ((w.alloc (.cells #[.string ⟨#[110]⟩] 9)).alloc (.cells #[.slice A len cap, .slice (some ⟨w.heap.size, 0, none⟩) 1 1, .int .i64 0] T)) (TextIs (Lb d) w) := by
  refine (hE _ _ _ _ (Bard.make hr ht hb T) (by omega)).mono ?_
  rintro e w' ⟨s, v', rfl, hs, _, htr⟩
  have b1 : Below w.heap.size w (w.alloc (.cells #[.string ⟨#[110]⟩] 9)) := (Below.refl _ _).alloc (Nat.le_refl _) _
  have b2 := below_a b1 (.cells #[.slice A len cap, .slice (some ⟨w.heap.size, 0, none⟩) 1 1, .int .i64 0] T)
  refine ⟨s, rfl, hs, b2.trans (htr.below ?_ b2.size)⟩
  rintro k (rfl | hk)
  · omega
  · have := Option.some.inj hk
    simp only at this
    omega

set_option maxHeartbeats 4000000 in
set_option maxRecDepth 20000 in
theorem text_any {base : Nat} (hE : ∀ d, ExprAt 9 base d) {w : World} {A : Option Addr} {len cap : Nat} (hr : Raws base w A len cap) (ht : TabB base w) (hb : base ≤ w.heap.size) :
    Calls Tryz.prog 14 #[.slice A len cap] w (TextIs 250 w) := by
  have HE := Lib.hid hE
  have HR := Lib.hid hr
  have HT := Lib.hid ht
  have HB := Lib.hid hb
  have C3 := Lib.hid (new_expr (hE 3) (by omega) hr ht hb 95)
  clear hE hr ht hb
  go_enter Tryz.func14, Tryz.ntmps14
  go_wp2_with fail
  refine C3.out.mono ?_
  rintro q w1 ⟨s, rfl, hs, hbl⟩
  have HBL := Lib.hid hbl
  have HS := Lib.hid (show s.size ≤ 100000000 from Nat.le_trans hs (Lb_le 3 (by omega)))
  clear hs hbl
  go_wp2_with fail
  go_loopg [3, 4, 5] 4 (fun g x3 x4 x5 wr => ∃ (i : Nat) (s : ByteArray), g = 4 - i ∧ i ≤ 3 ∧ x5 = .int .i64 i ∧ x4 = .string s ∧ s.size ≤ 100000000 ∧ (i = 3 → s.size ≤ 20) ∧ Below w.heap.size w wr)
  case atStart => exact ⟨0, s, rfl, by omega, rfl, rfl, HS.out, by omega, HBL.out⟩
  case round =>
    obtain ⟨i, s, hg, hi, rfl, rfl, hs1, hs2, hbl⟩ := hrel
    have HG := Lib.hid hg
    have HBR := Lib.hid hbl
    have HRR := Lib.hid (HR.out.below (hbl.mono HB.out))
    have HTR := Lib.hid (HT.out.below (hbl.mono HB.out))
    have HBS := Lib.hid (Nat.le_trans HB.out hbl.size)
    clear hg hbl
    by_cases hgt : 250 < s.size
    · have hgt' : (250 : Int) < (s.size : Int) := by omega
      have hi2 : i ≤ 2 := by rcases Nat.lt_or_ge i 3 with h | h; omega; have := hs2 (by omega); omega
      clear hs2
      rcases (show i = 0 ∨ i = 1 ∨ i = 2 by omega) with rfl | rfl | rfl
      · have CC := Lib.hid (new_expr (HE.out 2) (by omega) HRR.out HTR.out HBS.out 95)
        go_wp2_with fail
        refine CC.out.mono ?_
        rintro q w2 ⟨s2, rfl, hs, hbl⟩
        have HS2 := Lib.hid hs
        have HBL2 := Lib.hid hbl
        clear hs hbl
        go_wp2_with fail
        go_roundg 3
        case measure => have := HG.out; omega
        case rel => exact ⟨1, s2, rfl, by omega, by go_num, rfl, Nat.le_trans HS2.out (Lb_le 2 (by omega)), by omega, HBR.out.trans (HBL2.out.mono HBR.out.size)⟩
      · have CC := Lib.hid (new_expr (HE.out 1) (by omega) HRR.out HTR.out HBS.out 95)
        go_wp2_with fail
        refine CC.out.mono ?_
        rintro q w2 ⟨s2, rfl, hs, hbl⟩
        have HS2 := Lib.hid hs
        have HBL2 := Lib.hid hbl
        clear hs hbl
        go_wp2_with fail
        go_roundg 2
        case measure => have := HG.out; omega
        case rel => exact ⟨2, s2, rfl, by omega, by go_num, rfl, Nat.le_trans HS2.out (Lb_le 1 (by omega)), by omega, HBR.out.trans (HBL2.out.mono HBR.out.size)⟩
      · have CC := Lib.hid (new_expr (HE.out 0) (by omega) HRR.out HTR.out HBS.out 95)
        go_wp2_with fail
        refine CC.out.mono ?_
        rintro q w2 ⟨s2, rfl, hs, hbl⟩
        have HS2 := Lib.hid hs
        have HBL2 := Lib.hid hbl
        clear hs hbl
        go_wp2_with fail
        go_roundg 1
        case measure => have := HG.out; omega
        case rel => exact ⟨3, s2, rfl, by omega, by go_num, rfl, Nat.le_trans HS2.out (Lb_le 0 (by omega)), fun _ => HS2.out, HBR.out.trans (HBL2.out.mono HBR.out.size)⟩
    · have hgt' : ¬ (250 : Int) < (s.size : Int) := by omega
      clear hs2
      go_wp2_with fail
      go_ret
      exact ⟨s, rfl, by omega, HBR.out⟩
end Go.Proofs.YtadcklijdbbkjaaGreatDoor
