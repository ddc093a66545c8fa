/- Contracts of unit.reserved, unit.bindable, unit.CheckShape, grafteryref.ShapeFault. -/
import Derived.Test.YtlgnaopaeapbfaaDoorLaid
import Derived.Test.YtlgnaopaeapbfaaDoorRC
import Derived.Test.YtlgnaopaeapbfaaDoorContains
import Derived.Deep.LoopGhost
import Derived.Deep.QuietTactic
import Derived.BigQuiet
namespace Go.Proofs.YtlgnaopaeapbfaaDoor
open Go.RowKit Go.ChangeShapes Go.WideShapes Go.Deep Go.ChangeAt
set_option linter.unusedVariables false

/-- The unit package's two maps hold what their initialisers lay. -/
structure UMaps (w : World) : Prop where
  kw : KwAt w
  ar : ArAt 0 w
theorem UMaps.below {w w' : World} (h : UMaps w) (hb : Below w.heap.size w w') : UMaps w' := ⟨h.kw.below hb, h.ar.below hb⟩

def resB (s : ByteArray) : Bool := isKw s.toList || decide (0 ≤ primN s.toList)

set_option maxHeartbeats 400000 in
theorem reserved_any (s : ByteArray) (hs : s.size ≤ maxLen) (w : World) (hm : UMaps w) :
    Calls Tryd.prog 27 #[.string s] w fun e w' => e = .returned (.bool (resB s)) ∧ w = w' := by
  obtain ⟨bm, hc, _, _, hl⟩ := hm.kw
  obtain ⟨bm2, hc2, _, _, hl2⟩ := hm.ar
  have h1 := hl w rfl s hs
  have h2 := hl2 w rfl s hs
  have HR := Lib.hid (show resB s = (isKw s.toList || decide (0 ≤ primN s.toList)) from rfl)
  clear hl hl2 hm
  generalize (if primN s.toList < 0 then 0 else primN s.toList) = nn at h2
  generalize hp : decide (0 ≤ primN s.toList) = pr at h2
  have HP := Lib.hid hp
  clear hp
  cases hk : isKw s.toList
  all_goals
    rw [hk] at h1
    have HK := Lib.hid hk
    clear hk
    go_enter Tryd.func27, Tryd.ntmps27
    go_wp2_with fail
    go_ret
    exact ⟨ret_bool (by rw [HR.out, HK.out, HP.out]; rfl), rfl⟩

def natD (s : List UInt8) : DataW Unit := .agg [.lit (.int .i64 3), .lit (.int .i64 0), .lit (.string s), .nil]

set_option maxHeartbeats 400000 in
theorem nameCheck_any (s : ByteArray) (hs : s.size ≤ maxLen) (w : World) :
    Calls Tryd.prog 16 #[.agg #[.int .i64 3, .int .i64 0, .string s, .slice none 0 0]] w fun e w' => e = .returned (.int .i64 (if nameB s.data.toList then 0 else 4)) ∧ Below w.heap.size w w' := by
  have h := readCheck_any (H := Unit) (enc := fun _ => ()) w [.int .i64 3, .int .i64 0, .string s, .slice none 0 0] (natD s.data.toList) (Rd.ofName _ w s hs)
  rw [natD, fault_name] at h
  exact h

set_option maxHeartbeats 400000 in
theorem bindable_any (s : ByteArray) (hs : s.size ≤ maxLen) (w : World) (hm : UMaps w) :
    Calls Tryd.prog 15 #[.string s] w fun e w' => e = .returned (.bool (freeB s)) ∧ Below w.heap.size w w' := by
  have HM := Lib.hid hm
  clear hm
  have HF := Lib.hid (show freeB s = (nameB s.data.toList && !resB s) from by
    unfold freeB resB
    have : decide (primN s.toList < 0) = !decide (0 ≤ primN s.toList) := by
      rw [Bool.eq_iff_iff]; simp
    rw [this]
    cases nameB s.data.toList <;> cases isKw s.toList <;> simp)
  cases hn : nameB s.data.toList
  all_goals
    have h := nameCheck_any s hs w
    rw [hn] at h
    have HC := Lib.hid h
    have HN := Lib.hid hn
    clear h hn
    go_enter Tryd.func15, Tryd.ntmps15
    go_wp2_with fail
    refine HC.out.mono ?_
    rintro e w1 ⟨rfl, hb1⟩
    have HB1 := Lib.hid hb1
    clear hb1
  · go_wp2_with fail
    go_ret
    exact ⟨ret_bool (by rw [HF.out, HN.out]; rfl), HB1.out⟩
  · go_wp2_with fail
    refine (reserved_any s hs _ (HM.out.below HB1.out)).mono ?_
    rintro e w2 ⟨rfl, rfl⟩
    go_wp2_with fail
    go_ret
    exact ⟨ret_bool (by rw [HF.out, HN.out]; rfl), HB1.out⟩

/-! ### a shape -/
theorem readableShape : Tryd.prog.readableRec 24 = true := by kernel_rfl
theorem rowShape : 24 < Tryd.prog.types.size := of_decide_eq_true (by kernel_rfl)
theorem cellsShape : Tryd.prog.cellsOf 24 = 2 := by kernel_rfl
theorem cellsSlString : Tryd.prog.cellsOf 22 = 1 := by kernel_rfl

section
variable {H : Type} {enc : TypeId × Value → H}
theorem slAt_strs {w : World} {A : Option Addr} {len cap : Nat} {it : DataW H} (h : SlAt enc w 9 1 A len cap it) : ∃ ss : List ByteArray, StrsAt w A len ss ∧ ∀ s ∈ ss, s.size ≤ maxLen := by
  rcases Nat.eq_zero_or_pos len with h0 | h0
  · subst h0
    exact ⟨[], ⟨rfl, fun h => absurd h (by omega)⟩, by simp⟩
  · obtain ⟨b, o, rfl, hb, hrow⟩ := h.at_ h0
    have hx : ∀ i : Fin len, ∃ s : ByteArray, w.cell? ⟨b, o + i.1, none⟩ = some (.string s) ∧ s.size ≤ maxLen := by
      intro i
      obtain ⟨cs', hl, hr, hrd⟩ := hrow i.1 (by rw [h.size]; exact i.2)
      obtain ⟨s, rfl, _, hs⟩ := hrd.string Tryd.underlying9
      have := hr 0 (by simp)
      simp at this
      exact ⟨s, this, hs⟩
    obtain ⟨f, hf⟩ := Classical.axiomOfChoice hx
    refine ⟨List.ofFn f, ⟨by simp, fun _ => ⟨b, o, rfl, hb, fun i hi => ?_⟩⟩, ?_⟩
    · have hi' : i < len := by simpa using hi
      rw [List.getElem_ofFn]
      exact (hf ⟨i, hi'⟩).1
    · intro s hs
      obtain ⟨i, rfl⟩ := List.mem_ofFn.1 hs
      exact (hf i).2

/-- A shape's two cells: its name, its fields. -/
structure ShapeAt (w : World) (cs : List Value) (name : ByteArray) (A : Option Addr) (len cap : Nat) (ss : List ByteArray) : Prop where
  cells : cs = [.string name, .slice A len cap]
  wide : name.size ≤ maxLen
  strs : StrsAt w A len ss
  each : ∀ s ∈ ss, s.size ≤ maxLen
  le : len ≤ cap
  cap_ : cap ≤ maxLen

theorem ShapeAt.below {w w' : World} {cs : List Value} {name : ByteArray} {A : Option Addr} {len cap : Nat} {ss : List ByteArray} (h : ShapeAt w cs name A len cap ss) (hb : Below w.heap.size w w') : ShapeAt w' cs name A len cap ss :=
  ⟨h.cells, h.wide, h.strs.below hb, h.each, h.le, h.cap_⟩

theorem Rd.shape {w : World} {cs : List Value} {d : DataW H} (h : Rd enc w 24 cs d) : ∃ name A len cap ss, ShapeAt w cs name A len cap ss := by
  obtain ⟨f, ps, h⟩ := h
  obtain ⟨xs, m, _, hx, hl, hlen, hf⟩ := DataW.trod_struct Tryd.underlying24 h
  rw [cellsShape] at hl
  match cs, hl, xs, hlen with
  | [c0, c1], _, [y0, y1], _ =>
    have h0 : Rd enc w 9 [c0] y0.1 := ⟨m, y0.2, by simpa [cellsString] using hf 0 _ rfl⟩
    have h1 : Rd enc w 22 [c1] y1.1 := ⟨m, y1.2, by simpa [cellsSlString] using hf 1 _ rfl⟩
    obtain ⟨s, e2, d2, s1⟩ := h0.string Tryd.underlying9
    obtain ⟨A, len, cap, e3, hs⟩ := h1.slAt Tryd.underlying22 cellsString (by decide)
    simp only [List.cons.injEq, and_true] at e2 e3
    subst e2 e3
    obtain ⟨ss, hss, hev⟩ := slAt_strs hs
    exact ⟨s, A, len, cap, ss, rfl, s1, hss, hev, hs.le, hs.wide⟩
end

theorem StrsAt.take {w : World} {A : Option Addr} {len : Nat} {ss : List ByteArray} (h : StrsAt w A len ss) {k : Nat} (hk : k ≤ len) : StrsAt w A k (ss.take k) :=
  ⟨by rw [List.length_take, h.size]; omega, fun h0 => by
    obtain ⟨b, o, rfl, hb, hc⟩ := h.at_ (by omega)
    exact ⟨b, o, rfl, hb, fun i hi => by rw [List.getElem_take]; exact hc i (by rw [List.length_take] at hi; omega)⟩⟩

/-- What is wrong with the i-th field. -/
def fieldF (ss : List ByteArray) (i : Nat) : Int := if nameB (ss.getD i ByteArray.empty).data.toList = false then 4 else if inL (ss.take i) (ss.getD i ByteArray.empty) = true then 7 else 0
/-- What is wrong with a shape (P2.3). -/
def shapeF (name : ByteArray) (ss : List ByteArray) : Int :=
  if freeB name = false then 4 else if 6 < ss.length then 1 else firstErr ((List.range ss.length).map (fieldF ss))

theorem shapeF_at {name : ByteArray} {ss : List ByteArray} (hf : freeB name = true) (hl : ss.length ≤ 6) {k : Nat} {e : Int} (hk : k < ss.length) (hb : ∀ j, j < k → fieldF ss j = 0) (he : fieldF ss k = e) (hne : e ≠ 0) : shapeF name ss = e := by
  unfold shapeF
  rw [if_neg (by rw [hf]; simp), if_neg (by omega), firstErr_at (i := k) (by simpa using hk) (fun j hj => by simpa using hb j hj) (by simpa [he] using hne)]
  simpa using he
theorem shapeF_ok {name : ByteArray} {ss : List ByteArray} (hf : freeB name = true) (hl : ss.length ≤ 6) (hb : ∀ j, j < ss.length → fieldF ss j = 0) : shapeF name ss = 0 := by
  unfold shapeF
  rw [if_neg (by rw [hf]; simp), if_neg (by omega), firstErr_zero]
  intro x hx
  obtain ⟨j, hj, rfl⟩ := List.mem_map.1 hx
  exact hb j (by simpa using hj)

set_option maxHeartbeats 1000000 in
theorem checkShape_any (w : World) (name : ByteArray) (A : Option Addr) (len cap : Nat) (ss : List ByteArray) (hA : ShapeAt w [.string name, .slice A len cap] name A len cap ss) (hm : UMaps w) :
    Calls Tryd.prog 7 #[.agg #[.string name, .slice A len cap]] w fun e w' => e = .returned (.int .i64 (shapeF name ss)) ∧ Below w.heap.size w w' := by
  have hns := hA.wide
  have hlen : len ≤ 9223372036854775807 := by have := hA.le; have := hA.cap_; unfold maxLen at this; omega
  have HA := Lib.hid hA
  have HM := Lib.hid hm
  clear hA hm
  cases hfr : freeB name
  · have HF := Lib.hid (show shapeF name ss = 4 from by unfold shapeF; rw [if_pos hfr])
    go_enter Tryd.func7, Tryd.ntmps7
    go_wp2_with fail
    refine (bindable_any name hns _ (HM.out.below ((Below.refl _ _).alloc (Nat.le_refl _) _))).mono ?_
    rintro e w1 ⟨rfl, hb1⟩
    rw [hfr]
    have HB := Lib.hid (((Below.refl _ w).alloc (Nat.le_refl _) (.cells #[.string name, .slice A len cap] 24)).trans (hb1.mono (by simp)))
    clear hb1
    go_wp2_with fail
    go_ret
    exact ⟨ret_i HF.out.symm, HB.out⟩
  · have HFR := Lib.hid hfr
    by_cases h6 : 6 < len
    · have HF := Lib.hid (show shapeF name ss = 1 from by unfold shapeF; rw [if_neg (by rw [hfr]; simp), if_pos (by rw [HA.out.strs.size]; exact h6)])
      go_enter Tryd.func7, Tryd.ntmps7
      go_wp2_with fail
      refine (bindable_any name hns _ (HM.out.below ((Below.refl _ _).alloc (Nat.le_refl _) _))).mono ?_
      rintro e w1 ⟨rfl, hb1⟩
      rw [hfr]
      have c1 : w1.cell? ⟨w.heap.size, 1, none⟩ = some (.slice A len cap) := box_cell hb1 rfl
      have HB := Lib.hid (((Below.refl _ w).alloc (Nat.le_refl _) (.cells #[.string name, .slice A len cap] 24)).trans (hb1.mono (by simp)))
      clear hb1
      go_wp2_with fail
      go_ret
      exact ⟨ret_i HF.out.symm, HB.out⟩
    · go_enter Tryd.func7, Tryd.ntmps7
      go_wp2_with fail
      refine (bindable_any name hns _ (HM.out.below ((Below.refl _ _).alloc (Nat.le_refl _) _))).mono ?_
      rintro e w1 ⟨rfl, hb1⟩
      rw [hfr]
      have c1 : w1.cell? ⟨w.heap.size, 1, none⟩ = some (.slice A len cap) := box_cell hb1 rfl
      have hs1 : w.heap.size < w1.heap.size := Nat.lt_of_lt_of_le (by simp) hb1.size
      have HB := Lib.hid (((Below.refl _ w).alloc (Nat.le_refl _) (.cells #[.string name, .slice A len cap] 24)).trans (hb1.mono (by simp)))
      clear hb1
      clear hfr
      go_wp2_with fail
      go_loopg [16] len (fun g i wr => ∃ k : Nat, g = len - k ∧ k ≤ len ∧ i = .int .i64 k ∧ wr.cell? ⟨w.heap.size, 1, none⟩ = some (.slice A len cap) ∧ w.heap.size < wr.heap.size ∧ Below w.heap.size w wr ∧ ∀ j, j < k → fieldF ss j = 0)
      case atStart => exact ⟨0, by omega, by omega, rfl, c1, hs1, HB.out, fun j h => absurd h (by omega)⟩
      case round =>
        obtain ⟨k, hg, hk, rfl, hbox, hbs, hb, hall⟩ := hrel
        have HG := Lib.hid hg
        have HALL := Lib.hid hall
        have HBR := Lib.hid hb
        have hsz := hb.size
        clear hg hall hb
        by_cases hlt : k < len
        · obtain ⟨b, o, rfl, hbw, hrow⟩ := HA.out.strs.at_ (by omega)
          have hks : k < ss.length := by rw [HA.out.strs.size]; exact hlt
          have hc : wr.cell? ⟨b, o + k, none⟩ = some (.string ss[k]) := (HBR.out.cell (p := ⟨b, o + k, none⟩) hbw).trans (hrow k hks)
          have hcs : ss[k].size ≤ maxLen := HA.out.each _ (List.getElem_mem hks)
          have HGD := Lib.hid (show ss.getD k ByteArray.empty = ss[k] from by simp [hks])
          clear hrow
          cases hn : nameB ss[k].data.toList
          · have hN := nameCheck_any ss[k] hcs wr
            rw [hn] at hN
            have HN := Lib.hid hN
            have HK := Lib.hid (show fieldF ss k = 4 from by unfold fieldF; rw [HGD.out, if_pos hn])
            clear hN hn
            go_wp2_with fail
            refine HN.out.mono ?_
            rintro e w2 ⟨rfl, hb2⟩
            have HB2 := Lib.hid (HBR.out.trans (hb2.mono hsz))
            clear hb2
            go_wp2_with fail
            go_ret
            exact ⟨ret_i (shapeF_at HFR.out (by rw [HA.out.strs.size]; omega) hks HALL.out HK.out (by decide)).symm, HB2.out⟩
          · have hN := nameCheck_any ss[k] hcs wr
            rw [hn] at hN
            have HN := Lib.hid hN
            have HNN := Lib.hid hn
            clear hN hn
            go_wp2_with fail
            refine HN.out.mono ?_
            rintro e w2 ⟨rfl, hb2⟩
            have hbox2 : w2.cell? ⟨w.heap.size, 1, none⟩ = some (.slice (some ⟨b, o, none⟩) len cap) := (hb2.cell (p := ⟨w.heap.size, 1, none⟩) hbs).trans hbox
            have hbs2 : w.heap.size < w2.heap.size := Nat.lt_of_lt_of_le hbs hb2.size
            have HB2 := Lib.hid (HBR.out.trans (hb2.mono hsz))
            clear hb2
            have hkc : k ≤ cap := by have := HA.out.le; omega
            have hcap : cap ≤ 9223372036854775807 := by have := HA.out.cap_; unfold maxLen at this; omega
            have hst : StrsAt w2 (some ⟨b, o, none⟩) k (ss.take k) := (HA.out.strs.below HB2.out).take hk
            have HST := Lib.hid hst
            clear hst
            cases hin : inL (ss.take k) ss[k]
            · have HK := Lib.hid (show fieldF ss k = 0 from by unfold fieldF; rw [HGD.out, HNN.out, hin]; rfl)
              have HIN := Lib.hid hin
              clear hin
              go_wp2_with fail
              refine (contains_any ss[k] _ k cap (ss.take k) _ HA.out.cap_ hkc HST.out).mono ?_
              rintro e w3 ⟨rfl, rfl⟩
              rw [HIN.out]
              have hg := HG.out
              go_wp2_with fail
              go_roundg (len - (k + 1))
              case measure => omega
              case rel =>
                refine ⟨k + 1, rfl, by omega, by go_num, hbox2, hbs2, HB2.out, fun j hj => ?_⟩
                by_cases hjk : j = k
                · subst hjk; exact HK.out
                · exact HALL.out j (by omega)
            · have HK := Lib.hid (show fieldF ss k = 7 from by unfold fieldF; rw [HGD.out, HNN.out, hin]; rfl)
              have HIN := Lib.hid hin
              clear hin
              go_wp2_with fail
              refine (contains_any ss[k] _ k cap (ss.take k) _ HA.out.cap_ hkc HST.out).mono ?_
              rintro e w3 ⟨rfl, rfl⟩
              rw [HIN.out]
              go_wp2_with fail
              go_ret
              exact ⟨ret_i (shapeF_at HFR.out (by rw [HA.out.strs.size]; omega) hks HALL.out HK.out (by decide)).symm, HB2.out⟩
        · obtain rfl : k = len := by omega
          go_wp2_with fail
          go_ret
          exact ⟨ret_i (shapeF_ok HFR.out (by rw [HA.out.strs.size]; omega) (fun j hj => HALL.out j (by rw [← HA.out.strs.size]; exact hj))).symm, HBR.out⟩
theorem StrsAt.drewN {w : World} {A : Option Addr} {len : Nat} {ss : List ByteArray} (h : StrsAt w A len ss) (n : Nat) : StrsAt (w.drewN n) A len ss := h.below (below_drewN (Below.refl _ _) n)

set_option maxHeartbeats 1000000 in
theorem shapeFault_any (w : World) (name : ByteArray) (A : Option Addr) (len cap : Nat) (ss : List ByteArray) (hA : ShapeAt w [.string name, .slice A len cap] name A len cap ss) :
    Calls Tryd.prog 8 #[.agg #[.string name, .slice A len cap]] w fun e w' => e = .returned (.int .i64 (shapeF name ss)) ∧ Below w.heap.size w w' := by
  have hns := hA.wide
  have hlen : len ≤ 9223372036854775807 := by have := hA.le; have := hA.cap_; unfold maxLen at this; omega
  have HA := Lib.hid hA
  clear hA
  cases hfr : freeB name
  · have HF := Lib.hid (show shapeF name ss = 4 from by unfold shapeF; rw [if_pos hfr])
    go_enter Tryd.func8, Tryd.ntmps8
    go_wp2_with fail
    refine (freeName_any name hns _).mono ?_
    rintro e w1 ⟨rfl, hb1⟩
    rw [hfr]
    have HB := Lib.hid (((Below.refl _ w).alloc (Nat.le_refl _) (.cells #[.string name, .slice A len cap] 24)).trans (hb1.mono (by simp)))
    clear hb1
    go_wp2_with fail
    go_ret
    exact ⟨ret_i HF.out.symm, HB.out⟩
  · have HFR := Lib.hid hfr
    by_cases h6 : 6 < len
    · have HF := Lib.hid (show shapeF name ss = 1 from by unfold shapeF; rw [if_neg (by rw [hfr]; simp), if_pos (by rw [HA.out.strs.size]; exact h6)])
      go_enter Tryd.func8, Tryd.ntmps8
      go_wp2_with fail
      refine (freeName_any name hns _).mono ?_
      rintro e w1 ⟨rfl, hb1⟩
      rw [hfr]
      have c1 : w1.cell? ⟨w.heap.size, 1, none⟩ = some (.slice A len cap) := box_cell hb1 rfl
      have HB := Lib.hid (((Below.refl _ w).alloc (Nat.le_refl _) (.cells #[.string name, .slice A len cap] 24)).trans (hb1.mono (by simp)))
      clear hb1
      go_wp2_with fail
      go_ret
      exact ⟨ret_i HF.out.symm, HB.out⟩
    · go_enter Tryd.func8, Tryd.ntmps8
      go_wp2_with fail
      refine (freeName_any name hns _).mono ?_
      rintro e w1 ⟨rfl, hb1⟩
      rw [hfr]
      have c1 : w1.cell? ⟨w.heap.size, 1, none⟩ = some (.slice A len cap) := box_cell hb1 rfl
      have hs1 : w.heap.size < w1.heap.size := Nat.lt_of_lt_of_le (by simp) hb1.size
      have HB := Lib.hid (((Below.refl _ w).alloc (Nat.le_refl _) (.cells #[.string name, .slice A len cap] 24)).trans (hb1.mono (by simp)))
      clear hb1
      clear hfr
      go_wp2_with fail
      go_loopg [3] len (fun g i wr => ∃ k : Nat, g = len - k ∧ k ≤ len ∧ i = .int .i64 k ∧ wr.cell? ⟨w.heap.size, 1, none⟩ = some (.slice A len cap) ∧ w.heap.size < wr.heap.size ∧ Below w.heap.size w wr ∧ ∀ j, j < k → fieldF ss j = 0)
      case atStart => exact ⟨0, by omega, by omega, rfl, c1, hs1, HB.out, fun j h => absurd h (by omega)⟩
      case round =>
        obtain ⟨k, hg, hk, rfl, hbox, hbs, hb, hall⟩ := hrel
        have HG := Lib.hid hg
        have HALL := Lib.hid hall
        have HBR := Lib.hid hb
        have hsz := hb.size
        clear hg hall hb
        by_cases hlt : k < len
        · obtain ⟨b, o, rfl, hbw, hrow⟩ := HA.out.strs.at_ (by omega)
          have hks : k < ss.length := by rw [HA.out.strs.size]; exact hlt
          have hc : wr.cell? ⟨b, o + k, none⟩ = some (.string ss[k]) := (HBR.out.cell (p := ⟨b, o + k, none⟩) hbw).trans (hrow k hks)
          have hcs : ss[k].size ≤ maxLen := HA.out.each _ (List.getElem_mem hks)
          have HGD := Lib.hid (show ss.getD k ByteArray.empty = ss[k] from by simp [hks])
          clear hrow
          cases hn : nameB ss[k].data.toList
          · have HK := Lib.hid (show fieldF ss k = 4 from by unfold fieldF; rw [HGD.out, if_pos hn])
            have HNN := Lib.hid hn
            clear hn
            go_wp2_with fail
            refine (nameMay_any ss[k] hcs wr).mono ?_
            rintro e w2 ⟨rfl, nd, hw2⟩
            rw [HNN.out]
            have hb2 : Below wr.heap.size wr w2 := by rw [hw2]; exact below_drewN (Below.refl _ _) nd
            clear hw2
            have HB2 := Lib.hid (HBR.out.trans (hb2.mono hsz))
            clear hb2
            go_wp2_with fail
            go_ret
            exact ⟨ret_i (shapeF_at HFR.out (by rw [HA.out.strs.size]; omega) hks HALL.out HK.out (by decide)).symm, HB2.out⟩
          · have HNN := Lib.hid hn
            clear hn
            go_wp2_with fail
            refine (nameMay_any ss[k] hcs wr).mono ?_
            rintro e w2 ⟨rfl, nd, hw2⟩
            rw [HNN.out]
            have hb2 : Below wr.heap.size wr w2 := by rw [hw2]; exact below_drewN (Below.refl _ _) nd
            clear hw2
            have hc2 : w2.cell? ⟨b, o + k, none⟩ = some (.string ss[k]) := (hb2.cell (p := ⟨b, o + k, none⟩) (show b < wr.heap.size by omega)).trans hc
            have hbox2 : w2.cell? ⟨w.heap.size, 1, none⟩ = some (.slice (some ⟨b, o, none⟩) len cap) := (hb2.cell (p := ⟨w.heap.size, 1, none⟩) hbs).trans hbox
            have hbs2 : w.heap.size < w2.heap.size := Nat.lt_of_lt_of_le hbs hb2.size
            have HB2 := Lib.hid (HBR.out.trans (hb2.mono hsz))
            clear hb2
            have hkc : k ≤ cap := by have := HA.out.le; omega
            have hcap : cap ≤ 9223372036854775807 := by have := HA.out.cap_; unfold maxLen at this; omega
            have hst : StrsAt w2 (some ⟨b, o, none⟩) k (ss.take k) := (HA.out.strs.below HB2.out).take hk
            have HST := Lib.hid hst
            clear hst
            cases hin : inL (ss.take k) ss[k]
            · have HK := Lib.hid (show fieldF ss k = 0 from by unfold fieldF; rw [HGD.out, HNN.out, hin]; rfl)
              have HIN := Lib.hid hin
              clear hin
              have HCA := HA.out.cap_
              have hki : (k : Int) < (len : Int) := by omega
              have hkci : (k : Int) ≤ (cap : Int) := by omega
              go_wp2_with fail
              go_quiet ((go_at_call 20; exact Calls.quiet_of_same ((isIn_any ss[k] _ k cap (ss.take k) _ HCA hkc (StrsAt.drewN HST.out _)).mono (fun _ _ h => ⟨h.1, h.2.symm⟩))))
              rw [HIN.out]
              have hg := HG.out
              go_wp2_with fail
              go_roundg (len - (k + 1))
              case measure => omega
              case rel =>
                refine ⟨k + 1, rfl, by omega, by go_num, hbox2, hbs2, below_drewN HB2.out _, fun j hj => ?_⟩
                by_cases hjk : j = k
                · subst hjk; exact HK.out
                · exact HALL.out j (by omega)
            · have HK := Lib.hid (show fieldF ss k = 7 from by unfold fieldF; rw [HGD.out, HNN.out, hin]; rfl)
              have HIN := Lib.hid hin
              clear hin
              have HCA := HA.out.cap_
              have hki : (k : Int) < (len : Int) := by omega
              have hkci : (k : Int) ≤ (cap : Int) := by omega
              go_wp2_with fail
              go_quiet ((go_at_call 20; exact Calls.quiet_of_same ((isIn_any ss[k] _ k cap (ss.take k) _ HCA hkc (StrsAt.drewN HST.out _)).mono (fun _ _ h => ⟨h.1, h.2.symm⟩))))
              rw [HIN.out]
              go_wp2_with fail
              go_ret
              exact ⟨ret_i (shapeF_at HFR.out (by rw [HA.out.strs.size]; omega) hks HALL.out HK.out (by decide)).symm, below_drewN HB2.out _⟩
        · obtain rfl : k = len := by omega
          go_wp2_with fail
          go_ret
          exact ⟨ret_i (shapeF_ok HFR.out (by rw [HA.out.strs.size]; omega) (fun j hj => HALL.out j (by rw [← HA.out.strs.size]; exact hj))).symm, HBR.out⟩
end Go.Proofs.YtlgnaopaeapbfaaDoor
