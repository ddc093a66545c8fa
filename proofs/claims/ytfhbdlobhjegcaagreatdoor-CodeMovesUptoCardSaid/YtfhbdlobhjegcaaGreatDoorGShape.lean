import Derived.Test.YtfhbdlobhjegcaaGreatDoorGBase
import Derived.Deep.LoopGhost
import Derived.Deep.QuietTactic
import Derived.BigQuiet
namespace Go.Proofs.YtfhbdlobhjegcaaGreatDoor
open Go.RowKit Go.ChangeShapes Go.WideShapes Go.Deep Go.ChangeAt
set_option linter.unusedVariables false
set_option maxRecDepth 20000
structure UMaps (w : World) : Prop where
 kw : KwAt w
 ar : ArAt 1 w
theorem UMaps.below {w w' : World} (h : UMaps w) (hb : Below w.heap.size w w') : UMaps w' := ⟨h.kw.below hb, h.ar.below hb⟩
def resB (s : ByteArray) : Bool := isKw s.toList || decide (0 <= primN s.toList)
set_option maxHeartbeats 400000 in
theorem reserved_any (s : ByteArray) (hs : s.size <= maxLen) (w : World) (hm : UMaps w) :
  Calls Tryz.prog 116 #[.string s] w fun e w' => e = .returned (.bool (resB s)) /\ w = w' := by
 obtain ⟨bm, hc, _, _, hl⟩ := hm.kw
 obtain ⟨bm2, hc2, _, _, hl2⟩ := hm.ar
 have h1 := hl w rfl s hs
 have h2 := hl2 w rfl s hs
 have HR := Lib.hid (show resB s = (isKw s.toList || decide (0 <= primN s.toList)) from rfl)
 clear hl hl2 hm
 generalize (if primN s.toList < 0 then 0 else primN s.toList) = nn at h2
 generalize hp : decide (0 <= primN s.toList) = pr at h2
 have HP := Lib.hid hp
 clear hp
 cases hk : isKw s.toList
 all_goals
  rw [hk] at h1
  have HK := Lib.hid hk
  clear hk
  go_enter Tryz.func116, Tryz.ntmps116
  go_wp2_with fail
  go_ret
  exact ⟨zj (by rw [HR.out, HK.out, HP.out]; rfl), rfl⟩
def natD (s : List UInt8) : DataW Unit := .agg [.lit (.int .i64 3), .lit (.int .i64 0), .lit (.string s), .nil]
set_option maxHeartbeats 400000 in
theorem nameCheck_any (s : ByteArray) (hs : s.size <= maxLen) (w : World) :
  Calls Tryz.prog 62 #[.agg #[.int .i64 3, .int .i64 0, .string s, .slice none 0 0]] w fun e w' => e = .returned (.int .i64 (if nameB s.data.toList then 0 else 4)) /\ Below w.heap.size w w' := by
 have h := readCheck_any (H := Unit) (enc := fun _ => ()) w [.int .i64 3, .int .i64 0, .string s, .slice none 0 0] (natD s.data.toList) (Rd.ofName _ w s hs)
 rw [natD, fault_name] at h
 exact h
set_option maxHeartbeats 400000 in
theorem bindable_any (s : ByteArray) (hs : s.size <= maxLen) (w : World) (hm : UMaps w) :
  Calls Tryz.prog 113 #[.string s] w fun e w' => e = .returned (.bool (freeB s)) /\ Below w.heap.size w w' := by
 have HM := Lib.hid hm
 clear hm
 have HF := Lib.hid (show freeB s = (nameB s.data.toList && !resB s) from by
  unfold freeB resB
  have : decide (primN s.toList < 0) = !decide (0 <= primN s.toList) := by
   rw [Bool.eq_iff_iff]; simp
  rw [this]
  cases nameB s.data.toList <;> cases isKw s.toList <;> simp)
 cases hn : nameB s.data.toList
 all_goals
  have h := nameCheck_any s hs w
  rw [hn] at h
  have HC := Lib.hid h
  have HN := Lib.hid hn
  clear h hn
  go_enter Tryz.func113, Tryz.ntmps113
  go_wp2_with fail
  refine HC.out.mono ?_
  rintro e w1 ⟨rfl, hb1⟩
  have HB1 := Lib.hid hb1
  clear hb1
 ·
  go_wp2_with fail
  go_ret
  exact ⟨zj (by rw [HF.out, HN.out]; rfl), HB1.out⟩
 go_wp2_with fail
 refine (reserved_any s hs _ (HM.out.below HB1.out)).mono ?_
 rintro e w2 ⟨rfl, rfl⟩
 go_wp2_with fail
 go_ret
 exact ⟨zj (by rw [HF.out, HN.out]; rfl), HB1.out⟩
theorem readableShape : Tryz.prog.readableRec 74 = true := by kernel_rfl
theorem rowShape : 74 < Tryz.prog.types.size := of_decide_eq_true (by kernel_rfl)
theorem cellsShape : Tryz.prog.cellsOf 74 = 2 := by kernel_rfl
theorem cellsSlString : Tryz.prog.cellsOf 25 = 1 := by kernel_rfl
section
variable {H : Type} {enc : TypeId × Value -> H}
theorem slAt_strs {w : World} {A : Option Addr} {len cap : Nat} {it : DataW H} (h : SlAt enc w 9 1 A len cap it) : ∃ ss : List ByteArray, zt w A len ss /\ ∀ s ∈ ss, s.size <= maxLen := by
 rcases Nat.eq_zero_or_pos len with h0 | h0
 ·
  subst h0
  exact ⟨[], ⟨rfl, fun h => absurd h (by omega)⟩, by simp⟩
 ·
  obtain ⟨b, o, rfl, hb, hrow⟩ := h.at_ h0
  have hx : ∀ i : Fin len, ∃ s : ByteArray, w.cell? ⟨b, o + i.1, none⟩ = some (.string s) /\ s.size <= maxLen := by
   intro i
   obtain ⟨cs', hl, hr, hrd⟩ := hrow i.1 (by rw [h.size]; exact i.2)
   obtain ⟨s, rfl, _, hs⟩ := hrd.string Tryz.underlying9
   have := hr 0 (by simp)
   simp at this
   exact ⟨s, this, hs⟩
  obtain ⟨f, hf⟩ := Classical.axiomOfChoice hx
  refine ⟨List.ofFn f, ⟨by simp, fun _ => ⟨b, o, rfl, hb, fun i hi => ?_⟩⟩, ?_⟩
  ·
   have hi' : i < len := by simpa using hi
   rw [List.getElem_ofFn]
   exact (hf ⟨i, hi'⟩).1
  intro s hs
  obtain ⟨i, rfl⟩ := List.mem_ofFn.1 hs
  exact (hf i).2
structure ShapeAt (w : World) (cs : List Value) (name : ByteArray) (A : Option Addr) (len cap : Nat) (ss : List ByteArray) : Prop where
 cells : cs = [.string name, .slice A len cap]
 wide : name.size <= maxLen
 strs : zt w A len ss
 each : ∀ s ∈ ss, s.size <= maxLen
 le : len <= cap
 cap_ : cap <= maxLen
theorem ShapeAt.below {w w' : World} {cs : List Value} {name : ByteArray} {A : Option Addr} {len cap : Nat} {ss : List ByteArray} (h : ShapeAt w cs name A len cap ss) (hb : Below w.heap.size w w') : ShapeAt w' cs name A len cap ss :=
 ⟨h.cells, h.wide, h.strs.below hb, h.each, h.le, h.cap_⟩
theorem Rd.shape {w : World} {cs : List Value} {d : DataW H} (h : Rd enc w 74 cs d) : ∃ name A len cap ss, ShapeAt w cs name A len cap ss := by
 obtain ⟨f, ps, h⟩ := h
 obtain ⟨xs, m, _, hx, hl, hlen, hf⟩ := DataW.trod_struct Tryz.underlying74 h
 rw [cellsShape] at hl
 match cs, hl, xs, hlen with
 | [c0, c1], _, [y0, y1], _ =>
  have h0 : Rd enc w 9 [c0] y0.1 := ⟨m, y0.2, by simpa [cellsString] using hf 0 _ rfl⟩
  have h1 : Rd enc w 25 [c1] y1.1 := ⟨m, y1.2, by simpa [cellsSlString] using hf 1 _ rfl⟩
  obtain ⟨s, e2, d2, s1⟩ := h0.string Tryz.underlying9
  obtain ⟨A, len, cap, e3, hs⟩ := h1.slAt Tryz.underlying25 cellsString (by decide)
  simp only [List.cons.injEq, and_true] at e2 e3
  subst e2 e3
  obtain ⟨ss, hss, hev⟩ := slAt_strs hs
  exact ⟨s, A, len, cap, ss, rfl, s1, hss, hev, hs.le, hs.wide⟩
end
theorem zt.take {w : World} {A : Option Addr} {len : Nat} {ss : List ByteArray} (h : zt w A len ss) {k : Nat} (hk : k <= len) : zt w A k (ss.take k) :=
 ⟨by rw [List.length_take, h.size]; omega, fun h0 => by
  obtain ⟨b, o, rfl, hb, hc⟩ := h.at_ (by omega)
  exact ⟨b, o, rfl, hb, fun i hi => by rw [List.getElem_take]; exact hc i (by rw [List.length_take] at hi; omega)⟩⟩
def fieldF (ss : List ByteArray) (i : Nat) : Int := if nameB (ss.getD i ByteArray.empty).data.toList = false then 4 else if inL (ss.take i) (ss.getD i ByteArray.empty) = true then 7 else 0
def shapeF (name : ByteArray) (ss : List ByteArray) : Int :=
 if freeB name = false then 4 else if 6 < ss.length then 1 else firstErr ((List.range ss.length).map (fieldF ss))
theorem shapeF_at {name : ByteArray} {ss : List ByteArray} (hf : freeB name = true) (hl : ss.length <= 6) {k : Nat} {e : Int} (hk : k < ss.length) (hb : ∀ j, j < k -> fieldF ss j = 0) (he : fieldF ss k = e) (hne : e ≠ 0) : shapeF name ss = e := by
 unfold shapeF
 rw [if_neg (by rw [hf]; simp), if_neg (by omega), firstErr_at (i := k) (by simpa using hk) (fun j hj => by simpa using hb j hj) (by simpa [he] using hne)]
 simpa using he
theorem shapeF_ok {name : ByteArray} {ss : List ByteArray} (hf : freeB name = true) (hl : ss.length <= 6) (hb : ∀ j, j < ss.length -> fieldF ss j = 0) : shapeF name ss = 0 := by
 unfold shapeF
 rw [if_neg (by rw [hf]; simp), if_neg (by omega), firstErr_zero]
 intro x hx
 obtain ⟨j, hj, rfl⟩ := List.mem_map.1 hx
 exact hb j (by simpa using hj)
set_option maxHeartbeats 1000000 in
theorem checkShape_any (w : World) (name : ByteArray) (A : Option Addr) (len cap : Nat) (ss : List ByteArray) (hA : ShapeAt w [.string name, .slice A len cap] name A len cap ss) (hm : UMaps w) :
  Calls Tryz.prog 108 #[.agg #[.string name, .slice A len cap]] w fun e w' => e = .returned (.int .i64 (shapeF name ss)) /\ Below w.heap.size w w' := by
 have hns := hA.wide
 have hlen : len <= 9223372036854775807 := by have := hA.le; have := hA.cap_; unfold maxLen at this; omega
 have HA := Lib.hid hA
 have HM := Lib.hid hm
 clear hA hm
 cases hfr : freeB name
 ·
  have HF := Lib.hid (show shapeF name ss = 4 from by unfold shapeF; rw [if_pos hfr])
  go_enter Tryz.func108, Tryz.ntmps108
  go_wp2_with fail
  refine (bindable_any name hns _ (HM.out.below ((Below.refl _ _).alloc (Nat.le_refl _) _))).mono ?_
  rintro e w1 ⟨rfl, hb1⟩
  rw [hfr]
  have HB := Lib.hid (((Below.refl _ w).alloc (Nat.le_refl _) (.cells #[.string name, .slice A len cap] 74)).trans (hb1.mono (by simp)))
  clear hb1
  go_wp2_with fail
  go_ret
  exact ⟨ret_i HF.out.symm, HB.out⟩
 have HFR := Lib.hid hfr
 by_cases h6 : 6 < len
 ·
  have HF := Lib.hid (show shapeF name ss = 1 from by unfold shapeF; rw [if_neg (by rw [hfr]; simp), if_pos (by rw [HA.out.strs.size]; exact h6)])
  go_enter Tryz.func108, Tryz.ntmps108
  go_wp2_with fail
  refine (bindable_any name hns _ (HM.out.below ((Below.refl _ _).alloc (Nat.le_refl _) _))).mono ?_
  rintro e w1 ⟨rfl, hb1⟩
  rw [hfr]
  have c1 : w1.cell? ⟨w.heap.size, 1, none⟩ = some (.slice A len cap) := box_cell hb1 rfl
  have HB := Lib.hid (((Below.refl _ w).alloc (Nat.le_refl _) (.cells #[.string name, .slice A len cap] 74)).trans (hb1.mono (by simp)))
  clear hb1
  go_wp2_with fail
  go_ret
  exact ⟨ret_i HF.out.symm, HB.out⟩
 go_enter Tryz.func108, Tryz.ntmps108
 go_wp2_with fail
 refine (bindable_any name hns _ (HM.out.below ((Below.refl _ _).alloc (Nat.le_refl _) _))).mono ?_
 rintro e w1 ⟨rfl, hb1⟩
 rw [hfr]
 have c1 : w1.cell? ⟨w.heap.size, 1, none⟩ = some (.slice A len cap) := box_cell hb1 rfl
 have hs1 : w.heap.size < w1.heap.size := Nat.lt_of_lt_of_le (by simp) hb1.size
 have HB := Lib.hid (((Below.refl _ w).alloc (Nat.le_refl _) (.cells #[.string name, .slice A len cap] 74)).trans (hb1.mono (by simp)))
 clear hb1
 clear hfr
 go_wp2_with fail
 go_loopg [16] len (fun g i wr => ∃ k : Nat, g = len - k /\ k <= len /\ i = .int .i64 k /\ wr.cell? ⟨w.heap.size, 1, none⟩ = some (.slice A len cap) /\ w.heap.size < wr.heap.size /\ Below w.heap.size w wr /\ ∀ j, j < k -> fieldF ss j = 0)
 case atStart => exact ⟨0, by omega, by omega, rfl, c1, hs1, HB.out, fun j h => absurd h (by omega)⟩
 case round =>
  obtain ⟨k, hg, hk, rfl, hbox, hbs, hb, hall⟩ := hrel
  have HG := Lib.hid hg
  have HALL := Lib.hid hall
  have HBR := Lib.hid hb
  have hsz := hb.size
  clear hg hall hb
  by_cases hlt : k < len
  ·
   obtain ⟨b, o, rfl, hbw, hrow⟩ := HA.out.strs.at_ (by omega)
   have hks : k < ss.length := by rw [HA.out.strs.size]; exact hlt
   have hc : wr.cell? ⟨b, o + k, none⟩ = some (.string ss[k]) := (HBR.out.cell (p := ⟨b, o + k, none⟩) hbw).trans (hrow k hks)
   have hcs : ss[k].size <= maxLen := HA.out.each _ (List.getElem_mem hks)
   have HGD := Lib.hid (show ss.getD k ByteArray.empty = ss[k] from by simp [hks])
   clear hrow
   cases hn : nameB ss[k].data.toList
   ·
    have hN := nameCheck_any ss[k] hcs wr
    rw [hn] at hN
    have HN := Lib.hid hN
    have HK := Lib.hid (show fieldF ss k = 4 from by unfold fieldF; rw [HGD.out, if_pos hn])
    clear hN hn
    go_wp2_with fail
    refine HN.out.mono ?_
    rintro e w2 ⟨rfl, hb2⟩
    have HB2 := Lib.hid (HBR.out.trans (hb2.mono hsz))
    clear hb2
    go_wp2_with fail
    go_ret
    exact ⟨ret_i (shapeF_at HFR.out (by rw [HA.out.strs.size]; omega) hks HALL.out HK.out (by decide)).symm, HB2.out⟩
   have hN := nameCheck_any ss[k] hcs wr
   rw [hn] at hN
   have HN := Lib.hid hN
   have HNN := Lib.hid hn
   clear hN hn
   go_wp2_with fail
   refine HN.out.mono ?_
   rintro e w2 ⟨rfl, hb2⟩
   have hbox2 : w2.cell? ⟨w.heap.size, 1, none⟩ = some (.slice (some ⟨b, o, none⟩) len cap) := (hb2.cell (p := ⟨w.heap.size, 1, none⟩) hbs).trans hbox
   have hbs2 : w.heap.size < w2.heap.size := Nat.lt_of_lt_of_le hbs hb2.size
   have HB2 := Lib.hid (HBR.out.trans (hb2.mono hsz))
   clear hb2
   have hkc : k <= cap := by have := HA.out.le; omega
   have hcap : cap <= 9223372036854775807 := by have := HA.out.cap_; unfold maxLen at this; omega
   have hst : zt w2 (some ⟨b, o, none⟩) k (ss.take k) := (HA.out.strs.below HB2.out).take hk
   have HST := Lib.hid hst
   clear hst
   cases hin : inL (ss.take k) ss[k]
   ·
    have HK := Lib.hid (show fieldF ss k = 0 from by unfold fieldF; rw [HGD.out, HNN.out, hin]; rfl)
    have HIN := Lib.hid hin
    clear hin
    go_wp2_with fail
    refine (contains_any ss[k] _ k cap (ss.take k) _ HA.out.cap_ hkc HST.out).mono ?_
    rintro e w3 ⟨rfl, rfl⟩
    rw [HIN.out]
    have hg := HG.out
    go_wp2_with fail
    go_roundg (len - (k + 1))
    case measure => omega
    case rel =>
     refine ⟨k + 1, rfl, by omega, by go_num, hbox2, hbs2, HB2.out, fun j hj => ?_⟩
     by_cases hjk : j = k
     ·
      subst hjk; exact HK.out
     exact HALL.out j (by omega)
   have HK := Lib.hid (show fieldF ss k = 7 from by unfold fieldF; rw [HGD.out, HNN.out, hin]; rfl)
   have HIN := Lib.hid hin
   clear hin
   go_wp2_with fail
   refine (contains_any ss[k] _ k cap (ss.take k) _ HA.out.cap_ hkc HST.out).mono ?_
   rintro e w3 ⟨rfl, rfl⟩
   rw [HIN.out]
   go_wp2_with fail
   go_ret
   exact ⟨ret_i (shapeF_at HFR.out (by rw [HA.out.strs.size]; omega) hks HALL.out HK.out (by decide)).symm, HB2.out⟩
  obtain rfl : k = len := by omega
  go_wp2_with fail
  go_ret
  exact ⟨ret_i (shapeF_ok HFR.out (by rw [HA.out.strs.size]; omega) (fun j hj => HALL.out j (by rw [<- HA.out.strs.size]; exact hj))).symm, HBR.out⟩
theorem zt.drewN {w : World} {A : Option Addr} {len : Nat} {ss : List ByteArray} (h : zt w A len ss) (n : Nat) : zt (w.drewN n) A len ss := h.below (below_drewN (Below.refl _ _) n)
set_option maxHeartbeats 1000000 in
theorem shapeFault_any (w : World) (name : ByteArray) (A : Option Addr) (len cap : Nat) (ss : List ByteArray) (hA : ShapeAt w [.string name, .slice A len cap] name A len cap ss) :
  Calls Tryz.prog 75 #[.agg #[.string name, .slice A len cap]] w fun e w' => e = .returned (.int .i64 (shapeF name ss)) /\ Below w.heap.size w w' := by
 have hns := hA.wide
 have hlen : len <= 9223372036854775807 := by have := hA.le; have := hA.cap_; unfold maxLen at this; omega
 have HA := Lib.hid hA
 clear hA
 cases hfr : freeB name
 ·
  have HF := Lib.hid (show shapeF name ss = 4 from by unfold shapeF; rw [if_pos hfr])
  go_enter Tryz.func75, Tryz.ntmps75
  go_wp2_with fail
  refine (freeName_any name hns _).mono ?_
  rintro e w1 ⟨rfl, hb1⟩
  rw [hfr]
  have HB := Lib.hid (((Below.refl _ w).alloc (Nat.le_refl _) (.cells #[.string name, .slice A len cap] 74)).trans (hb1.mono (by simp)))
  clear hb1
  go_wp2_with fail
  go_ret
  exact ⟨ret_i HF.out.symm, HB.out⟩
 have HFR := Lib.hid hfr
 by_cases h6 : 6 < len
 ·
  have HF := Lib.hid (show shapeF name ss = 1 from by unfold shapeF; rw [if_neg (by rw [hfr]; simp), if_pos (by rw [HA.out.strs.size]; exact h6)])
  go_enter Tryz.func75, Tryz.ntmps75
  go_wp2_with fail
  refine (freeName_any name hns _).mono ?_
  rintro e w1 ⟨rfl, hb1⟩
  rw [hfr]
  have c1 : w1.cell? ⟨w.heap.size, 1, none⟩ = some (.slice A len cap) := box_cell hb1 rfl
  have HB := Lib.hid (((Below.refl _ w).alloc (Nat.le_refl _) (.cells #[.string name, .slice A len cap] 74)).trans (hb1.mono (by simp)))
  clear hb1
  go_wp2_with fail
  go_ret
  exact ⟨ret_i HF.out.symm, HB.out⟩
 go_enter Tryz.func75, Tryz.ntmps75
 go_wp2_with fail
 refine (freeName_any name hns _).mono ?_
 rintro e w1 ⟨rfl, hb1⟩
 rw [hfr]
 have c1 : w1.cell? ⟨w.heap.size, 1, none⟩ = some (.slice A len cap) := box_cell hb1 rfl
 have hs1 : w.heap.size < w1.heap.size := Nat.lt_of_lt_of_le (by simp) hb1.size
 have HB := Lib.hid (((Below.refl _ w).alloc (Nat.le_refl _) (.cells #[.string name, .slice A len cap] 74)).trans (hb1.mono (by simp)))
 clear hb1
 clear hfr
 go_wp2_with fail
 go_loopg [3] len (fun g i wr => ∃ k : Nat, g = len - k /\ k <= len /\ i = .int .i64 k /\ wr.cell? ⟨w.heap.size, 1, none⟩ = some (.slice A len cap) /\ w.heap.size < wr.heap.size /\ Below w.heap.size w wr /\ ∀ j, j < k -> fieldF ss j = 0)
 case atStart => exact ⟨0, by omega, by omega, rfl, c1, hs1, HB.out, fun j h => absurd h (by omega)⟩
 case round =>
  obtain ⟨k, hg, hk, rfl, hbox, hbs, hb, hall⟩ := hrel
  have HG := Lib.hid hg
  have HALL := Lib.hid hall
  have HBR := Lib.hid hb
  have hsz := hb.size
  clear hg hall hb
  by_cases hlt : k < len
  ·
   obtain ⟨b, o, rfl, hbw, hrow⟩ := HA.out.strs.at_ (by omega)
   have hks : k < ss.length := by rw [HA.out.strs.size]; exact hlt
   have hc : wr.cell? ⟨b, o + k, none⟩ = some (.string ss[k]) := (HBR.out.cell (p := ⟨b, o + k, none⟩) hbw).trans (hrow k hks)
   have hcs : ss[k].size <= maxLen := HA.out.each _ (List.getElem_mem hks)
   have HGD := Lib.hid (show ss.getD k ByteArray.empty = ss[k] from by simp [hks])
   clear hrow
   cases hn : nameB ss[k].data.toList
   ·
    have HK := Lib.hid (show fieldF ss k = 4 from by unfold fieldF; rw [HGD.out, if_pos hn])
    have HNN := Lib.hid hn
    clear hn
    go_wp2_with fail
    refine (nameMay_any ss[k] hcs wr).mono ?_
    rintro e w2 ⟨rfl, nd, hw2⟩
    rw [HNN.out]
    have hb2 : Below wr.heap.size wr w2 := by rw [hw2]; exact below_drewN (Below.refl _ _) nd
    clear hw2
    have HB2 := Lib.hid (HBR.out.trans (hb2.mono hsz))
    clear hb2
    go_wp2_with fail
    go_ret
    exact ⟨ret_i (shapeF_at HFR.out (by rw [HA.out.strs.size]; omega) hks HALL.out HK.out (by decide)).symm, HB2.out⟩
   have HNN := Lib.hid hn
   clear hn
   go_wp2_with fail
   refine (nameMay_any ss[k] hcs wr).mono ?_
   rintro e w2 ⟨rfl, nd, hw2⟩
   rw [HNN.out]
   have hb2 : Below wr.heap.size wr w2 := by rw [hw2]; exact below_drewN (Below.refl _ _) nd
   clear hw2
   have hc2 : w2.cell? ⟨b, o + k, none⟩ = some (.string ss[k]) := (hb2.cell (p := ⟨b, o + k, none⟩) (show b < wr.heap.size by omega)).trans hc
   have hbox2 : w2.cell? ⟨w.heap.size, 1, none⟩ = some (.slice (some ⟨b, o, none⟩) len cap) := (hb2.cell (p := ⟨w.heap.size, 1, none⟩) hbs).trans hbox
   have hbs2 : w.heap.size < w2.heap.size := Nat.lt_of_lt_of_le hbs hb2.size
   have HB2 := Lib.hid (HBR.out.trans (hb2.mono hsz))
   clear hb2
   have hkc : k <= cap := by have := HA.out.le; omega
   have hcap : cap <= 9223372036854775807 := by have := HA.out.cap_; unfold maxLen at this; omega
   have hst : zt w2 (some ⟨b, o, none⟩) k (ss.take k) := (HA.out.strs.below HB2.out).take hk
   have HST := Lib.hid hst
   clear hst
   cases hin : inL (ss.take k) ss[k]
   ·
    have HK := Lib.hid (show fieldF ss k = 0 from by unfold fieldF; rw [HGD.out, HNN.out, hin]; rfl)
    have HIN := Lib.hid hin
    clear hin
    have HCA := HA.out.cap_
    have hki : (k : Int) < (len : Int) := by omega
    have hkci : (k : Int) <= (cap : Int) := by omega
    go_wp2_with fail
    go_quiet ((go_at_call 35; exact Calls.quiet_of_same ((isIn_any ss[k] _ k cap (ss.take k) _ HCA hkc (zt.drewN HST.out _)).mono (fun _ _ h => ⟨h.1, h.2.symm⟩))))
    rw [HIN.out]
    have hg := HG.out
    go_wp2_with fail
    go_roundg (len - (k + 1))
    case measure => omega
    case rel =>
     refine ⟨k + 1, rfl, by omega, by go_num, hbox2, hbs2, below_drewN HB2.out _, fun j hj => ?_⟩
     by_cases hjk : j = k
     ·
      subst hjk; exact HK.out
     exact HALL.out j (by omega)
   have HK := Lib.hid (show fieldF ss k = 7 from by unfold fieldF; rw [HGD.out, HNN.out, hin]; rfl)
   have HIN := Lib.hid hin
   clear hin
   have HCA := HA.out.cap_
   have hki : (k : Int) < (len : Int) := by omega
   have hkci : (k : Int) <= (cap : Int) := by omega
   go_wp2_with fail
   go_quiet ((go_at_call 35; exact Calls.quiet_of_same ((isIn_any ss[k] _ k cap (ss.take k) _ HCA hkc (zt.drewN HST.out _)).mono (fun _ _ h => ⟨h.1, h.2.symm⟩))))
   rw [HIN.out]
   go_wp2_with fail
   go_ret
   exact ⟨ret_i (shapeF_at HFR.out (by rw [HA.out.strs.size]; omega) hks HALL.out HK.out (by decide)).symm, below_drewN HB2.out _⟩
  obtain rfl : k = len := by omega
  go_wp2_with fail
  go_ret
  exact ⟨ret_i (shapeF_ok HFR.out (by rw [HA.out.strs.size]; omega) (fun j hj => HALL.out j (by rw [<- HA.out.strs.size]; exact hj))).symm, HBR.out⟩
/- Contract of grafteryref.texts: lists of texts, one behind the other, in new memory. -/
open Go.RowKit Go.ChangeShapes Go.WideShapes Go.Deep
theorem infoString : (Tryz.prog.info? 9).map (fun i => (i.zero, i.size, i.bytes)) = some (some (.string ByteArray.empty), 1, 16) := by kernel_rfl
theorem strsAt_owned {w : World} {base e : Nat} {v : Value} {n : Nat} {ss : List ByteArray} (h : w.ownsRow base e 1 v n (ss.map Value.string)) :
  ∃ A cap, v = .slice A n cap /\ zt w A n ss /\ n <= cap /\ cap <= maxLen := by
 have hl : ss.length = n := by have := h.1; simpa using this
 rcases h.2 with ⟨rfl, hx⟩ | ⟨g, cap, cur, rfl, hg, hh, hr⟩
 ·
  subst hx
  have hn : ss = [] := List.length_eq_zero_iff.1 hl
  subst hn
  exact ⟨none, 0, rfl, ⟨rfl, fun h => absurd h (by omega)⟩, by omega, by unfold maxLen; omega⟩
 ·
  refine ⟨some ⟨g, 0, none⟩, cap, rfl, ⟨hl, fun _ => ⟨g, 0, rfl, ?_, fun i hi => ?_⟩⟩, ?_, ?_⟩
  ·
   exact (Array.getElem?_eq_some_iff.1 hh).1
  ·
   have := h.cellAt i (by omega)
   rw [Nat.zero_add, this]
   simp [hi]
  ·
   exact hr.1
  exact hr.2.1
theorem zq {w : World} {base : Nat} {e : TypeId} {size : Nat} {v : Value} {n : Nat} {xs : List Value} (h : w.ownsRow base e size v n xs) : ∀ k, v.ownBlock = some k -> base <= k := by
 intro k hk
 rcases h.2 with ⟨rfl, _⟩ | ⟨g, cap, cur, rfl, hg, _⟩
 ·
  cases hk
 cases hk; exact hg
structure RowsAt (w : World) (A : Option Addr) (len : Nat) (R : List (List ByteArray)) : Prop where
 size : R.length = len
 at_ : 0 < len -> ∃ b o, A = some ⟨b, o, none⟩ /\ b < w.heap.size /\ ∀ i, (h : i < R.length) -> ∃ A' c', w.cell? ⟨b, o + i, none⟩ = some (.slice A' R[i].length c') /\ R[i].length <= c' /\ c' <= maxLen /\ zt w A' R[i].length R[i]
set_option maxHeartbeats 1000000 in
theorem texts_any (A : Option Addr) (len cap : Nat) (R : List (List ByteArray)) (w : World) (hcap : cap <= maxLen) (hl : len <= cap) (hR : RowsAt w A len R) (hsz : R.flatten.length <= 1099511627776) :
  Calls Tryz.prog 38 #[.slice A len cap] w fun e w' => ∃ v, e = .returned v /\ w'.ownsRow w.heap.size 9 1 v R.flatten.length (R.flatten.map Value.string) /\ Below w.heap.size w w' := by
 have hlen : len <= 9223372036854775807 := by unfold maxLen at hcap; omega
 obtain ⟨i0, hi, hz0, hz1, hz2⟩ := info_parts infoString
 have HR := Lib.hid hR
 clear hR
 go_enter Tryz.func38, Tryz.ntmps38
 go_wp2_with fail
 go_loopg [3, 4] len (fun g v i wr => ∃ k : Nat, g = len - k /\ k <= len /\ i = .int .i64 k /\ wr.ownsRow w.heap.size 9 1 v (R.take k).flatten.length ((R.take k).flatten.map Value.string) /\ Below w.heap.size w wr)
 case atStart => exact ⟨0, by omega, by omega, rfl, by simpa using World.ownsRow_nil _ _ _ _, Below.refl _ _⟩
 obtain ⟨k, hg, hk, rfl, hown, hb⟩ := hrel
 have HG := Lib.hid hg
 have HO := Lib.hid hown
 have HB := Lib.hid hb
 clear hg hown hb
 by_cases hlt : k < len
 ·
  obtain ⟨b, o, rfl, hbw, hrow⟩ := HR.out.at_ (by omega)
  have hks : k < R.length := by rw [HR.out.size]; exact hlt
  obtain ⟨A', c', hc, hlc, hcc, hst⟩ := hrow k hks
  have HST := Lib.hid hst
  have hmx : c' <= 9223372036854775807 := by unfold maxLen at hcc; omega
  have HRK := Lib.hid (show (R.take (k + 1)).flatten = (R.take k).flatten ++ R[k] from by
   rw [List.take_succ_eq_append_getElem hks, List.flatten_append]; simp)
  have HSZ := Lib.hid (show (R.take k).flatten.length + R[k].length <= 1099511627776 from by
   have h1 : R.flatten = (R.take (k + 1)).flatten ++ (R.drop (k + 1)).flatten := by rw [<- List.flatten_append, List.take_append_drop]
   have h2 := congrArg List.length h1
   rw [HRK.out, List.length_append, List.length_append] at h2
   omega)
  clear hst hrow
  obtain ⟨m, hm⟩ : ∃ m, m = R[k].length := ⟨_, rfl⟩
  have hmc : m <= c' := by rw [hm]; exact hlc
  rw [<- hm] at hc hlc
  have HM := Lib.hid hm
  clear hm
  go_wp2_with fail
  obtain ⟨wo, rfl⟩ : ∃ wo : World, wo = wr := ⟨_, rfl⟩
  go_loopw [3, 5] (fun v i wi => ∃ j : Nat, j <= m /\ i = .int .i64 j /\ wi.ownsRow w.heap.size 9 1 v ((R.take k).flatten.length + j) (((R.take k).flatten ++ R[k].take j).map Value.string) /\ Below w.heap.size w wi) (fun _ i _ => m - (intOf i).toNat)
  case atStart => exact ⟨0, by omega, rfl, by simpa using HO.out, HB.out⟩
  obtain ⟨j, hj, rfl, hown, hb⟩ := hrel
  have HO2 := Lib.hid hown
  have HB2 := Lib.hid hb
  have hc1 : wr.cell? ⟨b, o + k, none⟩ = some (.slice A' m c') := (hb.cell (p := ⟨b, o + k, none⟩) hbw).trans hc
  have hsz2 := hb.size
  clear hown hb
  by_cases hjm : j < m
  ·
   obtain ⟨b2, o2, hA', hb2w, hrow2⟩ := HST.out.at_ (by rw [<- HM.out]; omega)
   subst hA'
   have hjr : j < R[k].length := by rw [<- HM.out]; exact hjm
   have hc2 : wr.cell? ⟨b2, o2 + j, none⟩ = some (.string R[k][j]) := (HB2.out.cell (p := ⟨b2, o2 + j, none⟩) hb2w).trans (hrow2 j hjr)
   clear hrow2
   have HJ := Lib.hid (show (R.take k).flatten.length + j < 1099511627776 from by have := HSZ.out; have := HM.out; omega)
   go_wp2_with (at_builtin; refine wpList_append_own _ rfl (.tmp 21) (.tmp 29) 25 rfl w.heap.size 9 i0 _ 1 16 Tryz.underlying25 hi hz0 hz1 hz2 rfl (by decide) _ _ _ rfl (HO2.out.alloc _) ⟨wr.heap.size,0,none⟩ 1 1 [.string _] rfl rfl (cell_one_new _ _ _) (fun x hx => by simp at hx; subst hx; rfl) (by have := HJ.out; unfold maxLen; omega) (by have := HJ.out; omega) (by simp; omega) ?_; intro v' w1 hown' hg' _)
   have hb1 : Below w.heap.size w w1 := (HB2.out.alloc HB2.out.size _).grown hg' (Nat.le_trans HB2.out.size (by simp)) (zq HO2.out)
   go_roundw
   case measure => simp only [intOf, Int.toNat_natCast]; omega
   refine ⟨j + 1, by omega, rfl, ?_, hb1⟩
   have e1 : (R.take k).flatten ++ R[k].take (j + 1) = ((R.take k).flatten ++ R[k].take j) ++ [R[k][j]] := by
    rw [List.append_assoc, List.take_succ_eq_append_getElem hjr]
   have e2 : (R.take k).flatten.length + (j + 1) = (R.take k).flatten.length + j + 1 := by omega
   rw [e1, e2, List.map_append]
   exact hown'
  obtain rfl : j = m := by omega
  go_wp2_with fail
  go_roundg (len - (k + 1))
  case measure => have := HG.out; omega
  refine ⟨k + 1, rfl, hlt, rfl, ?_, HB2.out⟩
  have h2 := HO2.out
  rw [HM.out, List.take_length] at h2
  rw [HRK.out, List.length_append]
  exact h2
 obtain rfl : k = len := by omega
 go_wp2_with fail
 go_ret
 refine ⟨_, rfl, ?_, HB.out⟩
 have h2 := HO.out
 rwa [List.take_of_length_le (by rw [HR.out.size]; exact Nat.le_refl _)] at h2
/- Expressions (api.Expr) in memory as trees, and what code.Check and grafteryref.CodeFault answer of one. -/
theorem readableExpr : Tryz.prog.readableRec 28 = true := by kernel_rfl
theorem rowExpr : 28 < Tryz.prog.types.size := of_decide_eq_true (by kernel_rfl)
theorem cellsExpr : Tryz.prog.cellsOf 28 = 9 := by kernel_rfl
theorem cellsSlExpr : Tryz.prog.cellsOf 26 = 1 := by kernel_rfl
structure ExHead where
 kind : Int
 df : Int
 S : ByteArray
 N : Int
 names : List ByteArray
def Tr : Nat -> Type
 | 0 => Unit
 | n + 1 => ExHead × List (Tr n)
section
variable {H : Type} (enc : TypeId × Value -> H)
structure ExC (w : World) (cs : List Value) (h : ExHead) (dk dn : Int) (ds : ByteArray) (dA : Option Addr) (dl dc : Nat) (An : Option Addr) (nl nc : Nat) (Aa : Option Addr) (al ac : Nat) : Prop where
 cells : cs = [.int .i64 h.kind, .int .i64 dk, .int .i64 dn, .string ds, .slice dA dl dc, .string h.S, .int .i64 h.N, .slice An nl nc, .slice Aa al ac]
 kindR : -9223372036854775808 <= h.kind /\ h.kind <= 9223372036854775807
 nR : -9223372036854775808 <= h.N /\ h.N <= 9223372036854775807
 wide : h.S.size <= maxLen
 df : ∃ dd : DataW H, Rd enc w 24 [.int .i64 dk, .int .i64 dn, .string ds, .slice dA dl dc] dd /\ fault 40 dd = h.df
 names : zt w An nl h.names
 each : ∀ s ∈ h.names, s.size <= maxLen
 nle : nl <= nc
 ncap : nc <= maxLen
 ale : al <= ac
 acap : ac <= maxLen
theorem ExC.below {enc : TypeId × Value -> H} {w w' : World} {cs : List Value} {h : ExHead} {dk dn : Int} {ds : ByteArray} {dA : Option Addr} {dl dc : Nat} {An : Option Addr} {nl nc : Nat} {Aa : Option Addr} {al ac : Nat}
  (hx : ExC enc w cs h dk dn ds dA dl dc An nl nc Aa al ac) (hb : Below w.heap.size w w') : ExC enc w' cs h dk dn ds dA dl dc An nl nc Aa al ac :=
 ⟨hx.cells, hx.kindR, hx.nR, hx.wide, by obtain ⟨dd, h1, h2⟩ := hx.df; exact ⟨dd, h1.below readableDatum rowDatum hb, h2⟩, hx.names.below hb, hx.each, hx.nle, hx.ncap, hx.ale, hx.acap⟩
def ExAt (w : World) : (n : Nat) -> List Value -> Tr n -> Prop
 | 0, _, _ => False
 | n + 1, cs, x => ∃ dk dn ds dA dl dc An nl nc Aa al ac, ExC enc w cs x.1 dk dn ds dA dl dc An nl nc Aa al ac /\ x.2.length = al ∧
   (0 < al -> ∃ b o, Aa = some ⟨b, o, none⟩ /\ b < w.heap.size /\ ∀ i, (hi : i < x.2.length) -> ∃ cs', cs'.length = 9 /\ RowAt w b (o + i * 9) cs' /\ ExAt w n cs' x.2[i])
theorem ExAt.below {enc : TypeId × Value -> H} {w w' : World} (hb : Below w.heap.size w w') : {n : Nat} -> {cs : List Value} -> {x : Tr n} -> ExAt enc w n cs x -> ExAt enc w' n cs x
 | 0, _, _, h => h.elim
 | n + 1, cs, x, h => by
  obtain ⟨dk, dn, ds, dA, dl, dc, An, nl, nc, Aa, al, ac, h1, h2, h3⟩ := h
  refine ⟨dk, dn, ds, dA, dl, dc, An, nl, nc, Aa, al, ac, h1.below hb, h2, fun h0 => ?_⟩
  obtain ⟨b, o, rfl, hbw, hrow⟩ := h3 h0
  refine ⟨b, o, rfl, Nat.lt_of_lt_of_le hbw hb.size, fun i hi => ?_⟩
  obtain ⟨cs', hl, hr, he⟩ := hrow i hi
  exact ⟨cs', hl, hr.below hb hbw, ExAt.below hb he⟩
theorem Rd.expr {enc : TypeId × Value -> H} {w : World} : (n : Nat) -> {cs : List Value} -> {d : DataW H} -> SizeOf.sizeOf d <= n -> Rd enc w 28 cs d -> ∃ (x : Tr n), ExAt enc w n cs x
 | 0, cs, d, hn, h => by
  exfalso
  have : 0 < SizeOf.sizeOf d := by cases d <;> simp <;> omega
  omega
 | n + 1, cs, d, hn, h => by
  obtain ⟨f, ps, h⟩ := h
  obtain ⟨xs, m, _, hx, hl, hlen, hf⟩ := DataW.trod_struct Tryz.underlying28 h
  rw [cellsExpr] at hl
  match cs, hl, xs, hlen with
  | [c0, c1, c2, c3, c4, c5, c6, c7, c8], _, [y0, y1, y2, y3, y4, y5], _ =>
   simp only [Prod.mk.injEq] at hx
   have h0 : Rd enc w 3 [c0] y0.1 := ⟨m, y0.2, by simpa [cellsInt] using hf 0 _ rfl⟩
   have h1 : Rd enc w 24 [c1, c2, c3, c4] y1.1 := ⟨m, y1.2, by simpa [cellsDatum] using hf 1 _ rfl⟩
   have h2 : Rd enc w 9 [c5] y2.1 := ⟨m, y2.2, by simpa [cellsString] using hf 2 _ rfl⟩
   have h3 : Rd enc w 3 [c6] y3.1 := ⟨m, y3.2, by simpa [cellsInt] using hf 3 _ rfl⟩
   have h4 : Rd enc w 25 [c7] y4.1 := ⟨m, y4.2, by simpa [cellsSlString] using hf 4 _ rfl⟩
   have h5 : Rd enc w 26 [c8] y5.1 := ⟨m, y5.2, by simpa [cellsSlExpr] using hf 5 _ rfl⟩
   obtain ⟨k, e0, d0, k1, k2⟩ := h0.int Tryz.underlying3
   obtain ⟨dk, dn, ds, dA, dl, dc, _, e1, _, _, _, _, _⟩ := h1.datum
   obtain ⟨s, e2, d2, s1⟩ := h2.string Tryz.underlying9
   obtain ⟨nn, e3, d3, n1, n2⟩ := h3.int Tryz.underlying3
   obtain ⟨An, nl, nc, e4, hs⟩ := h4.slAt Tryz.underlying25 cellsString (by decide)
   obtain ⟨Aa, al, ac, e5, ha⟩ := h5.slAt Tryz.underlying26 cellsExpr (by decide)
   simp only [List.cons.injEq, and_true] at e0 e1 e2 e3 e4 e5
   obtain ⟨rfl, rfl, rfl, rfl⟩ := e1
   subst e0 e2 e3 e4 e5
   obtain ⟨ss, hss, hev⟩ := slAt_strs hs
   have hel : ∀ i : Fin al, ∃ x : Tr n, ∀ b o, Aa = some ⟨b, o, none⟩ -> ∃ cs', cs'.length = 9 /\ RowAt w b (o + i.1 * 9) cs' /\ ExAt enc w n cs' x := by
    intro i
    obtain ⟨b, o, rfl, hb, hrow⟩ := ha.at_ (Nat.lt_of_le_of_lt (Nat.zero_le _) i.2)
    have hie : i.1 < (elems y5.1).length := by rw [ha.size]; exact i.2
    obtain ⟨cs', hl', hr', hd'⟩ := hrow i.1 hie
    have hsz : SizeOf.sizeOf (elems y5.1)[i.1] <= n := by
     have h1 : SizeOf.sizeOf d = SizeOf.sizeOf (DataW.agg [y0.1, y1.1, y2.1, y3.1, y4.1, y5.1]) := by rw [hx.1]; rfl
     have h2 : SizeOf.sizeOf (elems y5.1)[i.1] < SizeOf.sizeOf y5.1 := by
      have hm := List.getElem_mem hie
      have := List.sizeOf_lt_of_mem hm
      have h4 : SizeOf.sizeOf (elems y5.1) <= SizeOf.sizeOf y5.1 := by
       cases y5.1 <;> simp [elems] <;> omega
      omega
     simp at h1
     omega
    obtain ⟨x, hx'⟩ := Rd.expr n hsz hd'
    refine ⟨x, fun b' o' hA => ?_⟩
    simp only [Option.some.injEq, Addr.mk.injEq, and_true] at hA
    obtain ⟨rfl, rfl⟩ := hA
    exact ⟨cs', hl', hr', hx'⟩
   obtain ⟨g, hg⟩ := Classical.axiomOfChoice hel
   refine ⟨(⟨k, fault 40 y1.1, s, nn, ss⟩, List.ofFn g), dk, dn, ds, dA, dl, dc, An, nl, nc, Aa, al, ac, ⟨rfl, ⟨k1, k2⟩, ⟨n1, n2⟩, s1, ⟨y1.1, h1, rfl⟩, hss, hev, hs.le, hs.wide, ha.le, ha.wide⟩, by simp, fun h0 => ?_⟩
   obtain ⟨b, o, rfl, hb, hrow⟩ := ha.at_ h0
   refine ⟨b, o, rfl, hb, fun i hi => ?_⟩
   have hi' : i < al := by simpa using hi
   obtain ⟨cs', h1', h2', h3'⟩ := hg ⟨i, hi'⟩ b o rfl
   refine ⟨cs', h1', h2', ?_⟩
   rw [List.getElem_ofFn]
   exact h3'
end
def freshL : List ByteArray -> List ByteArray -> Bool
 | _, [] => true
 | pre, s :: r => freeB s && !inL pre s && freshL (pre ++ [s]) r
def kindB (k : Int) : Bool := decide (1 <= k /\ k <= 15)
/- Contracts of code.args, code.symbol, code.free. -/
def argsN (k : Int) : Int :=
 if k = 1 \/ k = 2 \/ k = 3 \/ k = 15 then 0 else if k = 6 \/ k = 8 \/ k = 12 \/ k = 13 then 1 else if k = 14 then 2 else if k = 4 then 3
 else if k = 5 \/ k = 7 \/ k = 9 \/ k = 10 \/ k = 11 then -1 else -2
def ArgsSay (w : World) (k : Int) : Prop := Calls Tryz.prog 59 #[.int .i64 k] w fun e w' => e = .returned (.int .i64 (argsN k)) /\ w' = w
theorem args_1 (w : World) : ArgsSay w 1 := by (unfold ArgsSay; go_enter Tryz.func59, Tryz.ntmps59; go_wp2_with fail; go_ret; exact ⟨rfl, rfl⟩)
theorem args_2 (w : World) : ArgsSay w 2 := by (unfold ArgsSay; go_enter Tryz.func59, Tryz.ntmps59; go_wp2_with fail; go_ret; exact ⟨rfl, rfl⟩)
theorem args_3 (w : World) : ArgsSay w 3 := by (unfold ArgsSay; go_enter Tryz.func59, Tryz.ntmps59; go_wp2_with fail; go_ret; exact ⟨rfl, rfl⟩)
theorem args_4 (w : World) : ArgsSay w 4 := by (unfold ArgsSay; go_enter Tryz.func59, Tryz.ntmps59; go_wp2_with fail; go_ret; exact ⟨rfl, rfl⟩)
theorem args_5 (w : World) : ArgsSay w 5 := by (unfold ArgsSay; go_enter Tryz.func59, Tryz.ntmps59; go_wp2_with fail; go_ret; exact ⟨rfl, rfl⟩)
theorem args_6 (w : World) : ArgsSay w 6 := by (unfold ArgsSay; go_enter Tryz.func59, Tryz.ntmps59; go_wp2_with fail; go_ret; exact ⟨rfl, rfl⟩)
theorem args_7 (w : World) : ArgsSay w 7 := by (unfold ArgsSay; go_enter Tryz.func59, Tryz.ntmps59; go_wp2_with fail; go_ret; exact ⟨rfl, rfl⟩)
theorem args_8 (w : World) : ArgsSay w 8 := by (unfold ArgsSay; go_enter Tryz.func59, Tryz.ntmps59; go_wp2_with fail; go_ret; exact ⟨rfl, rfl⟩)
theorem args_9 (w : World) : ArgsSay w 9 := by (unfold ArgsSay; go_enter Tryz.func59, Tryz.ntmps59; go_wp2_with fail; go_ret; exact ⟨rfl, rfl⟩)
theorem args_10 (w : World) : ArgsSay w 10 := by (unfold ArgsSay; go_enter Tryz.func59, Tryz.ntmps59; go_wp2_with fail; go_ret; exact ⟨rfl, rfl⟩)
theorem args_11 (w : World) : ArgsSay w 11 := by (unfold ArgsSay; go_enter Tryz.func59, Tryz.ntmps59; go_wp2_with fail; go_ret; exact ⟨rfl, rfl⟩)
theorem args_12 (w : World) : ArgsSay w 12 := by (unfold ArgsSay; go_enter Tryz.func59, Tryz.ntmps59; go_wp2_with fail; go_ret; exact ⟨rfl, rfl⟩)
theorem args_13 (w : World) : ArgsSay w 13 := by (unfold ArgsSay; go_enter Tryz.func59, Tryz.ntmps59; go_wp2_with fail; go_ret; exact ⟨rfl, rfl⟩)
theorem args_14 (w : World) : ArgsSay w 14 := by (unfold ArgsSay; go_enter Tryz.func59, Tryz.ntmps59; go_wp2_with fail; go_ret; exact ⟨rfl, rfl⟩)
theorem args_15 (w : World) : ArgsSay w 15 := by (unfold ArgsSay; go_enter Tryz.func59, Tryz.ntmps59; go_wp2_with fail; go_ret; exact ⟨rfl, rfl⟩)
theorem argsN_other {k : Int} (h : k < 1 \/ 15 < k) : argsN k = -2 := by unfold argsN; repeat rw [if_neg (by omega)]
theorem args_other (w : World) (k : Int) (h : k < 1 \/ 15 < k) : ArgsSay w k := by
 unfold ArgsSay
 rw [argsN_other h]
 have h1 : k ≠ 1 := by omega
 have h2 : k ≠ 2 := by omega
 have h3 : k ≠ 3 := by omega
 have h4 : k ≠ 4 := by omega
 have h5 : k ≠ 5 := by omega
 have h6 : k ≠ 6 := by omega
 have h7 : k ≠ 7 := by omega
 have h8 : k ≠ 8 := by omega
 have h9 : k ≠ 9 := by omega
 have h10 : k ≠ 10 := by omega
 have h11 : k ≠ 11 := by omega
 have h12 : k ≠ 12 := by omega
 have h13 : k ≠ 13 := by omega
 have h14 : k ≠ 14 := by omega
 have h15 : k ≠ 15 := by omega
 clear h
 go_enter Tryz.func59, Tryz.ntmps59
 go_wp2_with fail
 go_ret
 exact ⟨rfl, rfl⟩
theorem kinds {k : Int} (h : ¬ (k < 1 \/ 15 < k)) : k = 1 \/ k = 2 \/ k = 3 \/ k = 4 \/ k = 5 \/ k = 6 \/ k = 7 \/ k = 8 \/ k = 9 \/ k = 10 \/ k = 11 \/ k = 12 \/ k = 13 \/ k = 14 \/ k = 15 := by omega
theorem args_any (w : World) (k : Int) : ArgsSay w k := by
 by_cases h : k < 1 \/ 15 < k
 ·
  exact args_other w k h
 rcases kinds h with rfl | rfl | rfl | rfl | rfl | rfl | rfl | rfl | rfl | rfl | rfl | rfl | rfl | rfl | rfl
 ·
  exact args_1 w
 ·
  exact args_2 w
 ·
  exact args_3 w
 ·
  exact args_4 w
 ·
  exact args_5 w
 ·
  exact args_6 w
 ·
  exact args_7 w
 ·
  exact args_8 w
 ·
  exact args_9 w
 ·
  exact args_10 w
 ·
  exact args_11 w
 ·
  exact args_12 w
 ·
  exact args_13 w
 ·
  exact args_14 w
 exact args_15 w
theorem args_is (w : World) (k v : Int) (h : argsN k = v) : Calls Tryz.prog 59 #[.int .i64 k] w fun e w' => e = .returned (.int .i64 v) /\ w' = w := by
 subst h; exact args_any w k
/- Contracts of code.symbol, code.free, code.counted. -/
set_option maxHeartbeats 400000 in
theorem symbol_code (s : ByteArray) (hs : s.size <= maxLen) (w : World) :
  Calls Tryz.prog 93 #[.string s] w fun e w' => e = .returned (.bool (nameB s.data.toList)) /\ Below w.heap.size w w' := by
 cases hn : nameB s.data.toList
 all_goals
  have h := nameCheck_any s hs w
  rw [hn] at h
  have HC := Lib.hid h
  clear h hn
  go_enter Tryz.func93, Tryz.ntmps93
  go_wp2_with fail
  refine HC.out.mono ?_
  rintro e w1 ⟨rfl, hb1⟩
  have HB1 := Lib.hid hb1
  clear hb1
  go_wp2_with fail
  go_ret
  exact ⟨rfl, HB1.out⟩
theorem shapeF_none (s : ByteArray) : shapeF s [] = if freeB s then 0 else 4 := by
 unfold shapeF
 cases freeB s <;> simp [firstErr]
set_option maxHeartbeats 400000 in
theorem free_code (s : ByteArray) (hs : s.size <= maxLen) (w : World) (hm : UMaps w) :
  Calls Tryz.prog 95 #[.string s] w fun e w' => e = .returned (.bool (freeB s)) /\ Below w.heap.size w w' := by
 cases hn : freeB s
 all_goals
  have h := checkShape_any w s none 0 0 [] ⟨rfl, hs, ⟨rfl, fun h => absurd h (by omega)⟩, by simp, by omega, by unfold maxLen; omega⟩ hm
  rw [shapeF_none, hn] at h
  have HC := Lib.hid h
  clear h hn
  go_enter Tryz.func95, Tryz.ntmps95
  go_wp2_with fail
  refine HC.out.mono ?_
  rintro e w1 ⟨rfl, hb1⟩
  have HB1 := Lib.hid hb1
  clear hb1
  go_wp2_with fail
  go_ret
  exact ⟨rfl, HB1.out⟩
end Go.Proofs.YtfhbdlobhjegcaaGreatDoor
