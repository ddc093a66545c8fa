import Derived.Test.YtjmeodadkjcmmaaDoorGBase
import Derived.Deep.LoopGhost
import Derived.Deep.QuietTactic
import Derived.BigQuiet
namespace Go.Proofs.YtjmeodadkjcmmaaDoor
open Go.RowKit Go.ChangeShapes Go.WideShapes Go.Deep Go.ChangeAt
set_option linter.unusedVariables false
set_option maxRecDepth 20000
structure UMaps (w : World) : Prop where
 kw : KwAt w
 ar : ArAt 1 w
theorem UMaps.below {w w' : World} (h : UMaps w) (hb : Below w.heap.size w w') : UMaps w' := ⟨h.kw.below hb, h.ar.below hb⟩
def resB (s : ByteArray) : Bool := isKw s.toList || decide (0 <= primN s.toList)
set_option maxHeartbeats 400000 in
theorem reserved_any (s : ByteArray) (hs : s.size <= maxLen) (w : World) (hm : UMaps w) :
  Calls Tryd.prog 59 #[.string s] w fun e w' => e = .returned (.bool (resB s)) /\ w = w' := by
 obtain ⟨bm, hc, _, _, hl⟩ := hm.kw
 obtain ⟨bm2, hc2, _, _, hl2⟩ := hm.ar
 have h1 := hl w rfl s hs
 have h2 := hl2 w rfl s hs
 have HR := Lib.hid (show resB s = (isKw s.toList || decide (0 <= primN s.toList)) from rfl)
 clear hl hl2 hm
 generalize (if primN s.toList < 0 then 0 else primN s.toList) = nn at h2
 generalize hp : decide (0 <= primN s.toList) = pr at h2
 have HP := Lib.hid hp
 clear hp
 cases hk : isKw s.toList
 all_goals
  rw [hk] at h1
  have HK := Lib.hid hk
  clear hk
  go_enter Tryd.func59, Tryd.ntmps59
  go_wp2_with fail
  go_ret
  exact ⟨zp (by rw [HR.out, HK.out, HP.out]; rfl), rfl⟩
def natD (s : List UInt8) : DataW Unit := .agg [.lit (.int .i64 3), .lit (.int .i64 0), .lit (.string s), .nil]
set_option maxHeartbeats 400000 in
theorem nameCheck_any (s : ByteArray) (hs : s.size <= maxLen) (w : World) :
  Calls Tryd.prog 8 #[.agg #[.int .i64 3, .int .i64 0, .string s, .slice none 0 0]] w fun e w' => e = .returned (.int .i64 (if nameB s.data.toList then 0 else 4)) /\ Below w.heap.size w w' := by
 have h := readCheck_any (H := Unit) (enc := fun _ => ()) w [.int .i64 3, .int .i64 0, .string s, .slice none 0 0] (natD s.data.toList) (Rd.ofName _ w s hs)
 rw [natD, fault_name] at h
 exact h
set_option maxHeartbeats 400000 in
theorem bindable_any (s : ByteArray) (hs : s.size <= maxLen) (w : World) (hm : UMaps w) :
  Calls Tryd.prog 31 #[.string s] w fun e w' => e = .returned (.bool (freeB s)) /\ Below w.heap.size w w' := by
 have HM := Lib.hid hm
 clear hm
 have HF := Lib.hid (show freeB s = (nameB s.data.toList && !resB s) from by
  unfold freeB resB
  have : decide (primN s.toList < 0) = !decide (0 <= primN s.toList) := by
   rw [Bool.eq_iff_iff]; simp
  rw [this]
  cases nameB s.data.toList <;> cases isKw s.toList <;> simp)
 cases hn : nameB s.data.toList
 all_goals
  have h := nameCheck_any s hs w
  rw [hn] at h
  have HC := Lib.hid h
  have HN := Lib.hid hn
  clear h hn
  go_enter Tryd.func31, Tryd.ntmps31
  go_wp2_with fail
  refine HC.out.mono ?_
  rintro e w1 ⟨rfl, hb1⟩
  have HB1 := Lib.hid hb1
  clear hb1
 ·
  go_wp2_with fail
  go_ret
  exact ⟨zp (by rw [HF.out, HN.out]; rfl), HB1.out⟩
 go_wp2_with fail
 refine (reserved_any s hs _ (HM.out.below HB1.out)).mono ?_
 rintro e w2 ⟨rfl, rfl⟩
 go_wp2_with fail
 go_ret
 exact ⟨zp (by rw [HF.out, HN.out]; rfl), HB1.out⟩
theorem cellsShape : Tryd.prog.cellsOf 53 = 2 := by kernel_rfl
theorem cellsSlString : Tryd.prog.cellsOf 23 = 1 := by kernel_rfl
section
variable {H : Type} {enc : TypeId × Value -> H}
theorem slAt_strs {w : World} {A : Option Addr} {len cap : Nat} {it : DataW H} (h : SlAt enc w 9 1 A len cap it) : ∃ ss : List ByteArray, zb1 w A len ss /\ ∀ s ∈ ss, s.size <= maxLen := by
 rcases Nat.eq_zero_or_pos len with h0 | h0
 ·
  subst h0
  exact ⟨[], ⟨rfl, fun h => absurd h (by omega)⟩, by simp⟩
 ·
  obtain ⟨b, o, rfl, hb, hrow⟩ := h.at_ h0
  have hx : ∀ i : Fin len, ∃ s : ByteArray, w.cell? ⟨b, o + i.1, none⟩ = some (.string s) /\ s.size <= maxLen := by
   intro i
   obtain ⟨cs', hl, hr, hrd⟩ := hrow i.1 (by rw [h.size]; exact i.2)
   obtain ⟨s, rfl, _, hs⟩ := hrd.string Tryd.underlying9
   have := hr 0 (by simp)
   simp at this
   exact ⟨s, this, hs⟩
  obtain ⟨f, hf⟩ := Classical.axiomOfChoice hx
  refine ⟨List.ofFn f, ⟨by simp, fun _ => ⟨b, o, rfl, hb, fun i hi => ?_⟩⟩, ?_⟩
  ·
   have hi' : i < len := by simpa using hi
   rw [List.getElem_ofFn]
   exact (hf ⟨i, hi'⟩).1
  intro s hs
  obtain ⟨i, rfl⟩ := List.mem_ofFn.1 hs
  exact (hf i).2
structure ShapeAt (w : World) (cs : List Value) (name : ByteArray) (A : Option Addr) (len cap : Nat) (ss : List ByteArray) : Prop where
 cells : cs = [.string name, .slice A len cap]
 wide : name.size <= maxLen
 strs : zb1 w A len ss
 each : ∀ s ∈ ss, s.size <= maxLen
 le : len <= cap
 cap_ : cap <= maxLen
theorem ShapeAt.below {w w' : World} {cs : List Value} {name : ByteArray} {A : Option Addr} {len cap : Nat} {ss : List ByteArray} (h : ShapeAt w cs name A len cap ss) (hb : Below w.heap.size w w') : ShapeAt w' cs name A len cap ss :=
 ⟨h.cells, h.wide, h.strs.below hb, h.each, h.le, h.cap_⟩
theorem Rd.shape {w : World} {cs : List Value} {d : DataW H} (h : Rd enc w 53 cs d) : ∃ name A len cap ss, ShapeAt w cs name A len cap ss := by
 obtain ⟨f, ps, h⟩ := h
 obtain ⟨xs, m, _, hx, hl, hlen, hf⟩ := DataW.trod_struct Tryd.underlying53 h
 rw [cellsShape] at hl
 match cs, hl, xs, hlen with
 | [c0, c1], _, [y0, y1], _ =>
  have h0 : Rd enc w 9 [c0] y0.1 := ⟨m, y0.2, by simpa [cellsString] using hf 0 _ rfl⟩
  have h1 : Rd enc w 23 [c1] y1.1 := ⟨m, y1.2, by simpa [cellsSlString] using hf 1 _ rfl⟩
  obtain ⟨s, e2, d2, s1⟩ := h0.string Tryd.underlying9
  obtain ⟨A, len, cap, e3, hs⟩ := h1.slAt Tryd.underlying23 cellsString (by decide)
  simp only [List.cons.injEq, and_true] at e2 e3
  subst e2 e3
  obtain ⟨ss, hss, hev⟩ := slAt_strs hs
  exact ⟨s, A, len, cap, ss, rfl, s1, hss, hev, hs.le, hs.wide⟩
end
theorem zb1.take {w : World} {A : Option Addr} {len : Nat} {ss : List ByteArray} (h : zb1 w A len ss) {k : Nat} (hk : k <= len) : zb1 w A k (ss.take k) :=
 ⟨by rw [List.length_take, h.size]; omega, fun h0 => by
  obtain ⟨b, o, rfl, hb, hc⟩ := h.at_ (by omega)
  exact ⟨b, o, rfl, hb, fun i hi => by rw [List.getElem_take]; exact hc i (by rw [List.length_take] at hi; omega)⟩⟩
def fieldF (ss : List ByteArray) (i : Nat) : Int := if nameB (ss.getD i ByteArray.empty).data.toList = false then 4 else if inL (ss.take i) (ss.getD i ByteArray.empty) = true then 7 else 0
def shapeF (name : ByteArray) (ss : List ByteArray) : Int :=
 if freeB name = false then 4 else if 6 < ss.length then 1 else firstErr ((List.range ss.length).map (fieldF ss))
theorem shapeF_at {name : ByteArray} {ss : List ByteArray} (hf : freeB name = true) (hl : ss.length <= 6) {k : Nat} {e : Int} (hk : k < ss.length) (hb : ∀ j, j < k -> fieldF ss j = 0) (he : fieldF ss k = e) (hne : e ≠ 0) : shapeF name ss = e := by
 unfold shapeF
 rw [if_neg (by rw [hf]; simp), if_neg (by omega), firstErr_at (i := k) (by simpa using hk) (fun j hj => by simpa using hb j hj) (by simpa [he] using hne)]
 simpa using he
theorem shapeF_ok {name : ByteArray} {ss : List ByteArray} (hf : freeB name = true) (hl : ss.length <= 6) (hb : ∀ j, j < ss.length -> fieldF ss j = 0) : shapeF name ss = 0 := by
 unfold shapeF
 rw [if_neg (by rw [hf]; simp), if_neg (by omega), firstErr_zero]
 intro x hx
 obtain ⟨j, hj, rfl⟩ := List.mem_map.1 hx
 exact hb j (by simpa using hj)
set_option maxHeartbeats 1000000 in
theorem checkShape_any (w : World) (name : ByteArray) (A : Option Addr) (len cap : Nat) (ss : List ByteArray) (hA : ShapeAt w [.string name, .slice A len cap] name A len cap ss) (hm : UMaps w) :
  Calls Tryd.prog 32 #[.agg #[.string name, .slice A len cap]] w fun e w' => e = .returned (.int .i64 (shapeF name ss)) /\ Below w.heap.size w w' := by
 have hns := hA.wide
 have hlen : len <= 9223372036854775807 := by have := hA.le; have := hA.cap_; unfold maxLen at this; omega
 have HA := Lib.hid hA
 have HM := Lib.hid hm
 clear hA hm
 cases hfr : freeB name
 ·
  have HF := Lib.hid (show shapeF name ss = 4 from by unfold shapeF; rw [if_pos hfr])
  go_enter Tryd.func32, Tryd.ntmps32
  go_wp2_with fail
  refine (bindable_any name hns _ (HM.out.below ((Below.refl _ _).alloc (Nat.le_refl _) _))).mono ?_
  rintro e w1 ⟨rfl, hb1⟩
  rw [hfr]
  have HB := Lib.hid (((Below.refl _ w).alloc (Nat.le_refl _) (.cells #[.string name, .slice A len cap] 53)).trans (hb1.mono (by simp)))
  clear hb1
  go_wp2_with fail
  go_ret
  exact ⟨ret_i HF.out.symm, HB.out⟩
 have HFR := Lib.hid hfr
 by_cases h6 : 6 < len
 ·
  have HF := Lib.hid (show shapeF name ss = 1 from by unfold shapeF; rw [if_neg (by rw [hfr]; simp), if_pos (by rw [HA.out.strs.size]; exact h6)])
  go_enter Tryd.func32, Tryd.ntmps32
  go_wp2_with fail
  refine (bindable_any name hns _ (HM.out.below ((Below.refl _ _).alloc (Nat.le_refl _) _))).mono ?_
  rintro e w1 ⟨rfl, hb1⟩
  rw [hfr]
  have c1 : w1.cell? ⟨w.heap.size, 1, none⟩ = some (.slice A len cap) := box_cell hb1 rfl
  have HB := Lib.hid (((Below.refl _ w).alloc (Nat.le_refl _) (.cells #[.string name, .slice A len cap] 53)).trans (hb1.mono (by simp)))
  clear hb1
  go_wp2_with fail
  go_ret
  exact ⟨ret_i HF.out.symm, HB.out⟩
 go_enter Tryd.func32, Tryd.ntmps32
 go_wp2_with fail
 refine (bindable_any name hns _ (HM.out.below ((Below.refl _ _).alloc (Nat.le_refl _) _))).mono ?_
 rintro e w1 ⟨rfl, hb1⟩
 rw [hfr]
 have c1 : w1.cell? ⟨w.heap.size, 1, none⟩ = some (.slice A len cap) := box_cell hb1 rfl
 have hs1 : w.heap.size < w1.heap.size := Nat.lt_of_lt_of_le (by simp) hb1.size
 have HB := Lib.hid (((Below.refl _ w).alloc (Nat.le_refl _) (.cells #[.string name, .slice A len cap] 53)).trans (hb1.mono (by simp)))
 clear hb1
 clear hfr
 go_wp2_with fail
 go_loopg [16] len (fun g i wr => ∃ k : Nat, g = len - k /\ k <= len /\ i = .int .i64 k /\ wr.cell? ⟨w.heap.size, 1, none⟩ = some (.slice A len cap) /\ w.heap.size < wr.heap.size /\ Below w.heap.size w wr /\ ∀ j, j < k -> fieldF ss j = 0)
 case atStart => exact ⟨0, by omega, by omega, rfl, c1, hs1, HB.out, fun j h => absurd h (by omega)⟩
 case round =>
  obtain ⟨k, hg, hk, rfl, hbox, hbs, hb, hall⟩ := hrel
  have HG := Lib.hid hg
  have HALL := Lib.hid hall
  have HBR := Lib.hid hb
  have hsz := hb.size
  clear hg hall hb
  by_cases hlt : k < len
  ·
   obtain ⟨b, o, rfl, hbw, hrow⟩ := HA.out.strs.at_ (by omega)
   have hks : k < ss.length := by rw [HA.out.strs.size]; exact hlt
   have hc : wr.cell? ⟨b, o + k, none⟩ = some (.string ss[k]) := (HBR.out.cell (p := ⟨b, o + k, none⟩) hbw).trans (hrow k hks)
   have hcs : ss[k].size <= maxLen := HA.out.each _ (List.getElem_mem hks)
   have HGD := Lib.hid (show ss.getD k ByteArray.empty = ss[k] from by simp [hks])
   clear hrow
   cases hn : nameB ss[k].data.toList
   ·
    have hN := nameCheck_any ss[k] hcs wr
    rw [hn] at hN
    have HN := Lib.hid hN
    have HK := Lib.hid (show fieldF ss k = 4 from by unfold fieldF; rw [HGD.out, if_pos hn])
    clear hN hn
    go_wp2_with fail
    refine HN.out.mono ?_
    rintro e w2 ⟨rfl, hb2⟩
    have HB2 := Lib.hid (HBR.out.trans (hb2.mono hsz))
    clear hb2
    go_wp2_with fail
    go_ret
    exact ⟨ret_i (shapeF_at HFR.out (by rw [HA.out.strs.size]; omega) hks HALL.out HK.out (by decide)).symm, HB2.out⟩
   have hN := nameCheck_any ss[k] hcs wr
   rw [hn] at hN
   have HN := Lib.hid hN
   have HNN := Lib.hid hn
   clear hN hn
   go_wp2_with fail
   refine HN.out.mono ?_
   rintro e w2 ⟨rfl, hb2⟩
   have hbox2 : w2.cell? ⟨w.heap.size, 1, none⟩ = some (.slice (some ⟨b, o, none⟩) len cap) := (hb2.cell (p := ⟨w.heap.size, 1, none⟩) hbs).trans hbox
   have hbs2 : w.heap.size < w2.heap.size := Nat.lt_of_lt_of_le hbs hb2.size
   have HB2 := Lib.hid (HBR.out.trans (hb2.mono hsz))
   clear hb2
   have hkc : k <= cap := by have := HA.out.le; omega
   have hcap : cap <= 9223372036854775807 := by have := HA.out.cap_; unfold maxLen at this; omega
   have hst : zb1 w2 (some ⟨b, o, none⟩) k (ss.take k) := (HA.out.strs.below HB2.out).take hk
   have HST := Lib.hid hst
   clear hst
   cases hin : inL (ss.take k) ss[k]
   ·
    have HK := Lib.hid (show fieldF ss k = 0 from by unfold fieldF; rw [HGD.out, HNN.out, hin]; rfl)
    have HIN := Lib.hid hin
    clear hin
    go_wp2_with fail
    refine (contains_any ss[k] _ k cap (ss.take k) _ HA.out.cap_ hkc HST.out).mono ?_
    rintro e w3 ⟨rfl, rfl⟩
    rw [HIN.out]
    have hg := HG.out
    go_wp2_with fail
    go_roundg (len - (k + 1))
    case measure => omega
    case rel =>
     refine ⟨k + 1, rfl, by omega, by go_num, hbox2, hbs2, HB2.out, fun j hj => ?_⟩
     by_cases hjk : j = k
     ·
      subst hjk; exact HK.out
     exact HALL.out j (by omega)
   have HK := Lib.hid (show fieldF ss k = 7 from by unfold fieldF; rw [HGD.out, HNN.out, hin]; rfl)
   have HIN := Lib.hid hin
   clear hin
   go_wp2_with fail
   refine (contains_any ss[k] _ k cap (ss.take k) _ HA.out.cap_ hkc HST.out).mono ?_
   rintro e w3 ⟨rfl, rfl⟩
   rw [HIN.out]
   go_wp2_with fail
   go_ret
   exact ⟨ret_i (shapeF_at HFR.out (by rw [HA.out.strs.size]; omega) hks HALL.out HK.out (by decide)).symm, HB2.out⟩
  obtain rfl : k = len := by omega
  go_wp2_with fail
  go_ret
  exact ⟨ret_i (shapeF_ok HFR.out (by rw [HA.out.strs.size]; omega) (fun j hj => HALL.out j (by rw [<- HA.out.strs.size]; exact hj))).symm, HBR.out⟩
theorem zb1.drewN {w : World} {A : Option Addr} {len : Nat} {ss : List ByteArray} (h : zb1 w A len ss) (n : Nat) : zb1 (w.drewN n) A len ss := h.below (below_drewN (Below.refl _ _) n)
set_option maxHeartbeats 1000000 in
theorem shapeFault_any (w : World) (name : ByteArray) (A : Option Addr) (len cap : Nat) (ss : List ByteArray) (hA : ShapeAt w [.string name, .slice A len cap] name A len cap ss) :
  Calls Tryd.prog 49 #[.agg #[.string name, .slice A len cap]] w fun e w' => e = .returned (.int .i64 (shapeF name ss)) /\ Below w.heap.size w w' := by
 have hns := hA.wide
 have hlen : len <= 9223372036854775807 := by have := hA.le; have := hA.cap_; unfold maxLen at this; omega
 have HA := Lib.hid hA
 clear hA
 cases hfr : freeB name
 ·
  have HF := Lib.hid (show shapeF name ss = 4 from by unfold shapeF; rw [if_pos hfr])
  go_enter Tryd.func49, Tryd.ntmps49
  go_wp2_with fail
  refine (freeName_any name hns _).mono ?_
  rintro e w1 ⟨rfl, hb1⟩
  rw [hfr]
  have HB := Lib.hid (((Below.refl _ w).alloc (Nat.le_refl _) (.cells #[.string name, .slice A len cap] 53)).trans (hb1.mono (by simp)))
  clear hb1
  go_wp2_with fail
  go_ret
  exact ⟨ret_i HF.out.symm, HB.out⟩
 have HFR := Lib.hid hfr
 by_cases h6 : 6 < len
 ·
  have HF := Lib.hid (show shapeF name ss = 1 from by unfold shapeF; rw [if_neg (by rw [hfr]; simp), if_pos (by rw [HA.out.strs.size]; exact h6)])
  go_enter Tryd.func49, Tryd.ntmps49
  go_wp2_with fail
  refine (freeName_any name hns _).mono ?_
  rintro e w1 ⟨rfl, hb1⟩
  rw [hfr]
  have c1 : w1.cell? ⟨w.heap.size, 1, none⟩ = some (.slice A len cap) := box_cell hb1 rfl
  have HB := Lib.hid (((Below.refl _ w).alloc (Nat.le_refl _) (.cells #[.string name, .slice A len cap] 53)).trans (hb1.mono (by simp)))
  clear hb1
  go_wp2_with fail
  go_ret
  exact ⟨ret_i HF.out.symm, HB.out⟩
 go_enter Tryd.func49, Tryd.ntmps49
 go_wp2_with fail
 refine (freeName_any name hns _).mono ?_
 rintro e w1 ⟨rfl, hb1⟩
 rw [hfr]
 have c1 : w1.cell? ⟨w.heap.size, 1, none⟩ = some (.slice A len cap) := box_cell hb1 rfl
 have hs1 : w.heap.size < w1.heap.size := Nat.lt_of_lt_of_le (by simp) hb1.size
 have HB := Lib.hid (((Below.refl _ w).alloc (Nat.le_refl _) (.cells #[.string name, .slice A len cap] 53)).trans (hb1.mono (by simp)))
 clear hb1
 clear hfr
 go_wp2_with fail
 go_loopg [3] len (fun g i wr => ∃ k : Nat, g = len - k /\ k <= len /\ i = .int .i64 k /\ wr.cell? ⟨w.heap.size, 1, none⟩ = some (.slice A len cap) /\ w.heap.size < wr.heap.size /\ Below w.heap.size w wr /\ ∀ j, j < k -> fieldF ss j = 0)
 case atStart => exact ⟨0, by omega, by omega, rfl, c1, hs1, HB.out, fun j h => absurd h (by omega)⟩
 case round =>
  obtain ⟨k, hg, hk, rfl, hbox, hbs, hb, hall⟩ := hrel
  have HG := Lib.hid hg
  have HALL := Lib.hid hall
  have HBR := Lib.hid hb
  have hsz := hb.size
  clear hg hall hb
  by_cases hlt : k < len
  ·
   obtain ⟨b, o, rfl, hbw, hrow⟩ := HA.out.strs.at_ (by omega)
   have hks : k < ss.length := by rw [HA.out.strs.size]; exact hlt
   have hc : wr.cell? ⟨b, o + k, none⟩ = some (.string ss[k]) := (HBR.out.cell (p := ⟨b, o + k, none⟩) hbw).trans (hrow k hks)
   have hcs : ss[k].size <= maxLen := HA.out.each _ (List.getElem_mem hks)
   have HGD := Lib.hid (show ss.getD k ByteArray.empty = ss[k] from by simp [hks])
   clear hrow
   cases hn : nameB ss[k].data.toList
   ·
    have HK := Lib.hid (show fieldF ss k = 4 from by unfold fieldF; rw [HGD.out, if_pos hn])
    have HNN := Lib.hid hn
    clear hn
    go_wp2_with fail
    refine (nameMay_any ss[k] hcs wr).mono ?_
    rintro e w2 ⟨rfl, nd, hw2⟩
    rw [HNN.out]
    have hb2 : Below wr.heap.size wr w2 := by rw [hw2]; exact below_drewN (Below.refl _ _) nd
    clear hw2
    have HB2 := Lib.hid (HBR.out.trans (hb2.mono hsz))
    clear hb2
    go_wp2_with fail
    go_ret
    exact ⟨ret_i (shapeF_at HFR.out (by rw [HA.out.strs.size]; omega) hks HALL.out HK.out (by decide)).symm, HB2.out⟩
   have HNN := Lib.hid hn
   clear hn
   go_wp2_with fail
   refine (nameMay_any ss[k] hcs wr).mono ?_
   rintro e w2 ⟨rfl, nd, hw2⟩
   rw [HNN.out]
   have hb2 : Below wr.heap.size wr w2 := by rw [hw2]; exact below_drewN (Below.refl _ _) nd
   clear hw2
   have hc2 : w2.cell? ⟨b, o + k, none⟩ = some (.string ss[k]) := (hb2.cell (p := ⟨b, o + k, none⟩) (show b < wr.heap.size by omega)).trans hc
   have hbox2 : w2.cell? ⟨w.heap.size, 1, none⟩ = some (.slice (some ⟨b, o, none⟩) len cap) := (hb2.cell (p := ⟨w.heap.size, 1, none⟩) hbs).trans hbox
   have hbs2 : w.heap.size < w2.heap.size := Nat.lt_of_lt_of_le hbs hb2.size
   have HB2 := Lib.hid (HBR.out.trans (hb2.mono hsz))
   clear hb2
   have hkc : k <= cap := by have := HA.out.le; omega
   have hcap : cap <= 9223372036854775807 := by have := HA.out.cap_; unfold maxLen at this; omega
   have hst : zb1 w2 (some ⟨b, o, none⟩) k (ss.take k) := (HA.out.strs.below HB2.out).take hk
   have HST := Lib.hid hst
   clear hst
   cases hin : inL (ss.take k) ss[k]
   ·
    have HK := Lib.hid (show fieldF ss k = 0 from by unfold fieldF; rw [HGD.out, HNN.out, hin]; rfl)
    have HIN := Lib.hid hin
    clear hin
    have HCA := HA.out.cap_
    have hki : (k : Int) < (len : Int) := by omega
    have hkci : (k : Int) <= (cap : Int) := by omega
    go_wp2_with fail
    go_quiet ((go_at_call 20; exact Calls.quiet_of_same ((isIn_any ss[k] _ k cap (ss.take k) _ HCA hkc (zb1.drewN HST.out _)).mono (fun _ _ h => ⟨h.1, h.2.symm⟩))))
    rw [HIN.out]
    have hg := HG.out
    go_wp2_with fail
    go_roundg (len - (k + 1))
    case measure => omega
    case rel =>
     refine ⟨k + 1, rfl, by omega, by go_num, hbox2, hbs2, below_drewN HB2.out _, fun j hj => ?_⟩
     by_cases hjk : j = k
     ·
      subst hjk; exact HK.out
     exact HALL.out j (by omega)
   have HK := Lib.hid (show fieldF ss k = 7 from by unfold fieldF; rw [HGD.out, HNN.out, hin]; rfl)
   have HIN := Lib.hid hin
   clear hin
   have HCA := HA.out.cap_
   have hki : (k : Int) < (len : Int) := by omega
   have hkci : (k : Int) <= (cap : Int) := by omega
   go_wp2_with fail
   go_quiet ((go_at_call 20; exact Calls.quiet_of_same ((isIn_any ss[k] _ k cap (ss.take k) _ HCA hkc (zb1.drewN HST.out _)).mono (fun _ _ h => ⟨h.1, h.2.symm⟩))))
   rw [HIN.out]
   go_wp2_with fail
   go_ret
   exact ⟨ret_i (shapeF_at HFR.out (by rw [HA.out.strs.size]; omega) hks HALL.out HK.out (by decide)).symm, below_drewN HB2.out _⟩
  obtain rfl : k = len := by omega
  go_wp2_with fail
  go_ret
  exact ⟨ret_i (shapeF_ok HFR.out (by rw [HA.out.strs.size]; omega) (fun j hj => HALL.out j (by rw [<- HA.out.strs.size]; exact hj))).symm, HBR.out⟩
/- Slices of shapes in memory; contracts of slices.IndexFunc, slices.ContainsFunc (at the closure of unit.Check), grafteryref.shapeAt. -/
structure Shp where
 name : ByteArray
 A : Option Addr
 len : Nat
 cap : Nat
 ss : List ByteArray
def Shp.cells (x : Shp) : List Value := [.string x.name, .slice x.A x.len x.cap]
def Shp.At (w : World) (x : Shp) : Prop := ShapeAt w [.string x.name, .slice x.A x.len x.cap] x.name x.A x.len x.cap x.ss
structure zz (w : World) (A : Option Addr) (len : Nat) (L : List Shp) : Prop where
 size : L.length = len
 at_ : 0 < len -> ∃ b o, A = some ⟨b, o, none⟩ /\ b < w.heap.size /\ ∀ i, (h : i < L.length) -> w.cell? ⟨b, o + i * 2, none⟩ = some (.string L[i].name) /\ w.cell? ⟨b, o + i * 2 + 1, none⟩ = some (.slice L[i].A L[i].len L[i].cap)
 each : ∀ x ∈ L, x.At w
theorem zz.below {w w' : World} {A : Option Addr} {len : Nat} {L : List Shp} (h : zz w A len L) (hb : Below w.heap.size w w') : zz w' A len L :=
 ⟨h.size, fun h0 => by
  obtain ⟨b, o, rfl, hl, hc⟩ := h.at_ h0
  exact ⟨b, o, rfl, Nat.lt_of_lt_of_le hl hb.size, fun i hi => ⟨(hb.cell (p := ⟨b, o + i * 2, none⟩) hl).trans (hc i hi).1, (hb.cell (p := ⟨b, o + i * 2 + 1, none⟩) hl).trans (hc i hi).2⟩⟩,
  fun x hx => ShapeAt.below (h.each x hx) hb⟩
theorem zz.take {w : World} {A : Option Addr} {len : Nat} {L : List Shp} (h : zz w A len L) {k : Nat} (hk : k <= len) : zz w A k (L.take k) :=
 ⟨by rw [List.length_take, h.size]; omega, fun h0 => by
  obtain ⟨b, o, rfl, hb, hc⟩ := h.at_ (by omega)
  exact ⟨b, o, rfl, hb, fun i hi => by rw [List.getElem_take]; exact hc i (by rw [List.length_take] at hi; omega)⟩,
  fun x hx => h.each x (List.mem_of_mem_take hx)⟩
section
variable {H : Type} {enc : TypeId × Value -> H}
theorem slAt_shapes {w : World} {A : Option Addr} {len cap : Nat} {it : DataW H} (h : SlAt enc w 53 2 A len cap it) : ∃ L : List Shp, zz w A len L := by
 rcases Nat.eq_zero_or_pos len with h0 | h0
 ·
  subst h0
  exact ⟨[], ⟨rfl, fun h => absurd h (by omega), by simp⟩⟩
 ·
  obtain ⟨b, o, rfl, hb, hrow⟩ := h.at_ h0
  have hx : ∀ i : Fin len, ∃ x : Shp, (w.cell? ⟨b, o + i.1 * 2, none⟩ = some (.string x.name) /\ w.cell? ⟨b, o + i.1 * 2 + 1, none⟩ = some (.slice x.A x.len x.cap)) /\ x.At w := by
   intro i
   obtain ⟨cs', hl, hr, hrd⟩ := hrow i.1 (by rw [h.size]; exact i.2)
   obtain ⟨name, A', len', cap', ss, hS⟩ := hrd.shape
   obtain rfl := hS.cells
   exact ⟨⟨name, A', len', cap', ss⟩, ⟨hr 0 (by simp), hr 1 (by simp)⟩, hS⟩
  obtain ⟨f, hf⟩ := Classical.axiomOfChoice hx
  refine ⟨List.ofFn f, ⟨by simp, fun _ => ⟨b, o, rfl, hb, fun i hi => ?_⟩, ?_⟩⟩
  ·
   have hi' : i < len := by simpa using hi
   rw [List.getElem_ofFn]
   exact (hf ⟨i, hi'⟩).1
  intro s hs
  obtain ⟨i, rfl⟩ := List.mem_ofFn.1 hs
  exact (hf i).2
end
def names (L : List Shp) : List ByteArray := L.map Shp.name
set_option maxHeartbeats 400000 in
theorem sameName_any (x : Shp) (n : ByteArray) (b o : Nat) (w : World) (hc : w.cell? ⟨b, o, none⟩ = some (.string n)) (hb : b < w.heap.size) :
  Calls Tryd.prog 34 #[.agg #[.string x.name, .slice x.A x.len x.cap], .pointer (some ⟨b, o, none⟩)] w fun e w' => e = .returned (.bool (x.name.toList == n.toList)) /\ Below w.heap.size w w' := by
 have hc' : ∀ o1, (w.alloc o1).cell? ⟨b, o, none⟩ = some (.string n) := fun o1 => (World.cell?_alloc_lt w o1 ⟨b, o, none⟩ hb).trans hc
 go_enter Tryd.func34, Tryd.ntmps34
 go_wp2_with fail
 go_ret
 exact ⟨rfl, (Below.refl _ _).alloc (Nat.le_refl _) _⟩
set_option maxHeartbeats 1000000 in
theorem indexFunc_any (n : ByteArray) (b0 o0 : Nat) (A : Option Addr) (len cap : Nat) (L : List Shp) (w : World) (hcap : cap <= maxLen) (hl : len <= cap) (hA : zz w A len L) (hc : w.cell? ⟨b0, o0, none⟩ = some (.string n)) (hb0 : b0 < w.heap.size) :
  Calls Tryd.prog 42 #[.slice A len cap, .func (.func 34) #[] #[.pointer (some ⟨b0, o0, none⟩)]] w fun e w' => e = .returned (.int .i64 (idxL (names L) n)) /\ Below w.heap.size w w' := by
 have hlen : len <= 9223372036854775807 := by unfold maxLen at hcap; omega
 have HA := Lib.hid hA
 have HC := Lib.hid hc
 clear hA hc
 go_enter Tryd.func42, Tryd.ntmps42
 go_wp2_with fail
 go_loopw [8] (fun i wr => ∃ k : Nat, k <= len /\ i = .int .i64 k /\ Below w.heap.size w wr /\ ∀ j, j < k -> (hj : j < (names L).length) -> ((names L)[j].toList == n.toList) = false) (fun i _ => len - (intOf i).toNat)
 case atStart => exact ⟨0, by omega, rfl, Below.refl _ _, fun j h => absurd h (by omega)⟩
 case round =>
  obtain ⟨k, hk, rfl, hb, hall⟩ := hrel
  have HALL := Lib.hid hall
  have HB := Lib.hid hb
  clear hall hb
  by_cases hlt : k < len
  ·
   obtain ⟨b, o, rfl, hbw, hrow⟩ := HA.out.at_ (by omega)
   have hks : k < L.length := by rw [HA.out.size]; exact hlt
   have hkn : k < (names L).length := by simpa [names] using hks
   have hnk : (names L)[k] = L[k].name := by simp [names]
   have c0 : wr.cell? ⟨b, o + k * 2, none⟩ = some (.string L[k].name) := (HB.out.cell (p := ⟨b, o + k * 2, none⟩) hbw).trans (hrow k hks).1
   have c1 : wr.cell? ⟨b, o + k * 2 + 1, none⟩ = some (.slice L[k].A L[k].len L[k].cap) := (HB.out.cell (p := ⟨b, o + k * 2 + 1, none⟩) hbw).trans (hrow k hks).2
   have HNK := Lib.hid hnk
   clear hrow hnk
   have hsz := HB.out.size
   cases he : (L[k].name.toList == n.toList)
   all_goals
    have HE := Lib.hid he
    clear he
    go_wp2_with fail
    refine (sameName_any L[k] n b0 o0 wr ((HB.out.cell (p := ⟨b0, o0, none⟩) hb0).trans HC.out) (Nat.lt_of_lt_of_le hb0 hsz)).mono ?_
    rintro e w1 ⟨rfl, hb1⟩
    rw [HE.out]
    have HB1 := Lib.hid (HB.out.trans (hb1.mono hsz))
    clear hb1
   ·
    go_wp2_with fail
    go_roundw
    case rel =>
     refine ⟨k + 1, by omega, by go_num, HB1.out, fun j hj hj' => ?_⟩
     by_cases hjk : j = k
     ·
      subst hjk; rw [HNK.out]; exact HE.out
     exact HALL.out j (by omega) hj'
    case measure => simp [intOf]; omega
   go_wp2_with fail
   go_ret
   exact ⟨ret_i (idxL_at hkn (by rw [HNK.out]; exact HE.out) HALL.out).symm, HB1.out⟩
  obtain rfl : k = len := by omega
  go_wp2_with fail
  go_ret
  exact ⟨ret_i (idxL_no (fun j hj => HALL.out j (by rw [<- HA.out.size]; simpa [names] using hj) hj)).symm, HB.out⟩
set_option maxHeartbeats 1000000 in
theorem containsFunc_any (n : ByteArray) (b0 o0 : Nat) (A : Option Addr) (len cap : Nat) (L : List Shp) (w : World) (hcap : cap <= maxLen) (hl : len <= cap) (hA : zz w A len L) (hc : w.cell? ⟨b0, o0, none⟩ = some (.string n)) (hb0 : b0 < w.heap.size) :
  Calls Tryd.prog 33 #[.slice A len cap, .func (.func 34) #[] #[.pointer (some ⟨b0, o0, none⟩)]] w fun e w' => e = .returned (.bool (inL (names L) n)) /\ Below w.heap.size w w' := by
 go_enter Tryd.func33, Tryd.ntmps33
 go_wp2_with fail
 refine (indexFunc_any n b0 o0 A len cap L _ hcap hl hA hc hb0).mono ?_
 rintro e w1 ⟨rfl, hb1⟩
 have HB := Lib.hid hb1
 clear hb1
 go_wp2_with fail
 go_ret
 exact ⟨zp (idxL_in (names L) n), HB.out⟩
set_option maxHeartbeats 1000000 in
theorem shapeAt_any (n : ByteArray) (A : Option Addr) (len cap : Nat) (L : List Shp) (w : World) (hcap : cap <= maxLen) (hl : len <= cap) (hA : zz w A len L) :
  Calls Tryd.prog 18 #[.slice A len cap, .string n] w fun e w' => e = .returned (.int .i64 (idxL (names L) n)) /\ w = w' := by
 have hlen : len <= 9223372036854775807 := by unfold maxLen at hcap; omega
 have HA := Lib.hid hA
 clear hA
 go_enter Tryd.func18, Tryd.ntmps18
 go_wp2_with fail
 go_loop [5] (fun i => ∃ k : Nat, k <= len /\ i = .int .i64 k /\ ∀ j, j < k -> (hj : j < (names L).length) -> ((names L)[j].toList == n.toList) = false) (fun i => len - (intOf i).toNat)
 case atStart => exact ⟨0, by omega, rfl, fun j h => absurd h (by omega)⟩
 case round =>
  obtain ⟨k, hk, rfl, hall⟩ := hrel
  have HALL := Lib.hid hall
  clear hall
  by_cases hlt : k < len
  ·
   obtain ⟨b, o, rfl, hbw, hrow⟩ := HA.out.at_ (by omega)
   have hks : k < L.length := by rw [HA.out.size]; exact hlt
   have hkn : k < (names L).length := by simpa [names] using hks
   have hnk : (names L)[k] = L[k].name := by simp [names]
   have c0 := (hrow k hks).1
   have HNK := Lib.hid hnk
   clear hrow hnk
   cases he : (L[k].name.toList == n.toList)
   ·
    go_wp2_with fail
    go_round
    case rel =>
     refine ⟨k + 1, by omega, by go_num, fun j hj hj' => ?_⟩
     by_cases hjk : j = k
     ·
      subst hjk; rw [HNK.out]; exact he
     exact HALL.out j (by omega) hj'
    case measure => simp [intOf]; omega
   go_wp2_with fail
   go_ret
   exact ⟨ret_i (idxL_at hkn (by rw [HNK.out]; exact he) HALL.out).symm, rfl⟩
  obtain rfl : k = len := by omega
  go_wp2_with fail
  go_ret
  exact ⟨ret_i (idxL_no (fun j hj => HALL.out j (by rw [<- HA.out.size]; simpa [names] using hj) hj)).symm, rfl⟩
def globF (gs : List ByteArray) (i : Nat) : Int := if freeB (gs.getD i ByteArray.empty) = false then 4 else if inL (gs.take i) (gs.getD i ByteArray.empty) = true then 7 else 0
def shpF (L : List Shp) (i : Nat) : Int :=
 match L[i]? with
 | none => 0
 | some x => if shapeF x.name x.ss ≠ 0 then shapeF x.name x.ss else if inL (names (L.take i)) x.name = true then 7 else 0
def envF (gs : List ByteArray) (L : List Shp) : Int :=
 if 40 < gs.length \/ 8 < L.length then 1
 else if firstErr ((List.range gs.length).map (globF gs)) ≠ 0 then firstErr ((List.range gs.length).map (globF gs))
 else firstErr ((List.range L.length).map (shpF L))
theorem envF_size {gs : List ByteArray} {L : List Shp} (h : 40 < gs.length \/ 8 < L.length) : envF gs L = 1 := by unfold envF; rw [if_pos h]
theorem envF_glob {gs : List ByteArray} {L : List Shp} (h : ¬ (40 < gs.length \/ 8 < L.length)) {k : Nat} {e : Int} (hk : k < gs.length) (hb : ∀ j, j < k -> globF gs j = 0) (he : globF gs k = e) (hne : e ≠ 0) : envF gs L = e := by
 have h1 : firstErr ((List.range gs.length).map (globF gs)) = e := by
  rw [firstErr_at (i := k) (by simpa using hk) (fun j hj => by simpa using hb j hj) (by simpa [he] using hne)]
  simpa using he
 unfold envF
 rw [if_neg h, h1, if_pos hne]
theorem globs_ok {gs : List ByteArray} (hb : ∀ j, j < gs.length -> globF gs j = 0) : firstErr ((List.range gs.length).map (globF gs)) = 0 := by
 rw [firstErr_zero]
 intro x hx
 obtain ⟨j, hj, rfl⟩ := List.mem_map.1 hx
 exact hb j (by simpa using hj)
theorem envF_shp {gs : List ByteArray} {L : List Shp} (h : ¬ (40 < gs.length \/ 8 < L.length)) (hg : ∀ j, j < gs.length -> globF gs j = 0) {k : Nat} {e : Int} (hk : k < L.length) (hb : ∀ j, j < k -> shpF L j = 0) (he : shpF L k = e) (hne : e ≠ 0) : envF gs L = e := by
 unfold envF
 rw [if_neg h, globs_ok hg, if_neg (by simp), firstErr_at (i := k) (by simpa using hk) (fun j hj => by simpa using hb j hj) (by simpa [he] using hne)]
 simpa using he
theorem envF_ok {gs : List ByteArray} {L : List Shp} (h : ¬ (40 < gs.length \/ 8 < L.length)) (hg : ∀ j, j < gs.length -> globF gs j = 0) (hb : ∀ j, j < L.length -> shpF L j = 0) : envF gs L = 0 := by
 unfold envF
 rw [if_neg h, globs_ok hg, if_neg (by simp), firstErr_zero]
 intro x hx
 obtain ⟨j, hj, rfl⟩ := List.mem_map.1 hx
 exact hb j (by simpa using hj)
/- Contract of unit.Check. -/
structure EnvAt (w : World) (G : Option Addr) (gl gc : Nat) (gs : List ByteArray) (S : Option Addr) (sl sc : Nat) (L : List Shp) : Prop where
 globs : zb1 w G gl gs
 each : ∀ s ∈ gs, s.size <= maxLen
 gle : gl <= gc
 gcap : gc <= maxLen
 shapes : zz w S sl L
 sle : sl <= sc
 scap : sc <= maxLen
theorem EnvAt.below {w w' : World} {G S : Option Addr} {gl gc sl sc : Nat} {gs : List ByteArray} {L : List Shp} (h : EnvAt w G gl gc gs S sl sc L) (hb : Below w.heap.size w w') : EnvAt w' G gl gc gs S sl sc L :=
 ⟨h.globs.below hb, h.each, h.gle, h.gcap, h.shapes.below hb, h.sle, h.scap⟩
structure InEnv (w wr : World) (G : Option Addr) (gl gc : Nat) (S : Option Addr) (sl sc : Nat) : Prop where
 c0 : wr.cell? ⟨w.heap.size, 0, none⟩ = some (.slice G gl gc)
 c1 : wr.cell? ⟨w.heap.size, 1, none⟩ = some (.slice S sl sc)
 lt : w.heap.size < wr.heap.size
 below : Below w.heap.size w wr
theorem InEnv.next {w wr w' : World} {G S : Option Addr} {gl gc sl sc : Nat} (h : InEnv w wr G gl gc S sl sc) (hb : Below wr.heap.size wr w') : InEnv w w' G gl gc S sl sc :=
 ⟨(hb.cell (p := ⟨w.heap.size, 0, none⟩) h.lt).trans h.c0, (hb.cell (p := ⟨w.heap.size, 1, none⟩) h.lt).trans h.c1, Nat.lt_of_lt_of_le h.lt hb.size, h.below.trans (hb.mono (Nat.le_of_lt h.lt))⟩
theorem InEnv.start (w : World) (G S : Option Addr) (gl gc sl sc : Nat) (t : TypeId) : InEnv w (w.alloc (.cells #[.slice G gl gc, .slice S sl sc] t)) G gl gc S sl sc :=
 ⟨za _ _ _ _, za _ _ _ _, by simp, (Below.refl _ _).alloc (Nat.le_refl _) _⟩
set_option maxHeartbeats 2000000 in
theorem envCheck_any (w : World) (G S : Option Addr) (gl gc sl sc : Nat) (gs : List ByteArray) (L : List Shp) (hE : EnvAt w G gl gc gs S sl sc L) (hm : UMaps w) :
  Calls Tryd.prog 7 #[.agg #[.slice G gl gc, .slice S sl sc]] w fun e w' => e = .returned (.int .i64 (envF gs L)) /\ Below w.heap.size w w' := by
 have hgl : gl <= 9223372036854775807 := by have := hE.gle; have := hE.gcap; unfold maxLen at this; omega
 have hsl : sl <= 9223372036854775807 := by have := hE.sle; have := hE.scap; unfold maxLen at this; omega
 have HE := Lib.hid hE
 have HM := Lib.hid hm
 have HIN := Lib.hid (InEnv.start w G S gl gc sl sc 26)
 clear hE hm
 by_cases hsz : 40 < gl \/ 8 < sl
 ·
  have HF := Lib.hid (envF_size (gs := gs) (L := L) (by rw [HE.out.globs.size, HE.out.shapes.size]; exact hsz))
  have hsz' : (40 < gl) \/ (¬ 40 < gl /\ 8 < sl) := by omega
  clear hsz
  rcases hsz' with h | ⟨h, h'⟩
  all_goals
   go_enter Tryd.func7, Tryd.ntmps7
   go_wp2_with fail
   go_ret
   exact ⟨ret_i HF.out.symm, HIN.out.below⟩
 have HSZ := Lib.hid (show ¬ (40 < gs.length \/ 8 < L.length) from by rw [HE.out.globs.size, HE.out.shapes.size]; exact hsz)
 have h40 : gl <= 40 := by omega
 have h8 : sl <= 8 := by omega
 clear hsz
 go_enter Tryd.func7, Tryd.ntmps7
 go_wp2_with fail
 go_loopg [21] gl (fun g i wr => ∃ k : Nat, g = gl - k /\ k <= gl /\ i = .int .i64 k /\ InEnv w wr G gl gc S sl sc /\ ∀ j, j < k -> globF gs j = 0)
 case atStart => exact ⟨0, by omega, by omega, rfl, HIN.out, fun j h => absurd h (by omega)⟩
 case round =>
  obtain ⟨k, hg, hk, rfl, hin, hall⟩ := hrel
  have HG := Lib.hid hg
  have HALL := Lib.hid hall
  have HI := Lib.hid hin
  have c0 := hin.c0
  have c1 := hin.c1
  have hlt0 := hin.lt
  clear hg hall hin
  by_cases hlt : k < gl
  ·
   obtain ⟨b, o, rfl, hbw, hrow⟩ := HE.out.globs.at_ (by omega)
   have hks : k < gs.length := by rw [HE.out.globs.size]; exact hlt
   have hc : wr.cell? ⟨b, o + k, none⟩ = some (.string gs[k]) := (HI.out.below.cell (p := ⟨b, o + k, none⟩) hbw).trans (hrow k hks)
   have hcs : gs[k].size <= maxLen := HE.out.each _ (List.getElem_mem hks)
   have HGD := Lib.hid (show gs.getD k ByteArray.empty = gs[k] from by simp [hks])
   clear hrow
   cases hn : freeB gs[k]
   ·
    have HK := Lib.hid (show globF gs k = 4 from by unfold globF; rw [HGD.out, if_pos hn])
    have HN := Lib.hid hn
    clear hn
    go_wp2_with fail
    refine (bindable_any gs[k] hcs wr (HM.out.below HI.out.below)).mono ?_
    rintro e w2 ⟨rfl, hb2⟩
    rw [HN.out]
    have HI2 := Lib.hid (HI.out.next hb2)
    clear hb2
    go_wp2_with fail
    go_ret
    exact ⟨ret_i (envF_glob HSZ.out hks HALL.out HK.out (by decide)).symm, HI2.out.below⟩
   have HN := Lib.hid hn
   clear hn
   have hkc : k <= gc := by have := HE.out.gle; omega
   have hcap : gc <= 9223372036854775807 := by have := HE.out.gcap; unfold maxLen at this; omega
   cases hin : inL (gs.take k) gs[k]
   all_goals
    have HK := Lib.hid (show globF gs k = if inL (gs.take k) gs[k] = true then 7 else 0 from by unfold globF; rw [HGD.out, HN.out]; rfl)
    have HINL := Lib.hid hin
    clear hin
    go_wp2_with fail
    refine (bindable_any gs[k] hcs wr (HM.out.below HI.out.below)).mono ?_
    rintro e w2 ⟨rfl, hb2⟩
    rw [HN.out]
    have HI2 := Lib.hid (HI.out.next hb2)
    have d0 := HI2.out.c0
    have hst : zb1 w2 (some ⟨b, o, none⟩) k (gs.take k) := (HE.out.globs.below HI2.out.below).take hk
    have HST := Lib.hid hst
    clear hst hb2
    go_wp2_with fail
    refine (contains_any gs[k] _ k gc (gs.take k) _ HE.out.gcap hkc HST.out).mono ?_
    rintro e w3 ⟨rfl, rfl⟩
    rw [HINL.out]
   ·
    have hg := HG.out
    go_wp2_with fail
    go_roundg (gl - (k + 1))
    case measure => omega
    case rel =>
     refine ⟨k + 1, rfl, by omega, by go_num, HI2.out, fun j hj => ?_⟩
     by_cases hjk : j = k
     ·
      subst hjk; rw [HK.out, HINL.out]; rfl
     exact HALL.out j (by omega)
   go_wp2_with fail
   go_ret
   exact ⟨ret_i (envF_glob (e := 7) HSZ.out hks HALL.out (by rw [HK.out, HINL.out]; rfl) (by decide)).symm, HI2.out.below⟩
  obtain rfl : k = gl := by omega
  have HGL := Lib.hid (show ∀ j, j < gs.length -> globF gs j = 0 from fun j hj => HALL.out j (by rw [<- HE.out.globs.size]; exact hj))
  have hskl : k <= 40 := h40
  have HI0 := HI
  clear HI HALL HG hk hlt
  go_wp2_with fail
  go_loopg [39] sl (fun g i wr => ∃ m : Nat, g = sl - m /\ m <= sl /\ i = .int .i64 m /\ InEnv w wr G k gc S sl sc /\ ∀ j, j < m -> shpF L j = 0)
  case atStart => exact ⟨0, by omega, by omega, rfl, HI0.out, fun j h => absurd h (by omega)⟩
  case round =>
   clear c0 c1 hlt0 HI0
   obtain ⟨m, hg, hm, rfl, hin, hall⟩ := hrel
   have HG := Lib.hid hg
   have HALL := Lib.hid hall
   have HI := Lib.hid hin
   have c0 := hin.c0
   have c1 := hin.c1
   have hlt0 := hin.lt
   clear hg hall hin
   by_cases hlt : m < sl
   ·
    obtain ⟨b, o, rfl, hbw, hrow⟩ := HE.out.shapes.at_ (by omega)
    have hms : m < L.length := by rw [HE.out.shapes.size]; exact hlt
    obtain ⟨x, hx⟩ : ∃ x, x = L[m] := ⟨_, rfl⟩
    have hxat : x.At w := by rw [hx]; exact HE.out.shapes.each _ (List.getElem_mem hms)
    have e0 : wr.cell? ⟨b, o + m * 2, none⟩ = some (.string x.name) := by rw [hx]; exact (HI.out.below.cell (p := ⟨b, o + m * 2, none⟩) hbw).trans (hrow m hms).1
    have e1 : wr.cell? ⟨b, o + m * 2 + 1, none⟩ = some (.slice x.A x.len x.cap) := by rw [hx]; exact (HI.out.below.cell (p := ⟨b, o + m * 2 + 1, none⟩) hbw).trans (hrow m hms).2
    have HX := Lib.hid (show L[m]? = some x from by rw [hx]; exact List.getElem?_eq_getElem hms)
    have HXA := Lib.hid hxat
    clear hrow hx hxat
    have hal : Below wr.heap.size wr (wr.alloc (.cells #[.string x.name, .slice x.A x.len x.cap] 53)) := (Below.refl _ _).alloc (Nat.le_refl _) _
    have HAL := Lib.hid hal
    have HI1 := Lib.hid (HI.out.next hal)
    clear hal
    obtain ⟨f, hf⟩ : ∃ f, f = shapeF x.name x.ss := ⟨_, rfl⟩
    have hfc : f = 0 \/ ¬ f = 0 := by omega
    have HFF := Lib.hid hf
    clear hf
    rcases hfc with hf0 | hf0
    ·
     have hf1 : (f != 0) = false := by simp [hf0]
     have HF0 := Lib.hid hf0
     clear hf0
     have hmc : m <= sc := by have := HE.out.sle; omega
     have hcap : sc <= 9223372036854775807 := by have := HE.out.scap; unfold maxLen at this; omega
     cases hin : inL (names (L.take m)) x.name
     all_goals
      have HK := Lib.hid (show shpF L m = if inL (names (L.take m)) x.name = true then 7 else 0 from by unfold shpF; rw [HX.out]; dsimp only; rw [<- HFF.out, HF0.out]; rfl)
      have HINL := Lib.hid hin
      clear hin
      go_wp2_with fail
      refine (checkShape_any _ x.name x.A x.len x.cap x.ss (ShapeAt.below HXA.out HI1.out.below) (HM.out.below HI1.out.below)).mono ?_
      rintro e w2 ⟨rfl, hb2⟩
      rw [<- HFF.out]
      have HI2 := Lib.hid (HI1.out.next hb2)
      have d0 := HI2.out.c0
      have d1 := HI2.out.c1
      have x0 : w2.cell? ⟨wr.heap.size, 0, none⟩ = some (.string x.name) := box_cell hb2 rfl
      have hwr2 : wr.heap.size < w2.heap.size := Nat.lt_of_lt_of_le (by simp) hb2.size
      have hst : zz w2 (some ⟨b, o, none⟩) m (L.take m) := (HE.out.shapes.below HI2.out.below).take hm
      have HST := Lib.hid hst
      clear hst hb2
      go_wp2_with fail
      refine (containsFunc_any x.name wr.heap.size 0 _ m sc (L.take m) _ HE.out.scap hmc HST.out x0 hwr2).mono ?_
      rintro e w3 ⟨rfl, hb3⟩
      rw [HINL.out]
      have HI3 := Lib.hid (HI2.out.next hb3)
      clear hb3
     ·
      have hg := HG.out
      go_wp2_with fail
      go_roundg (sl - (m + 1))
      case measure => omega
      case rel =>
       refine ⟨m + 1, rfl, by omega, by go_num, HI3.out, fun j hj => ?_⟩
       by_cases hjm : j = m
       ·
        subst hjm; rw [HK.out, HINL.out]; rfl
       exact HALL.out j (by omega)
     go_wp2_with fail
     go_ret
     exact ⟨ret_i (envF_shp (e := 7) HSZ.out HGL.out hms HALL.out (by rw [HK.out, HINL.out]; rfl) (by decide)).symm, HI3.out.below⟩
    have hf1 : (f != 0) = true := by simpa using hf0
    have HF0 := Lib.hid hf0
    have HK := Lib.hid (show shpF L m = f from by unfold shpF; rw [HX.out]; dsimp only; rw [<- HFF.out, if_pos hf0])
    clear hf0
    go_wp2_with fail
    refine (checkShape_any _ x.name x.A x.len x.cap x.ss (ShapeAt.below HXA.out HI1.out.below) (HM.out.below HI1.out.below)).mono ?_
    rintro e w2 ⟨rfl, hb2⟩
    rw [<- HFF.out]
    have HI2 := Lib.hid (HI1.out.next hb2)
    clear hb2
    go_wp2_with fail
    go_ret
    exact ⟨ret_i (envF_shp HSZ.out HGL.out hms HALL.out HK.out HF0.out).symm, HI2.out.below⟩
   obtain rfl : m = sl := by omega
   go_wp2_with fail
   go_ret
   exact ⟨ret_i (envF_ok HSZ.out HGL.out (fun j hj => HALL.out j (by rw [<- HE.out.shapes.size]; exact hj))).symm, HI.out.below⟩
/- Contract of grafteryref.EnvFault. -/
theorem InEnv.drewN {w wr : World} {G S : Option Addr} {gl gc sl sc : Nat} (h : InEnv w wr G gl gc S sl sc) (n : Nat) : InEnv w (wr.drewN n) G gl gc S sl sc := h.next (below_drewN (Below.refl _ _) n)
theorem zz.drewN {w : World} {A : Option Addr} {len : Nat} {L : List Shp} (h : zz w A len L) (n : Nat) : zz (w.drewN n) A len L := h.below (below_drewN (Below.refl _ _) n)
set_option maxHeartbeats 2000000 in
theorem envFault_any (w : World) (G S : Option Addr) (gl gc sl sc : Nat) (gs : List ByteArray) (L : List Shp) (hE : EnvAt w G gl gc gs S sl sc L) :
  Calls Tryd.prog 14 #[.agg #[.slice G gl gc, .slice S sl sc]] w fun e w' => e = .returned (.int .i64 (envF gs L)) /\ Below w.heap.size w w' := by
 have hgl : gl <= 9223372036854775807 := by have := hE.gle; have := hE.gcap; unfold maxLen at this; omega
 have hsl : sl <= 9223372036854775807 := by have := hE.sle; have := hE.scap; unfold maxLen at this; omega
 have HE := Lib.hid hE
 have HIN := Lib.hid (InEnv.start w G S gl gc sl sc 26)
 clear hE
 by_cases hsz : 40 < gl \/ 8 < sl
 ·
  have HF := Lib.hid (envF_size (gs := gs) (L := L) (by rw [HE.out.globs.size, HE.out.shapes.size]; exact hsz))
  have hsz' : (40 < gl) \/ (¬ 40 < gl /\ 8 < sl) := by omega
  clear hsz
  rcases hsz' with h | ⟨h, h'⟩
  all_goals
   go_enter Tryd.func14, Tryd.ntmps14
   go_wp2_with fail
   go_ret
   exact ⟨ret_i HF.out.symm, HIN.out.below⟩
 have HSZ := Lib.hid (show ¬ (40 < gs.length \/ 8 < L.length) from by rw [HE.out.globs.size, HE.out.shapes.size]; exact hsz)
 have h40 : gl <= 40 := by omega
 have h8 : sl <= 8 := by omega
 clear hsz
 go_enter Tryd.func14, Tryd.ntmps14
 go_wp2_with fail
 go_loopg [3] gl (fun g i wr => ∃ k : Nat, g = gl - k /\ k <= gl /\ i = .int .i64 k /\ InEnv w wr G gl gc S sl sc /\ ∀ j, j < k -> globF gs j = 0)
 case atStart => exact ⟨0, by omega, by omega, rfl, HIN.out, fun j h => absurd h (by omega)⟩
 case round =>
  obtain ⟨k, hg, hk, rfl, hin, hall⟩ := hrel
  have HG := Lib.hid hg
  have HALL := Lib.hid hall
  have HI := Lib.hid hin
  have c0 := hin.c0
  have c1 := hin.c1
  have hlt0 := hin.lt
  clear hg hall hin
  by_cases hlt : k < gl
  ·
   obtain ⟨b, o, rfl, hbw, hrow⟩ := HE.out.globs.at_ (by omega)
   have hks : k < gs.length := by rw [HE.out.globs.size]; exact hlt
   have hc : wr.cell? ⟨b, o + k, none⟩ = some (.string gs[k]) := (HI.out.below.cell (p := ⟨b, o + k, none⟩) hbw).trans (hrow k hks)
   have hcs : gs[k].size <= maxLen := HE.out.each _ (List.getElem_mem hks)
   have HGD := Lib.hid (show gs.getD k ByteArray.empty = gs[k] from by simp [hks])
   clear hrow
   cases hn : freeB gs[k]
   ·
    have HK := Lib.hid (show globF gs k = 4 from by unfold globF; rw [HGD.out, if_pos hn])
    have HN := Lib.hid hn
    clear hn
    go_wp2_with fail
    refine (freeName_any gs[k] hcs wr).mono ?_
    rintro e w2 ⟨rfl, hb2⟩
    rw [HN.out]
    have HI2 := Lib.hid (HI.out.next hb2)
    clear hb2
    go_wp2_with fail
    go_ret
    exact ⟨ret_i (envF_glob HSZ.out hks HALL.out HK.out (by decide)).symm, HI2.out.below⟩
   have HN := Lib.hid hn
   clear hn
   have hkc : k <= gc := by have := HE.out.gle; omega
   have hcap : gc <= 9223372036854775807 := by have := HE.out.gcap; unfold maxLen at this; omega
   cases hin : inL (gs.take k) gs[k]
   all_goals
    have HK := Lib.hid (show globF gs k = if inL (gs.take k) gs[k] = true then 7 else 0 from by unfold globF; rw [HGD.out, HN.out]; rfl)
    have HINL := Lib.hid hin
    clear hin
    go_wp2_with fail
    refine (freeName_any gs[k] hcs wr).mono ?_
    rintro e w2 ⟨rfl, hb2⟩
    rw [HN.out]
    have HI2 := Lib.hid (HI.out.next hb2)
    have d0 := HI2.out.c0
    have hst : zb1 w2 (some ⟨b, o, none⟩) k (gs.take k) := (HE.out.globs.below HI2.out.below).take hk
    have HST := Lib.hid hst
    have hc2 : w2.cell? ⟨b, o + k, none⟩ = some (.string gs[k]) := (hb2.cell (p := ⟨b, o + k, none⟩) (show b < wr.heap.size by omega)).trans hc
    have HCA := HE.out.gcap
    have hki : (k : Int) < (gl : Int) := by omega
    have hkci : (k : Int) <= (gc : Int) := by omega
    clear hst hb2
    go_wp2_with fail
    go_quiet ((go_at_call 20; exact Calls.quiet_of_same ((isIn_any gs[k] _ k gc (gs.take k) _ HCA hkc (zb1.drewN HST.out _)).mono (fun _ _ h => ⟨h.1, h.2.symm⟩))))
    rw [HINL.out]
   ·
    have hg := HG.out
    go_wp2_with fail
    go_roundg (gl - (k + 1))
    case measure => omega
    case rel =>
     refine ⟨k + 1, rfl, by omega, by go_num, HI2.out.drewN _, fun j hj => ?_⟩
     by_cases hjk : j = k
     ·
      subst hjk; rw [HK.out, HINL.out]; rfl
     exact HALL.out j (by omega)
   go_wp2_with fail
   go_ret
   exact ⟨ret_i (envF_glob (e := 7) HSZ.out hks HALL.out (by rw [HK.out, HINL.out]; rfl) (by decide)).symm, below_drewN HI2.out.below _⟩
  obtain rfl : k = gl := by omega
  have HGL := Lib.hid (show ∀ j, j < gs.length -> globF gs j = 0 from fun j hj => HALL.out j (by rw [<- HE.out.globs.size]; exact hj))
  have hskl : k <= 40 := h40
  have HI0 := HI
  clear HI HALL HG hk hlt
  go_wp2_with fail
  go_loopg [4] sl (fun g i wr => ∃ m : Nat, g = sl - m /\ m <= sl /\ i = .int .i64 m /\ InEnv w wr G k gc S sl sc /\ ∀ j, j < m -> shpF L j = 0)
  case atStart => exact ⟨0, by omega, by omega, rfl, HI0.out, fun j h => absurd h (by omega)⟩
  case round =>
   clear c0 c1 hlt0 HI0
   obtain ⟨m, hg, hm, rfl, hin, hall⟩ := hrel
   have HG := Lib.hid hg
   have HALL := Lib.hid hall
   have HI := Lib.hid hin
   have c0 := hin.c0
   have c1 := hin.c1
   have hlt0 := hin.lt
   clear hg hall hin
   by_cases hlt : m < sl
   ·
    obtain ⟨b, o, rfl, hbw, hrow⟩ := HE.out.shapes.at_ (by omega)
    have hms : m < L.length := by rw [HE.out.shapes.size]; exact hlt
    obtain ⟨x, hx⟩ : ∃ x, x = L[m] := ⟨_, rfl⟩
    have hxat : x.At w := by rw [hx]; exact HE.out.shapes.each _ (List.getElem_mem hms)
    have e0 : wr.cell? ⟨b, o + m * 2, none⟩ = some (.string x.name) := by rw [hx]; exact (HI.out.below.cell (p := ⟨b, o + m * 2, none⟩) hbw).trans (hrow m hms).1
    have e1 : wr.cell? ⟨b, o + m * 2 + 1, none⟩ = some (.slice x.A x.len x.cap) := by rw [hx]; exact (HI.out.below.cell (p := ⟨b, o + m * 2 + 1, none⟩) hbw).trans (hrow m hms).2
    have HX := Lib.hid (show L[m]? = some x from by rw [hx]; exact List.getElem?_eq_getElem hms)
    have HXA := Lib.hid hxat
    clear hrow hx hxat
    have HI1 := HI
    obtain ⟨f, hf⟩ : ∃ f, f = shapeF x.name x.ss := ⟨_, rfl⟩
    have hfc : f = 0 \/ ¬ f = 0 := by omega
    have HFF := Lib.hid hf
    clear hf
    rcases hfc with hf0 | hf0
    ·
     have hf1 : (f != 0) = false := by simp [hf0]
     have HF0 := Lib.hid hf0
     clear hf0
     have hmc : m <= sc := by have := HE.out.sle; omega
     have hcap : sc <= 9223372036854775807 := by have := HE.out.scap; unfold maxLen at this; omega
     cases hin : inL (names (L.take m)) x.name
     all_goals
      have HK := Lib.hid (show shpF L m = if inL (names (L.take m)) x.name = true then 7 else 0 from by unfold shpF; rw [HX.out]; dsimp only; rw [<- HFF.out, HF0.out]; rfl)
      have HINL := Lib.hid hin
      clear hin
      go_wp2_with fail
      refine (shapeFault_any _ x.name x.A x.len x.cap x.ss (ShapeAt.below HXA.out HI1.out.below)).mono ?_
      rintro e w2 ⟨rfl, hb2⟩
      rw [<- HFF.out]
      have HI2 := Lib.hid (HI1.out.next hb2)
      have d0 := HI2.out.c0
      have d1 := HI2.out.c1
      have x0 : w2.cell? ⟨b, o + m * 2, none⟩ = some (.string x.name) := (hb2.cell (p := ⟨b, o + m * 2, none⟩) (show b < wr.heap.size by omega)).trans e0
      have hst : zz w2 (some ⟨b, o, none⟩) m (L.take m) := (HE.out.shapes.below HI2.out.below).take hm
      have HST := Lib.hid hst
      clear hst hb2
      go_wp2_with fail
      have HCA := HE.out.scap
      have hki : (m : Int) < (sl : Int) := by omega
      have hkci : (m : Int) <= (sc : Int) := by omega
      go_quiet ((go_at_call 18; exact Calls.quiet_of_same ((shapeAt_any x.name _ m sc (L.take m) _ HCA hmc (zz.drewN HST.out _)).mono (fun _ _ h => ⟨h.1, h.2.symm⟩))))
      rw [idxL_in, HINL.out]
     ·
      have hg := HG.out
      go_wp2_with fail
      go_roundg (sl - (m + 1))
      case measure => omega
      case rel =>
       refine ⟨m + 1, rfl, by omega, by go_num, HI2.out.drewN _, fun j hj => ?_⟩
       by_cases hjm : j = m
       ·
        subst hjm; rw [HK.out, HINL.out]; rfl
       exact HALL.out j (by omega)
     go_wp2_with fail
     go_ret
     exact ⟨ret_i (envF_shp (e := 7) HSZ.out HGL.out hms HALL.out (by rw [HK.out, HINL.out]; rfl) (by decide)).symm, below_drewN HI2.out.below _⟩
    have hf1 : (f != 0) = true := by simpa using hf0
    have HF0 := Lib.hid hf0
    have HK := Lib.hid (show shpF L m = f from by unfold shpF; rw [HX.out]; dsimp only; rw [<- HFF.out, if_pos hf0])
    clear hf0
    go_wp2_with fail
    refine (shapeFault_any _ x.name x.A x.len x.cap x.ss (ShapeAt.below HXA.out HI1.out.below)).mono ?_
    rintro e w2 ⟨rfl, hb2⟩
    rw [<- HFF.out]
    have HI2 := Lib.hid (HI1.out.next hb2)
    clear hb2
    go_wp2_with fail
    go_ret
    exact ⟨ret_i (envF_shp HSZ.out HGL.out hms HALL.out HK.out HF0.out).symm, HI2.out.below⟩
   obtain rfl : m = sl := by omega
   go_wp2_with fail
   go_ret
   exact ⟨ret_i (envF_ok HSZ.out HGL.out (fun j hj => HALL.out j (by rw [<- HE.out.shapes.size]; exact hj))).symm, HI.out.below⟩
/- The plain law of unit.Form: what data are formed to (no program in sight). -/
open Go.RowKit Go.ChangeShapes Go.WideShapes Go.Deep
inductive Dt where
 | mk (k n : Int) (s : ByteArray) (l : List Dt)
def Dt.k : Dt -> Int | .mk k _ _ _ => k
def Dt.n : Dt -> Int | .mk _ n _ _ => n
def Dt.s : Dt -> ByteArray | .mk _ _ s _ => s
def Dt.l : Dt -> List Dt | .mk _ _ _ l => l
def dt0 : Dt := .mk 0 0 ⟨#[]⟩ []
inductive Ex where
 | mk (kind : Int) (d : Dt) (s : ByteArray) (n : Int) (names : List ByteArray) (args : List Ex)
inductive Fd (α : Type) where
 | ok (x : α)
 | err (e : Int)
def Good : Nat -> Dt -> Prop
 | 0, _ => False
 | r + 1, d => ((1 <= d.k /\ d.k <= 4) /\ (d.k = 3 -> nameB d.s.data.toList = true) /\ d.s.size <= maxLen /\ d.l.length <= 1048576) /\ ∀ x ∈ d.l, Good r x
theorem Good.up : {r : Nat} -> {d : Dt} -> Good r d -> Good (r + 1) d
 | 0, _, h => h.elim
 | r + 1, d, h => ⟨h.1, fun x hx => (h.2 x hx).up⟩
theorem Good.item {r : Nat} {d x : Dt} (h : Good (r + 1) d) (hx : x ∈ d.l) : Good r x := h.2 x hx
theorem Good.low {r : Nat} {d x : Dt} (h : Good r d) (hx : x ∈ d.l) : Good r x := by
 cases r with
 | zero => exact h.elim
 | succ r => exact (h.item hx).up
theorem Good.head {r : Nat} {d : Dt} (h : Good r d) : (1 <= d.k /\ d.k <= 4) /\ (d.k = 3 -> nameB d.s.data.toList = true) /\ d.s.size <= maxLen /\ d.l.length <= 1048576 := by
 cases r with
 | zero => exact h.elim
 | succ r => exact h.1
theorem Good.kind {r : Nat} {d : Dt} (h : Good r d) : 1 <= d.k /\ d.k <= 4 := h.head.1
theorem Good.name {r : Nat} {d : Dt} (h : Good r d) (hk : d.k = 3) : nameB d.s.data.toList = true := h.head.2.1 hk
theorem Good.wide {r : Nat} {d : Dt} (h : Good r d) : d.s.size <= maxLen := h.head.2.2.1
theorem Good.len {r : Nat} {d : Dt} (h : Good r d) : d.l.length <= 1048576 := h.head.2.2.2
def bindB (d : Dt) : Bool := d.k == 3 && (!isKw d.s.toList && decide (primN d.s.toList < 0))
def bindF : List ByteArray -> List Dt -> Fd (List ByteArray)
 | out, [] => .ok out
 | out, d :: l => if bindB d = true then (if inL out d.s = true then .err 7 else bindF (out ++ [d.s]) l) else .err 4
def boundF (k : Int) (l : List Dt) : Fd (List ByteArray) := if k = 4 then (if 6 < l.length then .err 10 else bindF [] l) else .err 4
theorem bindF_len : (l : List Dt) -> (out xs : List ByteArray) -> bindF out l = .ok xs -> xs.length = out.length + l.length
 | [], out, xs, h => by simp only [bindF] at h; cases h; simp
 | d :: l, out, xs, h => by
  simp only [bindF] at h
  split at h
  ·
   split at h
   ·
    cases h
   have := bindF_len l _ _ h
   simp at this ⊢
   omega
  cases h
theorem boundF_len {k : Int} {l : List Dt} {xs : List ByteArray} (h : boundF k l = .ok xs) : xs.length <= 6 := by
 unfold boundF at h
 split at h
 ·
  split at h
  ·
   cases h
  have := bindF_len _ _ _ h
  simp at this
  omega
 cases h
def allF (rec : Dt -> Fd Ex) : List Dt -> Fd (List Ex)
 | [] => .ok []
 | d :: l => match rec d with
  | .err e => .err e
  | .ok x => match allF rec l with
   | .err e => .err e
   | .ok xs => .ok (x :: xs)
theorem allF_append (rec : Dt -> Fd Ex) : (l m : List Dt) -> allF rec (l ++ m) = match allF rec l with
  | .err e => .err e
  | .ok xs => match allF rec m with
   | .err e => .err e
   | .ok ys => .ok (xs ++ ys)
 | [], m => by
  simp only [List.nil_append, allF]
  cases allF rec m <;> rfl
 | d :: l, m => by
  have h := allF_append rec l m
  simp only [List.cons_append, allF, h]
  cases rec d with
  | err e => rfl
  | ok x =>
   cases allF rec l with
   | err e => rfl
   | ok xs =>
    cases allF rec m <;> rfl
theorem allF_snoc_ok {rec : Dt -> Fd Ex} {l : List Dt} {d : Dt} {xs : List Ex} {x : Ex} (h : allF rec l = .ok xs) (hx : rec d = .ok x) : allF rec (l ++ [d]) = .ok (xs ++ [x]) := by
 rw [allF_append, h]; simp only [allF, hx]
theorem allF_snoc_err {rec : Dt -> Fd Ex} {l : List Dt} {d : Dt} {xs : List Ex} {e : Int} (h : allF rec l = .ok xs) (hx : rec d = .err e) (m : List Dt) : allF rec (l ++ d :: m) = .err e := by
 rw [allF_append, h]; simp only [allF, hx]
structure Pl where
 globals : List ByteArray
 shapes : List (ByteArray × List ByteArray)
 old : List ByteArray
 up : Bool
def eC (d : Dt) : Ex := .mk 1 d ⟨#[]⟩ 0 [] []
def eK (k : Int) (s : ByteArray) (args : List Ex) : Ex := .mk k dt0 s 0 [] args
def mapF {α β : Type} (f : α -> β) : Fd α -> Fd β
 | .ok x => .ok (f x)
 | .err e => .err e
def namedF (p : Pl) (ls : List ByteArray) (s : ByteArray) : Fd Ex :=
 if inL ls s = true then .ok (eK 2 s [])
 else if isKw s.toList = true \/ 0 <= primN s.toList then .err 4
 else if p.up = true then .err 15
 else if inL p.globals s = true then .ok (eK 3 s [])
 else .err 6
def bodyF (rec : List ByteArray -> Dt -> Fd Ex) (ls : List ByteArray) (l : List Dt) : Fd Ex :=
 match l with
 | [] => .err 10
 | d :: m => if 40 < ls.length then .err 1 else match m with
  | [] => rec ls d
  | _ :: _ => mapF (eK 7 ⟨#[]⟩) (allF (rec ls) l)
def opF (nm : ByteArray) (fs : List ByteArray) (s : ByteArray) (n : Nat) : Option (Int × Nat × List ByteArray) :=
 if s.toList = nm.toList then some (11, n, [])
 else if s.toList = nm.toList ++ [63] then some (12, 1, [])
 else match fs.find? (fun f => s.toList == nm.toList ++ 45 :: f.toList) with
  | some f => some (13, 1, [f])
  | none => match fs.find? (fun f => s.toList == nm.toList ++ 45 :: (f.toList ++ [33])) with
   | some f => some (14, 2, [f])
   | none => none
def recF (rec : Dt -> Fd Ex) (s : ByteArray) (rest : List Dt) : List (ByteArray × List ByteArray) -> Fd Ex
 | [] => .err 6
 | r :: sh => match opF r.1 r.2 s rest.length with
  | none => recF rec s rest sh
  | some (k, want, names) => if want ≠ rest.length \/ 6 < want then .err 10 else mapF (fun xs => .mk k dt0 r.1 0 names xs) (allF rec rest)
def wQuote : List UInt8 := [113, 117, 111, 116, 101]
def wIf : List UInt8 := [105, 102]
def wLet : List UInt8 := [108, 101, 116]
def wLambda : List UInt8 := [108, 97, 109, 98, 100, 97]
def wBegin : List UInt8 := [98, 101, 103, 105, 110]
def wSet : List UInt8 := [115, 101, 116, 33]
def wWas : List UInt8 := [119, 97, 115]
def wRecord : List UInt8 := [114, 101, 99, 111, 114, 100]
def wDefine : List UInt8 := [100, 101, 102, 105, 110, 101]
def wUpgrade : List UInt8 := [117, 112, 103, 114, 97, 100, 101]
def twoB (d : Dt) : Bool := d.k == 4 && d.l.length == 2
def firstD (d : Dt) : Dt := d.l.headD dt0
def secondD (d : Dt) : Dt := d.l.tail.headD dt0
def letF (rec : List ByteArray -> Dt -> Fd Ex) (ls : List ByteArray) : List Dt -> Fd Ex
 | h :: b :: m =>
  if h.l.all twoB = true then match boundF h.k (h.l.map firstD) with
   | .err e => .err e
   | .ok ns => match allF (rec ls) (h.l.map secondD) with
    | .err e => .err e
    | .ok xs => mapF (fun y => .mk 5 dt0 ⟨#[]⟩ 0 ns (xs ++ [y])) (bodyF rec (ls ++ ns) (b :: m))
  else .err 4
 | _ => .err 10
def lambdaF (rec : List ByteArray -> Dt -> Fd Ex) (ls : List ByteArray) : List Dt -> Fd Ex
 | h :: b :: m => match boundF h.k h.l with
  | .err e => .err e
  | .ok ns => mapF (fun y => .mk 6 dt0 ⟨#[]⟩ 0 ns [y]) (bodyF rec (ls ++ ns) (b :: m))
 | _ => .err 10
def setF (p : Pl) (rec : List ByteArray -> Dt -> Fd Ex) (ls : List ByteArray) : List Dt -> Fd Ex
 | [h, b] => if h.k = 3 then match namedF p ls h.s with
   | .err e => .err e
   | .ok _ => mapF (fun y => .mk 8 dt0 h.s (if inL ls h.s = true then 1 else 0) [] [y]) (rec ls b)
  else .err 4
 | _ => .err 10
def wasF (p : Pl) : List Dt -> Fd Ex
 | [h] => if p.up = true /\ h.k = 3 then (if idxL p.old h.s < 0 then .err 6 else .ok (.mk 15 dt0 ⟨#[]⟩ (idxL p.old h.s) [] [])) else .err 4
 | _ => .err 4
def wordF (p : Pl) (rec : List ByteArray -> Dt -> Fd Ex) (ls : List ByteArray) (w : List UInt8) (rest : List Dt) : Fd Ex :=
 if p.up = true /\ w ≠ wQuote /\ w ≠ wIf /\ w ≠ wWas then .err 15
 else if w = wQuote then (match rest with | [d] => .ok (eC d) | _ => .err 10)
 else if w = wIf then (if rest.length = 3 then mapF (eK 4 ⟨#[]⟩) (allF (rec ls) rest) else .err 10)
 else if w = wLet then letF rec ls rest
 else if w = wLambda then lambdaF rec ls rest
 else if w = wBegin then bodyF rec ls rest
 else if w = wSet then setF p rec ls rest
 else if w = wWas then wasF p rest
 else .err 4
def callF (p : Pl) (rec : Dt -> Fd Ex) (l : List Dt) : Fd Ex :=
 if p.up = true then .err 15 else if 7 < l.length then .err 10 else mapF (eK 9 ⟨#[]⟩) (allF rec l)
def formF (p : Pl) (rec : List ByteArray -> Dt -> Fd Ex) (ls : List ByteArray) (d : Dt) : Fd Ex :=
 if d.k = 1 \/ d.k = 2 then .ok (eC d)
 else if d.k = 3 then namedF p ls d.s
 else match d.l with
  | [] => .err 4
  | h :: rest =>
   if h.k ≠ 3 \/ inL ls h.s = true then callF p (rec ls) (h :: rest)
   else if isKw h.s.toList = true then wordF p rec ls h.s.toList rest
   else if 0 <= primN h.s.toList then (if primN h.s.toList = rest.length then mapF (eK 10 h.s) (allF (rec ls) rest) else .err 10)
   else if p.up = true then .err 15
   else if inL p.globals h.s = true then callF p (rec ls) (h :: rest)
   else recF (rec ls) h.s rest p.shapes
def formed (p : Pl) : Nat -> List ByteArray -> Dt -> Fd Ex
 | 0, _, _ => .err 0
 | n + 1, ls, d => formF p (formed p n) ls d
def headF (d : Dt) : Option (ByteArray × List Dt) := match d.l with
 | h :: b :: m => if d.k = 4 /\ h.k = 3 then some (h.s, b :: m) else none
 | _ => none
abbrev Sh := ByteArray × List ByteArray
def shapeT : List Dt -> Fd Sh
 | [] => .err 4
 | h :: fs => if bindB h = true then (if fs.all (fun x => x.k == 3) = true then (if shapeF h.s (fs.map Dt.s) = 0 then .ok (h.s, fs.map Dt.s) else .err (shapeF h.s (fs.map Dt.s))) else .err 4) else .err 4
def defT : List Dt -> Option ByteArray
 | [] => none
 | h :: m => if h.k = 4 then (match h.l with
   | [] => none
   | g :: _ => if bindB g = true /\ 1 <= m.length then some g.s else none)
  else if bindB h = true /\ m.length = 1 then some h.s else none
def zt (st : List Sh × List ByteArray) (d : Dt) : Fd (List Sh × List ByteArray) :=
 match headF d with
 | none => .err 4
 | some (w, rest) =>
  if w.toList = wRecord then (match shapeT rest with
   | .err e => .err e
   | .ok s => if inL (st.1.map (·.1)) s.1 = true then .err 7 else .ok (st.1 ++ [s], st.2))
  else if w.toList = wDefine then (match defT rest with
   | none => .err 4
   | some n => if inL st.2 n = true then .err 7 else .ok (st.1, st.2 ++ [n]))
  else if w.toList = wUpgrade then .ok st
  else .err 4
inductive Rn (α : Type) where
 | ok (x : α)
 | bad (i : Nat) (e : Int)
def runT {σ : Type} (f : σ -> Dt -> Fd σ) : σ -> Nat -> List Dt -> Rn σ
 | st, _, [] => .ok st
 | st, i, d :: l => match f st d with
  | .err e => .bad i e
  | .ok st' => runT f st' (i + 1) l
theorem runT_snoc_ok {σ : Type} {f : σ -> Dt -> Fd σ} : (l : List Dt) -> (st : σ) -> (i : Nat) -> (d : Dt) -> (a b : σ) -> runT f st i l = .ok a -> f a d = .ok b -> runT f st i (l ++ [d]) = .ok b
 | [], st, i, d, a, b, h, hd => by
  simp only [runT] at h
  cases h
  simp only [List.nil_append, runT, hd]
 | c :: l, st, i, d, a, b, h, hd => by
  cases hc : f st c with
  | err e => simp only [runT, hc] at h; cases h
  | ok st' =>
   simp only [runT, hc, List.cons_append] at h ⊢
   exact runT_snoc_ok l _ _ _ _ _ h hd
theorem runT_bad {σ : Type} {f : σ -> Dt -> Fd σ} : (l : List Dt) -> (st : σ) -> (i : Nat) -> (d : Dt) -> (m : List Dt) -> (a : σ) -> (e : Int) -> runT f st i l = .ok a -> f a d = .err e -> runT f st i (l ++ d :: m) = .bad (i + l.length) e
 | [], st, i, d, m, a, e, h, hd => by
  simp only [runT] at h
  cases h
  simp only [List.nil_append, runT, hd]
  rfl
 | c :: l, st, i, d, m, a, e, h, hd => by
  cases hc : f st c with
  | err e' => simp only [runT, hc] at h; cases h
  | ok st' =>
   simp only [runT, hc, List.cons_append] at h ⊢
   rw [runT_bad l _ _ _ _ _ _ h hd, List.length_cons]
   congr 1
   omega
def defX (p : Pl) : List Dt -> Fd Ex
 | h :: b :: m => if h.k = 3 then formed p 40 [] b else (match h.l with
   | [] => .err 4
   | _ :: ps => match boundF 4 ps with
    | .err e => .err e
    | .ok ns => mapF (fun y => .mk 6 dt0 ⟨#[]⟩ 0 ns [y]) (bodyF (formed p 40) ns (b :: m)))
 | _ => .err 4
def fieldsAt (l : List Sh) (s : ByteArray) : List ByteArray := (l.getD (idxL (l.map (·.1)) s).toNat (⟨#[]⟩, [])).2
def upX (vsh ush : List Sh) (ups : List (ByteArray × List Ex)) : List Dt -> Fd (ByteArray × List Ex)
 | [] => .err 6
 | h :: es =>
  if h.k = 3 /\ inL (vsh.map (·.1)) h.s = true /\ inL (ush.map (·.1)) h.s = true then
   if inL (ups.map (·.1)) h.s = true then .err 7
   else if es.length ≠ (fieldsAt ush h.s).length then .err 10
   else mapF (fun xs => (h.s, xs)) (allF (formed ⟨[], [], fieldsAt vsh h.s, true⟩ 40 []) es)
  else .err 6
abbrev Un := List (ByteArray × Ex) × List (ByteArray × List Ex)
def topT (p : Pl) (vsh ush : List Sh) (st : Un) (d : Dt) : Fd Un :=
 match headF d with
 | none => .ok st
 | some (w, rest) =>
  if w.toList = wDefine then mapF (fun x => (st.1 ++ [((defT rest).getD ⟨#[]⟩, x)], st.2)) (defX p rest)
  else if w.toList = wUpgrade then mapF (fun x => (st.1, st.2 ++ [x])) (upX vsh ush st.2 rest)
  else .ok st
def addNew (gs : List ByteArray) (n : ByteArray) : List ByteArray := if inL gs n = true then gs else gs ++ [n]
end Go.Proofs.YtjmeodadkjcmmaaDoor
