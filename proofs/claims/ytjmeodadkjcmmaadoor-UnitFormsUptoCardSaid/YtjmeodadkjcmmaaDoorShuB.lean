import Derived.Test.YtjmeodadkjcmmaaDoorShuA
import Derived.Deep.RegionHeld3
import Derived.Deep.DeepCutAuto
namespace Go.Proofs.YtjmeodadkjcmmaaDoor
namespace Sh
open Go.RowKit Go.ChangeShapes Go.WideShapes Go.Deep Go.ChangeAt Go.Shelf
set_option linter.unusedVariables false
set_option maxRecDepth 20000
def Fr (w : World) (x : Shp) : Prop := ∀ a, x.A = some a -> 0 < x.len -> w.heap.size <= a.block
def NewShp (wr wx : World) (nm : ByteArray) (ss : List ByteArray) (v : Value) : Prop := ∃ (p : Nat) (x : Shp), v = .pointer (some ⟨p, 0, none⟩) /\ wr.heap.size <= p /\ p < wx.heap.size /\ x.name = nm /\ x.ss = ss /\ wx.cell? ⟨p, 0, none⟩ = some (.string x.name) /\ wx.cell? ⟨p, 1, none⟩ = some (.slice x.A x.len x.cap) ∧
 x.At wx /\ (∀ a, x.A = some a -> 0 < x.len -> wr.heap.size <= a.block) /\ Below wr.heap.size wr wx
theorem grown_setCell (w : World) (g j : Nat) (u : Value) : w.grownBy (w.setCell ⟨g, j, none⟩ u) (some g) := zd w g j u
theorem newShp_1 {wb w3 : World} {nm : ByteArray} {A4 : Option Addr} {ls c4 : Nat} {ss : List ByteArray} {T : TypeId} (hb : Below wb.heap.size wb w3) (hst : zb1 w3 A4 ls ss) (hfr : ∀ a, A4 = some a -> wb.heap.size <= a.block)
  (hw : nm.size <= maxLen) (he : ∀ s ∈ ss, s.size <= maxLen) (hl : ls <= c4) (hm : c4 <= maxLen) : NewShp wb (w3.alloc (.cells #[.string nm, .slice A4 ls c4] T)) nm ss (.pointer (some ⟨w3.heap.size, 0, none⟩)) :=
 ⟨w3.heap.size, ⟨nm, A4, ls, c4, ss⟩, rfl, hb.size, by simp, rfl, rfl, za _ _ _ 0, za _ _ _ 1, ⟨rfl, hw, hst.below ((Below.refl _ _).alloc (Nat.le_refl _) _), he, hl, hm⟩, fun a ha _ => hfr a ha, hb.alloc hb.size _⟩
theorem newShp_2 {wb w3 : World} {nm : ByteArray} {A4 : Option Addr} {ls c4 : Nat} {ss : List ByteArray} {cs : Array Value} {T : TypeId} {u0 u1 : Value} (hc0 : cs[0]? = some u0) (hc1 : cs[1]? = some u1) (hb : Below (wb.drew.alloc (.cells cs T)).heap.size (wb.drew.alloc (.cells cs T)) w3) (hst : zb1 w3 A4 ls ss) (hfr : ∀ a, A4 = some a -> (wb.drew.alloc (.cells cs T)).heap.size <= a.block)
  (hw : nm.size <= maxLen) (he : ∀ s ∈ ss, s.size <= maxLen) (hl : ls <= c4) (hm : c4 <= maxLen) :
  NewShp wb ((w3.setCell ⟨wb.heap.size, 0, none⟩ (.string nm)).setCell ⟨wb.heap.size, 1, none⟩ (.slice A4 ls c4)) nm ss (.pointer (some ⟨wb.heap.size, 0, none⟩)) := by
 have hz : (wb.drew.alloc (.cells cs T)).heap.size = wb.heap.size + 1 := by simp
 have hsz : wb.heap.size < w3.heap.size := by have := hb.size; omega
 have e0 : w3.cell? ⟨wb.heap.size, 0, none⟩ = some u0 := (hb.cell (p := ⟨wb.heap.size, 0, none⟩) (by show wb.heap.size < _; omega)).trans ((za wb.drew cs T 0).trans hc0)
 have e1 : w3.cell? ⟨wb.heap.size, 1, none⟩ = some u1 := (hb.cell (p := ⟨wb.heap.size, 1, none⟩) (by show wb.heap.size < _; omega)).trans ((za wb.drew cs T 1).trans hc1)
 have hbw : Below wb.heap.size wb w3 := (((Below.refl wb.heap.size wb).drew).alloc (Nat.le_refl _) _).trans (hb.mono (by omega))
 refine ⟨wb.heap.size, ⟨nm, A4, ls, c4, ss⟩, rfl, Nat.le_refl _, by simpa using hsz, rfl, rfl, ?_, ?_, ⟨rfl, hw, ?_, he, hl, hm⟩, fun a ha _ => by have := hfr a ha; omega, (hbw.setCell (Nat.le_refl _) _).setCell (Nat.le_refl _) _⟩
 ·
  have h1 : (⟨wb.heap.size, 1, none⟩ : Addr) ≠ ⟨wb.heap.size, 0, none⟩ := by simp
  exact (World.cell?_setCell_other (h := h1) ..).trans (World.cell?_setCell_same (h := e0) ..)
 ·
  have h1 : (⟨wb.heap.size, 0, none⟩ : Addr) ≠ ⟨wb.heap.size, 1, none⟩ := by simp
  exact World.cell?_setCell_same (h := (World.cell?_setCell_other (h := h1) ..).trans e1) ..
 have hne : ∀ a, A4 = some a -> 0 < ls -> some wb.heap.size ≠ some a.block := fun a ha _ e => by
  have := hfr a ha
  have := Option.some.inj e
  omega
 exact (hst.grown (grown_setCell _ _ _ _) hne).grown (grown_setCell _ _ _ _) hne
set_option maxHeartbeats 4000000 in
theorem shapes_any (w : World) (G S S2 D U : Option Addr) (gl gc sl sc l2 c2 dl dc ul uc : Nat) (X1 X2 : List Shp) (h1 : zz w S sl X1) (h2 : zz w S2 l2 X2) (hn : sl + l2 <= 1099511627776) (hf : ∀ x ∈ X1 ++ X2, x.len <= 1099511627776) :
  Calls Tryd.prog 12 #[.agg #[.slice G gl gc, .slice S sl sc], .agg #[.slice S2 l2 c2, .slice D dl dc, .slice U ul uc]] w fun e w' => ∃ A n cap X, e = .returned (.slice A n cap) /\ n <= cap /\ cap <= maxLen /\ zz w' A n X /\ X.map Shp.sh = behindC ((X1 ++ X2).map Shp.sh) /\ Below w.heap.size w w' /\ (0 < n -> ∃ g, A = some ⟨g, 0, none⟩ /\ w.heap.size <= g) /\ ∀ x ∈ X, Fr w x := by
 have H1 := Lib.hid h1
 have H2 := Lib.hid h2
 obtain ⟨N, hN⟩ : ∃ N, sl + l2 = N := ⟨_, rfl⟩
 obtain ⟨X, hX⟩ : ∃ X, X1 ++ X2 = X := ⟨_, rfl⟩
 have hNn : N <= 1099511627776 := by omega
 have hN1 : N <= 9223372036854775807 := by omega
 rw [hX] at hf ⊢
 have HF := Lib.hid hf
 have HX := Lib.hid hX
 have HN := Lib.hid hN
 clear h1 h2 hX hN hf
 go_enter Tryd.func12, Tryd.ntmps12
 go_wp2_with fail
 have HW := Lib.hid ((((Below.refl w.heap.size w).alloc (Nat.le_refl _) (.cells #[.slice G gl gc, .slice S sl sc] 26)).alloc (by simp) (.cells #[.slice S2 l2 c2, .slice D dl dc, .slice U ul uc] 30)).alloc (by simp; omega) (.cells #[.slice S sl sc, .slice S2 l2 c2] 24))
 refine (concat_any S S2 sl sc l2 c2 (w.heap.size + 1 + 1) X1 X2 _ ?_ ?_ (H1.out.below HW.out) (H2.out.below HW.out) hn).mono ?_
 ·
  rw [show w.heap.size + 1 + 1 = ((w.alloc (.cells #[.slice G gl gc, .slice S sl sc] 26)).alloc (.cells #[.slice S2 l2 c2, .slice D dl dc, .slice U ul uc] 30)).heap.size from by simp]; exact za _ _ _ 0
 ·
  rw [show w.heap.size + 1 + 1 = ((w.alloc (.cells #[.slice G gl gc, .slice S sl sc] 26)).alloc (.cells #[.slice S2 l2 c2, .slice D dl dc, .slice U ul uc] 30)).heap.size from by simp]; exact za _ _ _ 1
 rw [HX.out, HN.out]
 rintro e w1 ⟨A, cap, rfl, hc1, hc2, hsh, hb1⟩
 have HSH := Lib.hid hsh
 have HB1 := Lib.hid (HW.out.trans (hb1.mono HW.out.size))
 clear hsh hb1
 go_wp2_with fail
 go_loopg [5, 17] N (fun g v i wr => ∃ (k : Nat) (Y : List Shp), g = N - k /\ k <= N /\ i = .int .i64 k /\ OutAt w1 wr v Y /\ Y.map Shp.sh = behindC ((X.take k).map Shp.sh) /\ ∀ x ∈ Y, Fr w x)
 case atStart => exact ⟨0, [], by omega, by omega, rfl, OutAt.start w1, rfl, by simp⟩
 obtain ⟨k, Y, hg, hk, rfl, hO, hY, hFY⟩ := hrel
 have HFY := Lib.hid hFY
 clear hFY
 have HG := Lib.hid hg
 have HY := Lib.hid hY
 have HO := Lib.hid hO
 clear hg hY
 by_cases hlt : k < N
 ·
  obtain ⟨b, o, rfl, hbw, hrow⟩ := HSH.out.at_ (by omega)
  have hkx : k < X.length := by rw [HSH.out.size]; exact hlt
  have r0 : _ := (hO.below.cell (p := ⟨b, o + k * 2, none⟩) hbw).trans (hrow k hkx).1
  have r1 : _ := (hO.below.cell (p := ⟨b, o + k * 2 + 1, none⟩) hbw).trans (hrow k hkx).2
  have HXK := Lib.hid (ShapeAt.below (HSH.out.each X[k] (List.getElem_mem hkx)) hO.below)
  have HTK := Lib.hid (show (X.take (k + 1)).map Shp.sh = (X.take k).map Shp.sh ++ [X[k].sh] from by rw [List.take_succ_eq_append_getElem hkx, List.map_append]; rfl)
  have hle : X[k].len <= 1099511627776 := HF.out _ (List.getElem_mem hkx)
  clear hrow
  generalize X[k] = s at r0 r1 HXK HTK hle
  obtain ⟨nm, As, ls, cs, ss⟩ := s
  simp only at r0 r1 hle
  go_upto_region 5 with fail
  go_cut [8] (fun v wx => NewShp (wr.alloc (.cells #[.string nm, .slice As ls cs] 53)) wx nm ss v)
  case first =>
   obtain ⟨wb, hwb⟩ : ∃ wb : World, wb = wr.alloc (.cells #[.string nm, .slice As ls cs] 53) := ⟨_, rfl⟩
   have k0 : wb.cell? ⟨wr.heap.size, 0, none⟩ = some (.string nm) := by rw [hwb]; simp
   have k1 : wb.cell? ⟨wr.heap.size, 1, none⟩ = some (.slice As ls cs) := by rw [hwb]; simp
   have hsb : wr.heap.size < wb.heap.size := by rw [hwb]; simp
   have hbx : Below wr.heap.size wr wb := by rw [hwb]; exact (Below.refl _ _).alloc (Nat.le_refl _) _
   have HXB := Lib.hid (ShapeAt.below HXK.out hbx)
   have hls : ls <= 1099511627776 := hle
   rw [<- hwb]
   have HWB := Lib.hid hwb
   clear hwb hbx r0 r1 hO HO
   have hnx := World.new_ne wb _ k0
   have HK0 := Lib.hid k0
   have HK1 := Lib.hid k1
   go_region_held3 (fun w' => w'.cell? ⟨wr.heap.size, 0, none⟩ = some (.string nm) /\ w'.cell? ⟨wr.heap.size, 1, none⟩ = some (.slice As ls cs)) (go_keep)
    (first
      | (go_at_call 10; refine (clone_any As ls cs ss _ (HXB.out.strs.below (by first | exact (Below.refl _ _).drew | exact ((Below.refl _ _).drew).alloc (Nat.le_refl _) _ | exact ((Below.refl _ _).alloc (Nat.le_refl _) _).drew)) hls).mono ?_; rintro e w3 ⟨vc, rfl, hown, hbc⟩; have hlt3 : wr.heap.size < w3.heap.size := Nat.lt_of_lt_of_le hsb (Nat.le_trans (by simp) hbc.size); have m0 : w3.cell? ⟨wr.heap.size, 0, none⟩ = some (.string nm) := (hbc.cell (p := ⟨wr.heap.size, 0, none⟩) (Nat.lt_of_lt_of_le hsb (by simp))).trans (by first | exact HK0.out | exact (World.cell?_alloc_lt _ _ ⟨wr.heap.size, 0, none⟩ hsb).trans HK0.out); have m1 : w3.cell? ⟨wr.heap.size, 1, none⟩ = some (.slice As ls cs) := (hbc.cell (p := ⟨wr.heap.size, 1, none⟩) (Nat.lt_of_lt_of_le hsb (by simp))).trans (by first | exact HK1.out | exact (World.cell?_alloc_lt _ _ ⟨wr.heap.size, 1, none⟩ hsb).trans HK1.out); have n0 := fun h => hbc.cell (p := ⟨wb.heap.size, 0, none⟩) h; have n1 := fun h => hbc.cell (p := ⟨wb.heap.size, 1, none⟩) h; have n2 := fun h => hbc.frozen (p := ⟨wb.heap.size, 0, none⟩) h; have n3 := fun h => hbc.frozen (p := ⟨wb.heap.size, 1, none⟩) h; have HBC := Lib.hid hbc; have HFR := Lib.hid (zv hown); obtain ⟨A4, c4, hv4, hst, hl4, hm4⟩ := strsAt_owned hown; subst hv4; have HST := Lib.hid hst; clear hbc hown hst; (try simp at n0); (try simp at n1); (try simp at n2); (try simp at n3)))
   all_goals (go_wp2_with fail)
   all_goals go_meet
   ·
    rw [<- HWB.out]
    exact newShp_1 ((Below.refl _ _).drew.trans HBC.out) HST.out (fun a ha => HFR.out _ (by rw [ha]; rfl)) HXB.out.wide HXB.out.each hl4 hm4
   ·
    rw [<- HWB.out]
    exact newShp_2 rfl rfl HBC.out HST.out (fun a ha => HFR.out _ (by rw [ha]; rfl)) HXB.out.wide HXB.out.each hl4 hm4
  case rest =>
   obtain ⟨p, x, rfl, hp0, hp1, hnm, hss, p0, p1, hx, hfr, hbl⟩ := hcut
   have hgr := ((Below.refl wr.heap.size wr).alloc (Nat.le_refl _) (.cells #[.string nm, .slice As ls cs] 53)).trans (hbl.mono (by simp))
   have q0 : wc.cell? ⟨wr.heap.size, 0, none⟩ = some (.string nm) := (hbl.cell (p := ⟨wr.heap.size, 0, none⟩) (by simp)).trans (za _ _ _ 0)
   have hq : wr.heap.size < wc.heap.size := Nat.lt_of_lt_of_le (by simp) hbl.size
   have hap : ∀ a, x.A = some a -> 0 < x.len -> u5.ownBlock ≠ some a.block := fun a ha h0 => HO.out.free (Nat.le_trans (by simp) (hfr a ha h0))
   obtain ⟨A5, c5, rfl, hl5, hm5, hS5, hg5⟩ := hO.form
   have HO2 := Lib.hid (HO.out.later hgr)
   have HS5 := Lib.hid (hS5.below hgr)
   have HX2 := Lib.hid hx
   have HFX := Lib.hid (show Fr w x from fun a ha h0 => Nat.le_trans (Nat.le_trans HB1.out.size (Nat.le_trans hO.below.size (by simp))) (hfr a ha h0))
   have HAP := Lib.hid hap
   have HG5 := Lib.hid hg5
   have HSH2 := Lib.hid (show x.sh = (nm, ss) from by rw [<- hnm, <- hss]; rfl)
   have HNM := Lib.hid hnm
   have HYL := Lib.hid (show Y.length <= k from by have h := congrArg List.length HY.out; rw [List.length_map] at h; have h2 := behind_len ((X.take k).map Shp.sh); rw [List.length_map, List.length_take] at h2; omega)
   clear r0 r1 hO hnm hss hx hfr hbl hap hS5 hg5 hgr
   go_wp2_with fail
   refine (indexFunc_any nm wr.heap.size A5 Y.length c5 Y _ hm5 hl5 HS5.out q0 hq).mono ?_
   rintro e w6 ⟨rfl, hb6⟩
   have HO6 := Lib.hid (HO2.out.later hb6)
   have HX6 := Lib.hid (ShapeAt.below HX2.out hb6)
   have p0' : w6.cell? ⟨p, 0, none⟩ = some (.string x.name) := (hb6.cell (p := ⟨p, 0, none⟩) hp1).trans p0
   have p1' : w6.cell? ⟨p, 1, none⟩ = some (.slice x.A x.len x.cap) := (hb6.cell (p := ⟨p, 1, none⟩) hp1).trans p1
   have HIX := Lib.hid (show idxL (names Y) x.name = idxL (names Y) nm from by rw [HNM.out])
   clear hb6 p0 p1 q0
   by_cases hi : idxL (names Y) nm < 0
   ·
    have HM := Lib.hid (merge_app (X := Y) (x := x) (by rw [HIX.out]; exact hi))
    obtain ⟨ix, hix⟩ : ∃ ix, idxL (names Y) nm = ix := ⟨_, rfl⟩
    rw [hix] at hi ⊢
    clear hix HIX
    have hyb : Y.length < 1099511627776 := by have := HYL.out; omega
    go_wp2_with (at_builtin; refine wpList_out rfl (.tmp 32) (.tmp 34) rfl HO6.out x HX6.out HAP.out rfl rfl hyb ?_; intro v7 w7 h7; have HO7 := Lib.hid h7; clear h7)
    go_roundg (N - (k + 1))
    case measure => have := HG.out; omega
    case rel =>
     refine ⟨k + 1, Y ++ [x], rfl, by omega, by go_num, HO7.out, ?_, fun z hz => by
      rcases List.mem_append.1 hz with hz | hz
      ·
       exact HFY.out z hz
      obtain rfl : z = x := by simpa using hz
      exact HFX.out⟩
     rw [<- HM.out, HTK.out, HSH2.out, HY.out]
     unfold behindC
     rw [List.foldl_append]
     rfl
   obtain ⟨i, hii, hil⟩ := idxL_lt hi
   have hil2 : i < Y.length := by simpa [names] using hil
   have HM := Lib.hid (merge_set (X := Y) (x := x) (k := i) (by rw [HIX.out]; exact hii))
   rw [hii]
   clear hii hi HIX hil
   obtain ⟨g, rfl, hgb⟩ := HG5.out (by omega)
   have hrow := HO6.out.row
   have f0 := hrow.frozenAt (i * 2)
   have f1 := hrow.frozenAt (i * 2 + 1)
   have o0 : w6.cell? ⟨g, i * 2, none⟩ = some (.string Y[i].name) := (hrow.cellAt (i * 2) (by omega)).trans (cellsL_at Y i hil2).1
   have o1 : w6.cell? ⟨g, i * 2 + 1, none⟩ = some (.slice Y[i].A Y[i].len Y[i].cap) := (hrow.cellAt (i * 2 + 1) (by omega)).trans (cellsL_at Y i hil2).2
   have HPUT := Lib.hid (HO6.out.put i x HX6.out (fun a ha h0 e => HAP.out a ha h0 (by rw [e]; rfl)))
   clear hrow
   go_wp2_with fail
   go_roundg (N - (k + 1))
   case measure => have := HG.out; omega
   case rel =>
    refine ⟨k + 1, Y.set i x, rfl, by omega, by go_num, by have h := HPUT.out; rw [List.length_set] at h; exact h, ?_, fun z hz => by
     rcases List.mem_or_eq_of_mem_set hz with hz | rfl
     ·
      exact HFY.out z hz
     exact HFX.out⟩
    rw [<- HM.out, HTK.out, HSH2.out, HY.out]
    unfold behindC
    rw [List.foldl_append]
    rfl
 obtain rfl : k = N := by omega
 obtain ⟨A5, c5, rfl, hl5, hm5, hS5, hg5⟩ := hO.form
 have HG5 := Lib.hid hg5
 clear hO hg5
 have HS5 := Lib.hid hS5
 clear hS5
 go_wp2_with fail
 go_ret
 refine ⟨A5, _, c5, Y, rfl, hl5, hm5, HS5.out, ?_, HB1.out.trans (HO.out.below.mono HB1.out.size), fun h0 => by
  obtain ⟨g, e, hg⟩ := HG5.out h0
  exact ⟨g, e, Nat.le_trans HB1.out.size hg⟩, HFY.out⟩
 have h := HY.out
 rwa [List.take_of_length_le (by rw [HSH.out.size]; exact Nat.le_refl _)] at h
end Sh
end Go.Proofs.YtjmeodadkjcmmaaDoor
