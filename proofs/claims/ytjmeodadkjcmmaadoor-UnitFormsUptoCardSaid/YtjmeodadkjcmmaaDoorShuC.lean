import Derived.Test.YtjmeodadkjcmmaaDoorShuB
namespace Go.Proofs.YtjmeodadkjcmmaaDoor
namespace Sh
open Go.RowKit Go.ChangeShapes Go.WideShapes Go.Deep Go.ChangeAt Go.Shelf
set_option linter.unusedVariables false
set_option maxRecDepth 20000
def BehindPost (w : World) (L : List Shp) (e : Ending) (w' : World) : Prop := ∃ A n cap X, e = .returned (.slice A n cap) /\ n <= cap /\ cap <= maxLen /\ zz w' A n X /\ X.map Shp.sh = behindC (L.map Shp.sh) /\ Below w.heap.size w w' /\ (0 < n -> ∃ g, A = some ⟨g, 0, none⟩ /\ w.heap.size <= g) /\ ∀ x ∈ X, Fr w x
theorem rows_one {W : World} {B c ls : Nat} {As : Option Addr} {ss : List ByteArray} (h : W.cell? ⟨B, 0, none⟩ = some (.slice As ls c)) (hs : zb1 W As ls ss) (hl : ls <= c) (hc : c <= maxLen) : RowsAt W (some ⟨B, 0, none⟩) 1 [ss] :=
 ⟨rfl, fun _ => ⟨B, 0, rfl, World.block_lt_of_cell? W _ h, fun i hi => by
  obtain rfl : i = 0 := by simpa using hi
  have hz : ([ss][0]'hi) = ss := rfl
  rw [hz, hs.size]
  exact ⟨As, c, h, hl, hc, hs⟩⟩⟩
theorem newShp_3 {wb W w3 : World} {p : Nat} {nm : ByteArray} {A4 : Option Addr} {ls c4 : Nat} {ss : List ByteArray} {u0 u1 : Value} (hp : wb.heap.size <= p) (hc0 : W.cell? ⟨p, 0, none⟩ = some u0) (hc1 : W.cell? ⟨p, 1, none⟩ = some u1) (hbW : Below wb.heap.size wb W) (hb : Below W.heap.size W w3) (hst : zb1 w3 A4 ls ss) (hfr : ∀ a, A4 = some a -> W.heap.size <= a.block)
  (hw : nm.size <= maxLen) (he : ∀ s ∈ ss, s.size <= maxLen) (hl : ls <= c4) (hm : c4 <= maxLen) :
  NewShp wb ((w3.setCell ⟨p, 0, none⟩ (.string nm)).setCell ⟨p, 1, none⟩ (.slice A4 ls c4)) nm ss (.pointer (some ⟨p, 0, none⟩)) := by
 have hpW : p < W.heap.size := World.block_lt_of_cell? W _ hc0
 have hsz : p < w3.heap.size := Nat.lt_of_lt_of_le hpW hb.size
 have e0 : w3.cell? ⟨p, 0, none⟩ = some u0 := (hb.cell (p := ⟨p, 0, none⟩) hpW).trans hc0
 have e1 : w3.cell? ⟨p, 1, none⟩ = some u1 := (hb.cell (p := ⟨p, 1, none⟩) hpW).trans hc1
 have hbw : Below wb.heap.size wb w3 := hbW.trans (hb.mono hbW.size)
 refine ⟨p, ⟨nm, A4, ls, c4, ss⟩, rfl, hp, by simpa using hsz, rfl, rfl, ?_, ?_, ⟨rfl, hw, ?_, he, hl, hm⟩, fun a ha _ => by have := hfr a ha; have := hbW.size; omega, (hbw.setCell hp _).setCell hp _⟩
 ·
  have h1 : (⟨p, 1, none⟩ : Addr) ≠ ⟨p, 0, none⟩ := by simp
  exact (World.cell?_setCell_other (h := h1) ..).trans (World.cell?_setCell_same (h := e0) ..)
 ·
  have h1 : (⟨p, 0, none⟩ : Addr) ≠ ⟨p, 1, none⟩ := by simp
  exact World.cell?_setCell_same (h := (World.cell?_setCell_other (h := h1) ..).trans e1) ..
 have hne : ∀ a, A4 = some a -> 0 < ls -> some p ≠ some a.block := fun a ha _ e => by
  have := hfr a ha
  have := Option.some.inj e
  omega
 exact (hst.grown (grown_setCell _ _ _ _) hne).grown (grown_setCell _ _ _ _) hne
set_option maxHeartbeats 4000000 in
theorem behind_any (w : World) (G S S2 D U : Option Addr) (gl gc sl sc l2 c2 dl dc ul uc : Nat) (X1 X2 : List Shp) (h1 : zz w S sl X1) (h2 : zz w S2 l2 X2) (hsc : sl <= sc /\ sc <= maxLen) (hl2 : l2 <= c2 /\ c2 <= maxLen) (hn : sl + l2 <= 1099511627776) (hf : ∀ x ∈ X1 ++ X2, x.len <= 1099511627776) :
  Calls Tryd.prog 22 #[.agg #[.slice G gl gc, .slice S sl sc], .agg #[.slice S2 l2 c2, .slice D dl dc, .slice U ul uc]] w (BehindPost w (X1 ++ X2)) := by
 have H1 := Lib.hid h1
 have H2 := Lib.hid h2
 obtain ⟨N, hN⟩ : ∃ N, sl + l2 = N := ⟨_, rfl⟩
 obtain ⟨X, hX⟩ : ∃ X, X1 ++ X2 = X := ⟨_, rfl⟩
 have hNn : N <= 1099511627776 := by omega
 have hN1 : N <= 9223372036854775807 := by omega
 rw [hX] at hf ⊢
 have HF := Lib.hid hf
 have HX := Lib.hid hX
 have HN := Lib.hid hN
 clear h1 h2 hX hN hf
 go_enter Tryd.func22, Tryd.ntmps22
 go_wp2_with fail
 obtain ⟨hsc1, hsc2⟩ := hsc
 obtain ⟨hl21, hl22⟩ := hl2
 have hm1 : sc <= 9223372036854775807 := by unfold maxLen at hsc2; omega
 have hm2 : c2 <= 9223372036854775807 := by unfold maxLen at hl22; omega
 obtain ⟨w1, hw1⟩ : ∃ w1 : World, w1 = (w.alloc (.cells #[.slice G gl gc, .slice S sl sc] 26)).alloc (.cells #[.slice S2 l2 c2, .slice D dl dc, .slice U ul uc] 30) := ⟨_, rfl⟩
 have hbw1 : Below w.heap.size w w1 := by rw [hw1]; exact ((Below.refl w.heap.size w).alloc (Nat.le_refl _) _).alloc (by simp) _
 have b0 : w1.cell? ⟨w.heap.size, 1, none⟩ = some (.slice S sl sc) := by rw [hw1, World.cell?_alloc_lt _ _ _ (by simp)]; exact za _ _ _ 1
 have b1 : w1.cell? ⟨w.heap.size + 1, 0, none⟩ = some (.slice S2 l2 c2) := by rw [hw1, show w.heap.size + 1 = (w.alloc (.cells #[.slice G gl gc, .slice S sl sc] 26)).heap.size from by simp]; exact za _ _ _ 0
 have hz1 : w1.heap.size = w.heap.size + 1 + 1 := by rw [hw1]; simp
 rw [<- hw1]
 have HZ1 := Lib.hid hz1
 have HB1 := Lib.hid hbw1
 have HS1 := Lib.hid (H1.out.below hbw1)
 have HS2 := Lib.hid (H2.out.below hbw1)
 clear hw1 hbw1 hz1
 go_loopg [5, 6] N (fun gm v i wr => ∃ (k : Nat) (Y : List Shp), gm = N - k /\ k <= N /\ i = .int .i64 k /\ OutAt w1 wr v Y /\ Y.map Shp.sh = behindC ((X.take k).map Shp.sh) /\ ∀ x ∈ Y, Fr w x)
 case atStart => exact ⟨0, [], by omega, by omega, rfl, OutAt.start w1, rfl, by simp⟩
 obtain ⟨k, Y, hg, hk, rfl, hO, hY, hFY⟩ := hrel
 have HFY := Lib.hid hFY
 clear hFY
 have HG := Lib.hid hg
 have HY := Lib.hid hY
 have HO := Lib.hid hO
 have d0 : wr.cell? ⟨w.heap.size, 1, none⟩ = some (.slice S sl sc) := (hO.below.cell (p := ⟨w.heap.size, 1, none⟩) (by show w.heap.size < _; have := HZ1.out; omega)).trans b0
 have d1 : wr.cell? ⟨w.heap.size + 1, 0, none⟩ = some (.slice S2 l2 c2) := (hO.below.cell (p := ⟨w.heap.size + 1, 0, none⟩) (by show w.heap.size + 1 < _; have := HZ1.out; omega)).trans b1
 have hzr : w.heap.size + 1 < wr.heap.size := by have := hO.below.size; have := HZ1.out; omega
 have hzr0 : w.heap.size < wr.heap.size := by omega
 clear hg hY
 by_cases hlt : k < N
 ·
  have hkx : k < X.length := by have := HN.out; rw [<- HX.out, List.length_append, H1.out.size, H2.out.size]; omega
  have hks3 : (k : Int) < (sl : Int) + l2 := by have := HN.out; omega
  have HTK := Lib.hid (show (X.take (k + 1)).map Shp.sh = (X.take k).map Shp.sh ++ [X[k].sh] from by rw [List.take_succ_eq_append_getElem hkx, List.map_append]; rfl)
  have hle : X[k].len <= 1099511627776 := HF.out _ (List.getElem_mem hkx)
  by_cases hks : k < sl
  ·
   obtain ⟨b, o, rfl, hbw, hrow⟩ := HS1.out.at_ (by omega)
   have hbr : b < wr.heap.size := Nat.lt_of_lt_of_le hbw hO.below.size
   have hk1 : k < X1.length := by rw [H1.out.size]; exact hks
   have hxe : X[k] = X1[k] := by simp only [<- HX.out]; exact List.getElem_append_left hk1
   rw [hxe] at HTK hle
   have r0 : _ := (hO.below.cell (p := ⟨b, o + k * 2, none⟩) hbw).trans (hrow k hk1).1
   have r1 : _ := (hO.below.cell (p := ⟨b, o + k * 2 + 1, none⟩) hbw).trans (hrow k hk1).2
   have HXK := Lib.hid (ShapeAt.below (HS1.out.each X1[k] (List.getElem_mem hk1)) hO.below)
   clear hrow hxe
   generalize X1[k] = s at r0 r1 HXK HTK hle
   obtain ⟨nm, As, ls, cs, ss⟩ := s
   simp only at r0 r1 hle
   go_upto_region 9 with fail
   go_cut [8] (fun v wx => NewShp (wr.alloc (.cells #[.string nm, .slice As ls cs] 53)) wx nm ss v)
   case first =>
    obtain ⟨wb, hwb⟩ : ∃ wb : World, wb = wr.alloc (.cells #[.string nm, .slice As ls cs] 53) := ⟨_, rfl⟩
    have k0 : wb.cell? ⟨wr.heap.size, 0, none⟩ = some (.string nm) := by rw [hwb]; simp
    have k1 : wb.cell? ⟨wr.heap.size, 1, none⟩ = some (.slice As ls cs) := by rw [hwb]; simp
    have hsb : wr.heap.size < wb.heap.size := by rw [hwb]; simp
    have hbx : Below wr.heap.size wr wb := by rw [hwb]; exact (Below.refl _ _).alloc (Nat.le_refl _) _
    have HXB := Lib.hid (ShapeAt.below HXK.out hbx)
    have HFL := Lib.hid (show [ss].flatten = ss from by simp)
    have HLS := Lib.hid HXB.out.strs.size
    have hflat : [ss].flatten.length <= 1099511627776 := by rw [HFL.out, HLS.out]; exact hle
    rw [<- hwb]
    have HWB := Lib.hid hwb
    clear hwb hbx r0 r1 hO HO d0 d1
    have hnx := World.new_ne wb _ k0
    have hnx2 : wb.heap.size + 1 ≠ wr.heap.size := by omega
    have HK0 := Lib.hid k0
    have HK1 := Lib.hid k1
    go_region_held3 (fun w' => w'.cell? ⟨wr.heap.size, 0, none⟩ = some (.string nm) /\ w'.cell? ⟨wr.heap.size, 1, none⟩ = some (.slice As ls cs)) (go_keep)
     (first
       | (go_at_call 21; (with_reducible show Calls _ _ _ ((wb.alloc (.cells #[.slice As ls cs] 23)).drew) _); refine (texts_any (some ⟨wb.heap.size, 0, none⟩) 1 1 [ss] ((wb.alloc (.cells #[.slice As ls cs] 23)).drew) (by unfold maxLen; omega) (by omega) (rows_one (c := cs) (za wb #[.slice As ls cs] 23 0) (HXB.out.strs.below ((show Below wb.heap.size wb ((wb.alloc (.cells #[.slice As ls cs] 23)).drew) from ((Below.refl wb.heap.size wb).alloc (Nat.le_refl _) _).drew))) HXB.out.le HXB.out.cap_) hflat).mono ?_; rintro e w3 ⟨vc, rfl, hown, hb⟩; rw [HFL.out, HLS.out] at hown; have m0 : w3.cell? ⟨wr.heap.size, 0, none⟩ = some (.string nm) := (hb.cell (p := ⟨wr.heap.size, 0, none⟩) (Nat.lt_of_lt_of_le hsb ((show Below wb.heap.size wb ((wb.alloc (.cells #[.slice As ls cs] 23)).drew) from ((Below.refl wb.heap.size wb).alloc (Nat.le_refl _) _).drew)).size)).trans ((((show Below wb.heap.size wb ((wb.alloc (.cells #[.slice As ls cs] 23)).drew) from ((Below.refl wb.heap.size wb).alloc (Nat.le_refl _) _).drew)).cell (p := ⟨wr.heap.size, 0, none⟩) hsb).trans HK0.out); have m1 : w3.cell? ⟨wr.heap.size, 1, none⟩ = some (.slice As ls cs) := (hb.cell (p := ⟨wr.heap.size, 1, none⟩) (Nat.lt_of_lt_of_le hsb ((show Below wb.heap.size wb ((wb.alloc (.cells #[.slice As ls cs] 23)).drew) from ((Below.refl wb.heap.size wb).alloc (Nat.le_refl _) _).drew)).size)).trans ((((show Below wb.heap.size wb ((wb.alloc (.cells #[.slice As ls cs] 23)).drew) from ((Below.refl wb.heap.size wb).alloc (Nat.le_refl _) _).drew)).cell (p := ⟨wr.heap.size, 1, none⟩) hsb).trans HK1.out); have n0a := fun h => hb.cell (p := ⟨wb.heap.size, 0, none⟩) h; have f0a := fun h => hb.frozen (p := ⟨wb.heap.size, 0, none⟩) h; have n1a := fun h => hb.cell (p := ⟨wb.heap.size, 1, none⟩) h; have f1a := fun h => hb.frozen (p := ⟨wb.heap.size, 1, none⟩) h; have n0b := fun h => hb.cell (p := ⟨wb.heap.size + 1, 0, none⟩) h; have f0b := fun h => hb.frozen (p := ⟨wb.heap.size + 1, 0, none⟩) h; have n1b := fun h => hb.cell (p := ⟨wb.heap.size + 1, 1, none⟩) h; have f1b := fun h => hb.frozen (p := ⟨wb.heap.size + 1, 1, none⟩) h; have HBC := Lib.hid hb; have HBW := Lib.hid ((show Below wb.heap.size wb ((wb.alloc (.cells #[.slice As ls cs] 23)).drew) from ((Below.refl wb.heap.size wb).alloc (Nat.le_refl _) _).drew)); have HFR := Lib.hid (zv hown); obtain ⟨A4, c4, hv4, hst, hl4, hm4⟩ := strsAt_owned hown; subst hv4; have HST := Lib.hid hst; clear hb hown hst; (try simp at n0a); (try simp at f0a); (try simp at n1a); (try simp at f1a); (try simp at n0b); (try simp at f0b); (try simp at n1b); (try simp at f1b))
       | (go_at_call 21; (with_reducible show Calls _ _ _ (((wb.alloc (.cells #[.slice As ls cs] 23)).alloc (.cells #[.string ⟨#[]⟩, .slice none 0 0] 53)).drew) _); refine (texts_any (some ⟨wb.heap.size, 0, none⟩) 1 1 [ss] (((wb.alloc (.cells #[.slice As ls cs] 23)).alloc (.cells #[.string ⟨#[]⟩, .slice none 0 0] 53)).drew) (by unfold maxLen; omega) (by omega) (rows_one (c := cs) ((World.cell?_alloc_lt (wb.alloc (.cells #[.slice As ls cs] 23)) (.cells #[.string ⟨#[]⟩, .slice none 0 0] 53) ⟨wb.heap.size, 0, none⟩ (by simp)).trans (za wb #[.slice As ls cs] 23 0)) (HXB.out.strs.below ((show Below wb.heap.size wb (((wb.alloc (.cells #[.slice As ls cs] 23)).alloc (.cells #[.string ⟨#[]⟩, .slice none 0 0] 53)).drew) from (((Below.refl wb.heap.size wb).alloc (Nat.le_refl _) _).alloc (by simp) _).drew))) HXB.out.le HXB.out.cap_) hflat).mono ?_; rintro e w3 ⟨vc, rfl, hown, hb⟩; rw [HFL.out, HLS.out] at hown; have m0 : w3.cell? ⟨wr.heap.size, 0, none⟩ = some (.string nm) := (hb.cell (p := ⟨wr.heap.size, 0, none⟩) (Nat.lt_of_lt_of_le hsb ((show Below wb.heap.size wb (((wb.alloc (.cells #[.slice As ls cs] 23)).alloc (.cells #[.string ⟨#[]⟩, .slice none 0 0] 53)).drew) from (((Below.refl wb.heap.size wb).alloc (Nat.le_refl _) _).alloc (by simp) _).drew)).size)).trans ((((show Below wb.heap.size wb (((wb.alloc (.cells #[.slice As ls cs] 23)).alloc (.cells #[.string ⟨#[]⟩, .slice none 0 0] 53)).drew) from (((Below.refl wb.heap.size wb).alloc (Nat.le_refl _) _).alloc (by simp) _).drew)).cell (p := ⟨wr.heap.size, 0, none⟩) hsb).trans HK0.out); have m1 : w3.cell? ⟨wr.heap.size, 1, none⟩ = some (.slice As ls cs) := (hb.cell (p := ⟨wr.heap.size, 1, none⟩) (Nat.lt_of_lt_of_le hsb ((show Below wb.heap.size wb (((wb.alloc (.cells #[.slice As ls cs] 23)).alloc (.cells #[.string ⟨#[]⟩, .slice none 0 0] 53)).drew) from (((Below.refl wb.heap.size wb).alloc (Nat.le_refl _) _).alloc (by simp) _).drew)).size)).trans ((((show Below wb.heap.size wb (((wb.alloc (.cells #[.slice As ls cs] 23)).alloc (.cells #[.string ⟨#[]⟩, .slice none 0 0] 53)).drew) from (((Below.refl wb.heap.size wb).alloc (Nat.le_refl _) _).alloc (by simp) _).drew)).cell (p := ⟨wr.heap.size, 1, none⟩) hsb).trans HK1.out); have n0a := fun h => hb.cell (p := ⟨wb.heap.size, 0, none⟩) h; have f0a := fun h => hb.frozen (p := ⟨wb.heap.size, 0, none⟩) h; have n1a := fun h => hb.cell (p := ⟨wb.heap.size, 1, none⟩) h; have f1a := fun h => hb.frozen (p := ⟨wb.heap.size, 1, none⟩) h; have n0b := fun h => hb.cell (p := ⟨wb.heap.size + 1, 0, none⟩) h; have f0b := fun h => hb.frozen (p := ⟨wb.heap.size + 1, 0, none⟩) h; have n1b := fun h => hb.cell (p := ⟨wb.heap.size + 1, 1, none⟩) h; have f1b := fun h => hb.frozen (p := ⟨wb.heap.size + 1, 1, none⟩) h; have HBC := Lib.hid hb; have HBW := Lib.hid ((show Below wb.heap.size wb (((wb.alloc (.cells #[.slice As ls cs] 23)).alloc (.cells #[.string ⟨#[]⟩, .slice none 0 0] 53)).drew) from (((Below.refl wb.heap.size wb).alloc (Nat.le_refl _) _).alloc (by simp) _).drew)); have HFR := Lib.hid (zv hown); obtain ⟨A4, c4, hv4, hst, hl4, hm4⟩ := strsAt_owned hown; subst hv4; have HST := Lib.hid hst; clear hb hown hst; (try simp at n0a); (try simp at f0a); (try simp at n1a); (try simp at f1a); (try simp at n0b); (try simp at f0b); (try simp at n1b); (try simp at f1b))
       | (go_at_call 21; (with_reducible show Calls _ _ _ (((wb.alloc (.cells #[.string ⟨#[]⟩, .slice none 0 0] 53)).alloc (.cells #[.slice As ls cs] 23)).drew) _); refine (texts_any (some ⟨wb.heap.size + 1, 0, none⟩) 1 1 [ss] (((wb.alloc (.cells #[.string ⟨#[]⟩, .slice none 0 0] 53)).alloc (.cells #[.slice As ls cs] 23)).drew) (by unfold maxLen; omega) (by omega) (rows_one (c := cs) (by rw [show wb.heap.size + 1 = (wb.alloc (.cells #[.string ⟨#[]⟩, .slice none 0 0] 53)).heap.size from by simp]; exact za (wb.alloc (.cells #[.string ⟨#[]⟩, .slice none 0 0] 53)) #[.slice As ls cs] 23 0) (HXB.out.strs.below ((show Below wb.heap.size wb (((wb.alloc (.cells #[.string ⟨#[]⟩, .slice none 0 0] 53)).alloc (.cells #[.slice As ls cs] 23)).drew) from (((Below.refl wb.heap.size wb).alloc (Nat.le_refl _) _).alloc (by simp) _).drew))) HXB.out.le HXB.out.cap_) hflat).mono ?_; rintro e w3 ⟨vc, rfl, hown, hb⟩; rw [HFL.out, HLS.out] at hown; have m0 : w3.cell? ⟨wr.heap.size, 0, none⟩ = some (.string nm) := (hb.cell (p := ⟨wr.heap.size, 0, none⟩) (Nat.lt_of_lt_of_le hsb ((show Below wb.heap.size wb (((wb.alloc (.cells #[.string ⟨#[]⟩, .slice none 0 0] 53)).alloc (.cells #[.slice As ls cs] 23)).drew) from (((Below.refl wb.heap.size wb).alloc (Nat.le_refl _) _).alloc (by simp) _).drew)).size)).trans ((((show Below wb.heap.size wb (((wb.alloc (.cells #[.string ⟨#[]⟩, .slice none 0 0] 53)).alloc (.cells #[.slice As ls cs] 23)).drew) from (((Below.refl wb.heap.size wb).alloc (Nat.le_refl _) _).alloc (by simp) _).drew)).cell (p := ⟨wr.heap.size, 0, none⟩) hsb).trans HK0.out); have m1 : w3.cell? ⟨wr.heap.size, 1, none⟩ = some (.slice As ls cs) := (hb.cell (p := ⟨wr.heap.size, 1, none⟩) (Nat.lt_of_lt_of_le hsb ((show Below wb.heap.size wb (((wb.alloc (.cells #[.string ⟨#[]⟩, .slice none 0 0] 53)).alloc (.cells #[.slice As ls cs] 23)).drew) from (((Below.refl wb.heap.size wb).alloc (Nat.le_refl _) _).alloc (by simp) _).drew)).size)).trans ((((show Below wb.heap.size wb (((wb.alloc (.cells #[.string ⟨#[]⟩, .slice none 0 0] 53)).alloc (.cells #[.slice As ls cs] 23)).drew) from (((Below.refl wb.heap.size wb).alloc (Nat.le_refl _) _).alloc (by simp) _).drew)).cell (p := ⟨wr.heap.size, 1, none⟩) hsb).trans HK1.out); have n0a := fun h => hb.cell (p := ⟨wb.heap.size, 0, none⟩) h; have f0a := fun h => hb.frozen (p := ⟨wb.heap.size, 0, none⟩) h; have n1a := fun h => hb.cell (p := ⟨wb.heap.size, 1, none⟩) h; have f1a := fun h => hb.frozen (p := ⟨wb.heap.size, 1, none⟩) h; have n0b := fun h => hb.cell (p := ⟨wb.heap.size + 1, 0, none⟩) h; have f0b := fun h => hb.frozen (p := ⟨wb.heap.size + 1, 0, none⟩) h; have n1b := fun h => hb.cell (p := ⟨wb.heap.size + 1, 1, none⟩) h; have f1b := fun h => hb.frozen (p := ⟨wb.heap.size + 1, 1, none⟩) h; have HBC := Lib.hid hb; have HBW := Lib.hid ((show Below wb.heap.size wb (((wb.alloc (.cells #[.string ⟨#[]⟩, .slice none 0 0] 53)).alloc (.cells #[.slice As ls cs] 23)).drew) from (((Below.refl wb.heap.size wb).alloc (Nat.le_refl _) _).alloc (by simp) _).drew)); have HFR := Lib.hid (zv hown); obtain ⟨A4, c4, hv4, hst, hl4, hm4⟩ := strsAt_owned hown; subst hv4; have HST := Lib.hid hst; clear hb hown hst; (try simp at n0a); (try simp at f0a); (try simp at n1a); (try simp at f1a); (try simp at n0b); (try simp at f0b); (try simp at n1b); (try simp at f1b)))
    all_goals (go_wp2_with fail)
    all_goals go_meet
    all_goals rw [<- HWB.out]
    all_goals first
     | exact newShp_1 (HBW.out.trans (HBC.out.mono HBW.out.size)) HST.out (fun a ha => Nat.le_trans HBW.out.size (HFR.out _ (by rw [ha]; rfl))) HXB.out.wide HXB.out.each hl4 hm4
     | exact newShp_3 (W := ((wb.alloc (.cells #[.slice As ls cs] 23)).alloc (.cells #[.string ⟨#[]⟩, .slice none 0 0] 53)).drew) (p := wb.heap.size + 1) (by omega) (by rw [show wb.heap.size + 1 = (wb.alloc (.cells #[.slice As ls cs] 23)).heap.size from by simp]; exact za (wb.alloc (.cells #[.slice As ls cs] 23)) #[.string ⟨#[]⟩, .slice none 0 0] 53 0) (by rw [show wb.heap.size + 1 = (wb.alloc (.cells #[.slice As ls cs] 23)).heap.size from by simp]; exact za (wb.alloc (.cells #[.slice As ls cs] 23)) #[.string ⟨#[]⟩, .slice none 0 0] 53 1) HBW.out HBC.out HST.out (fun a ha => HFR.out _ (by rw [ha]; rfl)) HXB.out.wide HXB.out.each hl4 hm4
     | exact newShp_3 (W := ((wb.alloc (.cells #[.string ⟨#[]⟩, .slice none 0 0] 53)).alloc (.cells #[.slice As ls cs] 23)).drew) (p := wb.heap.size) (by omega) ((World.cell?_alloc_lt (wb.alloc (.cells #[.string ⟨#[]⟩, .slice none 0 0] 53)) (.cells #[.slice As ls cs] 23) ⟨wb.heap.size, 0, none⟩ (by simp)).trans (za wb #[.string ⟨#[]⟩, .slice none 0 0] 53 0)) ((World.cell?_alloc_lt (wb.alloc (.cells #[.string ⟨#[]⟩, .slice none 0 0] 53)) (.cells #[.slice As ls cs] 23) ⟨wb.heap.size, 1, none⟩ (by simp)).trans (za wb #[.string ⟨#[]⟩, .slice none 0 0] 53 1)) HBW.out HBC.out HST.out (fun a ha => HFR.out _ (by rw [ha]; rfl)) HXB.out.wide HXB.out.each hl4 hm4
   case rest =>
    obtain ⟨p, x, rfl, hp0, hp1, hnm, hss, p0, p1, hx, hfr, hbl⟩ := hcut
    have hgr := ((Below.refl wr.heap.size wr).alloc (Nat.le_refl _) (.cells #[.string nm, .slice As ls cs] 53)).trans (hbl.mono (by simp))
    have q0 : wc.cell? ⟨wr.heap.size, 0, none⟩ = some (.string nm) := (hbl.cell (p := ⟨wr.heap.size, 0, none⟩) (by simp)).trans (za _ _ _ 0)
    have hq : wr.heap.size < wc.heap.size := Nat.lt_of_lt_of_le (by simp) hbl.size
    have hap : ∀ a, x.A = some a -> 0 < x.len -> u5.ownBlock ≠ some a.block := fun a ha h0 => HO.out.free (Nat.le_trans (by simp) (hfr a ha h0))
    obtain ⟨A5, c5, rfl, hl5, hm5, hS5, hg5⟩ := hO.form
    have HO6 := Lib.hid (HO.out.later hgr)
    have HS5 := Lib.hid (hS5.below hgr)
    have HX6 := Lib.hid hx
    have HFX := Lib.hid (show Fr w x from fun a ha h0 => Nat.le_trans (Nat.le_trans HB1.out.size (Nat.le_trans hO.below.size (by simp))) (hfr a ha h0))
    have HAP := Lib.hid hap
    have HG5 := Lib.hid hg5
    have HSH2 := Lib.hid (show x.sh = (nm, ss) from by rw [<- hnm, <- hss]; rfl)
    have HIX := Lib.hid (show idxL (names Y) x.name = idxL (names Y) nm from by rw [hnm])
    have HYL := Lib.hid (show Y.length <= k from by have h := congrArg List.length HY.out; rw [List.length_map] at h; have h2 := behind_len ((X.take k).map Shp.sh); rw [List.length_map, List.length_take] at h2; omega)
    clear r0 r1 hO hnm hss hx hfr hbl hap hS5 hg5 hgr d0 d1
    go_wp2_with fail
    refine (shapeAt_any nm A5 Y.length c5 Y _ hm5 hl5 HS5.out).mono ?_
    rintro e w6 ⟨rfl, rfl⟩
    by_cases hi : idxL (names Y) nm < 0
    ·
     have HM := Lib.hid (merge_app (X := Y) (x := x) (by rw [HIX.out]; exact hi))
     obtain ⟨ix, hix⟩ : ∃ ix, idxL (names Y) nm = ix := ⟨_, rfl⟩
     rw [hix] at hi ⊢
     clear hix HIX
     have hyb : Y.length < 1099511627776 := by have := HYL.out; omega
     go_wp2_with (at_builtin; refine wpList_out rfl (.tmp 58) (.tmp 60) rfl HO6.out x HX6.out HAP.out rfl rfl hyb ?_; intro v7 w7 h7; have HO7 := Lib.hid h7; clear h7)
     go_roundg (N - (k + 1))
     case measure => have := HG.out; omega
     case rel =>
      refine ⟨k + 1, Y ++ [x], rfl, by omega, by go_num, HO7.out, ?_, fun z hz => by
       rcases List.mem_append.1 hz with hz | hz
       ·
        exact HFY.out z hz
       obtain rfl : z = x := by simpa using hz
       exact HFX.out⟩
      rw [<- HM.out, HTK.out, HSH2.out, HY.out]
      unfold behindC
      rw [List.foldl_append]
      rfl
    obtain ⟨i, hii, hil⟩ := idxL_lt hi
    have hil2 : i < Y.length := by simpa [names] using hil
    have HM := Lib.hid (merge_set (X := Y) (x := x) (k := i) (by rw [HIX.out]; exact hii))
    rw [hii]
    clear hii hi HIX hil
    obtain ⟨g, rfl, hgb⟩ := HG5.out (by omega)
    have hrow := HO6.out.row
    have f0 := hrow.frozenAt (i * 2)
    have f1 := hrow.frozenAt (i * 2 + 1)
    have o0 : wc.cell? ⟨g, i * 2, none⟩ = some (.string Y[i].name) := (hrow.cellAt (i * 2) (by omega)).trans (cellsL_at Y i hil2).1
    have o1 : wc.cell? ⟨g, i * 2 + 1, none⟩ = some (.slice Y[i].A Y[i].len Y[i].cap) := (hrow.cellAt (i * 2 + 1) (by omega)).trans (cellsL_at Y i hil2).2
    have HPUT := Lib.hid (HO6.out.put i x HX6.out (fun a ha h0 e => HAP.out a ha h0 (by rw [e]; rfl)))
    clear hrow
    go_wp2_with fail
    go_roundg (N - (k + 1))
    case measure => have := HG.out; omega
    case rel =>
     refine ⟨k + 1, Y.set i x, rfl, by omega, by go_num, by have h := HPUT.out; rw [List.length_set] at h; exact h, ?_, fun z hz => by
      rcases List.mem_or_eq_of_mem_set hz with hz | rfl
      ·
       exact HFY.out z hz
      exact HFX.out⟩
     rw [<- HM.out, HTK.out, HSH2.out, HY.out]
     unfold behindC
     rw [List.foldl_append]
     rfl
  obtain ⟨m, rfl⟩ : ∃ m, k = sl + m := ⟨k - sl, by omega⟩
  have hml : m < l2 := by have := HN.out; omega
  obtain ⟨b, o, rfl, hbw, hrow⟩ := HS2.out.at_ (by omega)
  have hbr : b < wr.heap.size := Nat.lt_of_lt_of_le hbw hO.below.size
  have hk2 : m < X2.length := by rw [H2.out.size]; omega
  have hxe : X[sl + m] = X2[m] := by
   simp only [<- HX.out]
   rw [List.getElem_append_right (by rw [H1.out.size]; omega)]
   congr 1
   rw [H1.out.size]; omega
  rw [hxe] at HTK hle
  have r0 : _ := (hO.below.cell (p := ⟨b, o + m * 2, none⟩) hbw).trans (hrow m hk2).1
  have r1 : _ := (hO.below.cell (p := ⟨b, o + m * 2 + 1, none⟩) hbw).trans (hrow m hk2).2
  have HXK := Lib.hid (ShapeAt.below (HS2.out.each X2[m] (List.getElem_mem hk2)) hO.below)
  clear hrow hxe
  generalize X2[m] = s at r0 r1 HXK HTK hle
  obtain ⟨nm, As, ls, cs, ss⟩ := s
  simp only at r0 r1 hle
  go_upto_region 9 with fail
  go_cut [8] (fun v wx => NewShp (wr.alloc (.cells #[.string nm, .slice As ls cs] 53)) wx nm ss v)
  case first =>
   obtain ⟨wb, hwb⟩ : ∃ wb : World, wb = wr.alloc (.cells #[.string nm, .slice As ls cs] 53) := ⟨_, rfl⟩
   have k0 : wb.cell? ⟨wr.heap.size, 0, none⟩ = some (.string nm) := by rw [hwb]; simp
   have k1 : wb.cell? ⟨wr.heap.size, 1, none⟩ = some (.slice As ls cs) := by rw [hwb]; simp
   have hsb : wr.heap.size < wb.heap.size := by rw [hwb]; simp
   have hbx : Below wr.heap.size wr wb := by rw [hwb]; exact (Below.refl _ _).alloc (Nat.le_refl _) _
   have HXB := Lib.hid (ShapeAt.below HXK.out hbx)
   have HFL := Lib.hid (show [ss].flatten = ss from by simp)
   have HLS := Lib.hid HXB.out.strs.size
   have hflat : [ss].flatten.length <= 1099511627776 := by rw [HFL.out, HLS.out]; exact hle
   rw [<- hwb]
   have HWB := Lib.hid hwb
   clear hwb hbx r0 r1 hO HO d0 d1
   have hnx := World.new_ne wb _ k0
   have hnx2 : wb.heap.size + 1 ≠ wr.heap.size := by omega
   have HK0 := Lib.hid k0
   have HK1 := Lib.hid k1
   go_region_held3 (fun w' => w'.cell? ⟨wr.heap.size, 0, none⟩ = some (.string nm) /\ w'.cell? ⟨wr.heap.size, 1, none⟩ = some (.slice As ls cs)) (go_keep)
    (first
      | (go_at_call 21; (with_reducible show Calls _ _ _ ((wb.alloc (.cells #[.slice As ls cs] 23)).drew) _); refine (texts_any (some ⟨wb.heap.size, 0, none⟩) 1 1 [ss] ((wb.alloc (.cells #[.slice As ls cs] 23)).drew) (by unfold maxLen; omega) (by omega) (rows_one (c := cs) (za wb #[.slice As ls cs] 23 0) (HXB.out.strs.below ((show Below wb.heap.size wb ((wb.alloc (.cells #[.slice As ls cs] 23)).drew) from ((Below.refl wb.heap.size wb).alloc (Nat.le_refl _) _).drew))) HXB.out.le HXB.out.cap_) hflat).mono ?_; rintro e w3 ⟨vc, rfl, hown, hb⟩; rw [HFL.out, HLS.out] at hown; have m0 : w3.cell? ⟨wr.heap.size, 0, none⟩ = some (.string nm) := (hb.cell (p := ⟨wr.heap.size, 0, none⟩) (Nat.lt_of_lt_of_le hsb ((show Below wb.heap.size wb ((wb.alloc (.cells #[.slice As ls cs] 23)).drew) from ((Below.refl wb.heap.size wb).alloc (Nat.le_refl _) _).drew)).size)).trans ((((show Below wb.heap.size wb ((wb.alloc (.cells #[.slice As ls cs] 23)).drew) from ((Below.refl wb.heap.size wb).alloc (Nat.le_refl _) _).drew)).cell (p := ⟨wr.heap.size, 0, none⟩) hsb).trans HK0.out); have m1 : w3.cell? ⟨wr.heap.size, 1, none⟩ = some (.slice As ls cs) := (hb.cell (p := ⟨wr.heap.size, 1, none⟩) (Nat.lt_of_lt_of_le hsb ((show Below wb.heap.size wb ((wb.alloc (.cells #[.slice As ls cs] 23)).drew) from ((Below.refl wb.heap.size wb).alloc (Nat.le_refl _) _).drew)).size)).trans ((((show Below wb.heap.size wb ((wb.alloc (.cells #[.slice As ls cs] 23)).drew) from ((Below.refl wb.heap.size wb).alloc (Nat.le_refl _) _).drew)).cell (p := ⟨wr.heap.size, 1, none⟩) hsb).trans HK1.out); have n0a := fun h => hb.cell (p := ⟨wb.heap.size, 0, none⟩) h; have f0a := fun h => hb.frozen (p := ⟨wb.heap.size, 0, none⟩) h; have n1a := fun h => hb.cell (p := ⟨wb.heap.size, 1, none⟩) h; have f1a := fun h => hb.frozen (p := ⟨wb.heap.size, 1, none⟩) h; have n0b := fun h => hb.cell (p := ⟨wb.heap.size + 1, 0, none⟩) h; have f0b := fun h => hb.frozen (p := ⟨wb.heap.size + 1, 0, none⟩) h; have n1b := fun h => hb.cell (p := ⟨wb.heap.size + 1, 1, none⟩) h; have f1b := fun h => hb.frozen (p := ⟨wb.heap.size + 1, 1, none⟩) h; have HBC := Lib.hid hb; have HBW := Lib.hid ((show Below wb.heap.size wb ((wb.alloc (.cells #[.slice As ls cs] 23)).drew) from ((Below.refl wb.heap.size wb).alloc (Nat.le_refl _) _).drew)); have HFR := Lib.hid (zv hown); obtain ⟨A4, c4, hv4, hst, hl4, hm4⟩ := strsAt_owned hown; subst hv4; have HST := Lib.hid hst; clear hb hown hst; (try simp at n0a); (try simp at f0a); (try simp at n1a); (try simp at f1a); (try simp at n0b); (try simp at f0b); (try simp at n1b); (try simp at f1b))
      | (go_at_call 21; (with_reducible show Calls _ _ _ (((wb.alloc (.cells #[.slice As ls cs] 23)).alloc (.cells #[.string ⟨#[]⟩, .slice none 0 0] 53)).drew) _); refine (texts_any (some ⟨wb.heap.size, 0, none⟩) 1 1 [ss] (((wb.alloc (.cells #[.slice As ls cs] 23)).alloc (.cells #[.string ⟨#[]⟩, .slice none 0 0] 53)).drew) (by unfold maxLen; omega) (by omega) (rows_one (c := cs) ((World.cell?_alloc_lt (wb.alloc (.cells #[.slice As ls cs] 23)) (.cells #[.string ⟨#[]⟩, .slice none 0 0] 53) ⟨wb.heap.size, 0, none⟩ (by simp)).trans (za wb #[.slice As ls cs] 23 0)) (HXB.out.strs.below ((show Below wb.heap.size wb (((wb.alloc (.cells #[.slice As ls cs] 23)).alloc (.cells #[.string ⟨#[]⟩, .slice none 0 0] 53)).drew) from (((Below.refl wb.heap.size wb).alloc (Nat.le_refl _) _).alloc (by simp) _).drew))) HXB.out.le HXB.out.cap_) hflat).mono ?_; rintro e w3 ⟨vc, rfl, hown, hb⟩; rw [HFL.out, HLS.out] at hown; have m0 : w3.cell? ⟨wr.heap.size, 0, none⟩ = some (.string nm) := (hb.cell (p := ⟨wr.heap.size, 0, none⟩) (Nat.lt_of_lt_of_le hsb ((show Below wb.heap.size wb (((wb.alloc (.cells #[.slice As ls cs] 23)).alloc (.cells #[.string ⟨#[]⟩, .slice none 0 0] 53)).drew) from (((Below.refl wb.heap.size wb).alloc (Nat.le_refl _) _).alloc (by simp) _).drew)).size)).trans ((((show Below wb.heap.size wb (((wb.alloc (.cells #[.slice As ls cs] 23)).alloc (.cells #[.string ⟨#[]⟩, .slice none 0 0] 53)).drew) from (((Below.refl wb.heap.size wb).alloc (Nat.le_refl _) _).alloc (by simp) _).drew)).cell (p := ⟨wr.heap.size, 0, none⟩) hsb).trans HK0.out); have m1 : w3.cell? ⟨wr.heap.size, 1, none⟩ = some (.slice As ls cs) := (hb.cell (p := ⟨wr.heap.size, 1, none⟩) (Nat.lt_of_lt_of_le hsb ((show Below wb.heap.size wb (((wb.alloc (.cells #[.slice As ls cs] 23)).alloc (.cells #[.string ⟨#[]⟩, .slice none 0 0] 53)).drew) from (((Below.refl wb.heap.size wb).alloc (Nat.le_refl _) _).alloc (by simp) _).drew)).size)).trans ((((show Below wb.heap.size wb (((wb.alloc (.cells #[.slice As ls cs] 23)).alloc (.cells #[.string ⟨#[]⟩, .slice none 0 0] 53)).drew) from (((Below.refl wb.heap.size wb).alloc (Nat.le_refl _) _).alloc (by simp) _).drew)).cell (p := ⟨wr.heap.size, 1, none⟩) hsb).trans HK1.out); have n0a := fun h => hb.cell (p := ⟨wb.heap.size, 0, none⟩) h; have f0a := fun h => hb.frozen (p := ⟨wb.heap.size, 0, none⟩) h; have n1a := fun h => hb.cell (p := ⟨wb.heap.size, 1, none⟩) h; have f1a := fun h => hb.frozen (p := ⟨wb.heap.size, 1, none⟩) h; have n0b := fun h => hb.cell (p := ⟨wb.heap.size + 1, 0, none⟩) h; have f0b := fun h => hb.frozen (p := ⟨wb.heap.size + 1, 0, none⟩) h; have n1b := fun h => hb.cell (p := ⟨wb.heap.size + 1, 1, none⟩) h; have f1b := fun h => hb.frozen (p := ⟨wb.heap.size + 1, 1, none⟩) h; have HBC := Lib.hid hb; have HBW := Lib.hid ((show Below wb.heap.size wb (((wb.alloc (.cells #[.slice As ls cs] 23)).alloc (.cells #[.string ⟨#[]⟩, .slice none 0 0] 53)).drew) from (((Below.refl wb.heap.size wb).alloc (Nat.le_refl _) _).alloc (by simp) _).drew)); have HFR := Lib.hid (zv hown); obtain ⟨A4, c4, hv4, hst, hl4, hm4⟩ := strsAt_owned hown; subst hv4; have HST := Lib.hid hst; clear hb hown hst; (try simp at n0a); (try simp at f0a); (try simp at n1a); (try simp at f1a); (try simp at n0b); (try simp at f0b); (try simp at n1b); (try simp at f1b))
      | (go_at_call 21; (with_reducible show Calls _ _ _ (((wb.alloc (.cells #[.string ⟨#[]⟩, .slice none 0 0] 53)).alloc (.cells #[.slice As ls cs] 23)).drew) _); refine (texts_any (some ⟨wb.heap.size + 1, 0, none⟩) 1 1 [ss] (((wb.alloc (.cells #[.string ⟨#[]⟩, .slice none 0 0] 53)).alloc (.cells #[.slice As ls cs] 23)).drew) (by unfold maxLen; omega) (by omega) (rows_one (c := cs) (by rw [show wb.heap.size + 1 = (wb.alloc (.cells #[.string ⟨#[]⟩, .slice none 0 0] 53)).heap.size from by simp]; exact za (wb.alloc (.cells #[.string ⟨#[]⟩, .slice none 0 0] 53)) #[.slice As ls cs] 23 0) (HXB.out.strs.below ((show Below wb.heap.size wb (((wb.alloc (.cells #[.string ⟨#[]⟩, .slice none 0 0] 53)).alloc (.cells #[.slice As ls cs] 23)).drew) from (((Below.refl wb.heap.size wb).alloc (Nat.le_refl _) _).alloc (by simp) _).drew))) HXB.out.le HXB.out.cap_) hflat).mono ?_; rintro e w3 ⟨vc, rfl, hown, hb⟩; rw [HFL.out, HLS.out] at hown; have m0 : w3.cell? ⟨wr.heap.size, 0, none⟩ = some (.string nm) := (hb.cell (p := ⟨wr.heap.size, 0, none⟩) (Nat.lt_of_lt_of_le hsb ((show Below wb.heap.size wb (((wb.alloc (.cells #[.string ⟨#[]⟩, .slice none 0 0] 53)).alloc (.cells #[.slice As ls cs] 23)).drew) from (((Below.refl wb.heap.size wb).alloc (Nat.le_refl _) _).alloc (by simp) _).drew)).size)).trans ((((show Below wb.heap.size wb (((wb.alloc (.cells #[.string ⟨#[]⟩, .slice none 0 0] 53)).alloc (.cells #[.slice As ls cs] 23)).drew) from (((Below.refl wb.heap.size wb).alloc (Nat.le_refl _) _).alloc (by simp) _).drew)).cell (p := ⟨wr.heap.size, 0, none⟩) hsb).trans HK0.out); have m1 : w3.cell? ⟨wr.heap.size, 1, none⟩ = some (.slice As ls cs) := (hb.cell (p := ⟨wr.heap.size, 1, none⟩) (Nat.lt_of_lt_of_le hsb ((show Below wb.heap.size wb (((wb.alloc (.cells #[.string ⟨#[]⟩, .slice none 0 0] 53)).alloc (.cells #[.slice As ls cs] 23)).drew) from (((Below.refl wb.heap.size wb).alloc (Nat.le_refl _) _).alloc (by simp) _).drew)).size)).trans ((((show Below wb.heap.size wb (((wb.alloc (.cells #[.string ⟨#[]⟩, .slice none 0 0] 53)).alloc (.cells #[.slice As ls cs] 23)).drew) from (((Below.refl wb.heap.size wb).alloc (Nat.le_refl _) _).alloc (by simp) _).drew)).cell (p := ⟨wr.heap.size, 1, none⟩) hsb).trans HK1.out); have n0a := fun h => hb.cell (p := ⟨wb.heap.size, 0, none⟩) h; have f0a := fun h => hb.frozen (p := ⟨wb.heap.size, 0, none⟩) h; have n1a := fun h => hb.cell (p := ⟨wb.heap.size, 1, none⟩) h; have f1a := fun h => hb.frozen (p := ⟨wb.heap.size, 1, none⟩) h; have n0b := fun h => hb.cell (p := ⟨wb.heap.size + 1, 0, none⟩) h; have f0b := fun h => hb.frozen (p := ⟨wb.heap.size + 1, 0, none⟩) h; have n1b := fun h => hb.cell (p := ⟨wb.heap.size + 1, 1, none⟩) h; have f1b := fun h => hb.frozen (p := ⟨wb.heap.size + 1, 1, none⟩) h; have HBC := Lib.hid hb; have HBW := Lib.hid ((show Below wb.heap.size wb (((wb.alloc (.cells #[.string ⟨#[]⟩, .slice none 0 0] 53)).alloc (.cells #[.slice As ls cs] 23)).drew) from (((Below.refl wb.heap.size wb).alloc (Nat.le_refl _) _).alloc (by simp) _).drew)); have HFR := Lib.hid (zv hown); obtain ⟨A4, c4, hv4, hst, hl4, hm4⟩ := strsAt_owned hown; subst hv4; have HST := Lib.hid hst; clear hb hown hst; (try simp at n0a); (try simp at f0a); (try simp at n1a); (try simp at f1a); (try simp at n0b); (try simp at f0b); (try simp at n1b); (try simp at f1b)))
   all_goals (go_wp2_with fail)
   all_goals go_meet
   all_goals rw [<- HWB.out]
   all_goals first
    | exact newShp_1 (HBW.out.trans (HBC.out.mono HBW.out.size)) HST.out (fun a ha => Nat.le_trans HBW.out.size (HFR.out _ (by rw [ha]; rfl))) HXB.out.wide HXB.out.each hl4 hm4
    | exact newShp_3 (W := ((wb.alloc (.cells #[.slice As ls cs] 23)).alloc (.cells #[.string ⟨#[]⟩, .slice none 0 0] 53)).drew) (p := wb.heap.size + 1) (by omega) (by rw [show wb.heap.size + 1 = (wb.alloc (.cells #[.slice As ls cs] 23)).heap.size from by simp]; exact za (wb.alloc (.cells #[.slice As ls cs] 23)) #[.string ⟨#[]⟩, .slice none 0 0] 53 0) (by rw [show wb.heap.size + 1 = (wb.alloc (.cells #[.slice As ls cs] 23)).heap.size from by simp]; exact za (wb.alloc (.cells #[.slice As ls cs] 23)) #[.string ⟨#[]⟩, .slice none 0 0] 53 1) HBW.out HBC.out HST.out (fun a ha => HFR.out _ (by rw [ha]; rfl)) HXB.out.wide HXB.out.each hl4 hm4
    | exact newShp_3 (W := ((wb.alloc (.cells #[.string ⟨#[]⟩, .slice none 0 0] 53)).alloc (.cells #[.slice As ls cs] 23)).drew) (p := wb.heap.size) (by omega) ((World.cell?_alloc_lt (wb.alloc (.cells #[.string ⟨#[]⟩, .slice none 0 0] 53)) (.cells #[.slice As ls cs] 23) ⟨wb.heap.size, 0, none⟩ (by simp)).trans (za wb #[.string ⟨#[]⟩, .slice none 0 0] 53 0)) ((World.cell?_alloc_lt (wb.alloc (.cells #[.string ⟨#[]⟩, .slice none 0 0] 53)) (.cells #[.slice As ls cs] 23) ⟨wb.heap.size, 1, none⟩ (by simp)).trans (za wb #[.string ⟨#[]⟩, .slice none 0 0] 53 1)) HBW.out HBC.out HST.out (fun a ha => HFR.out _ (by rw [ha]; rfl)) HXB.out.wide HXB.out.each hl4 hm4
  case rest =>
   obtain ⟨p, x, rfl, hp0, hp1, hnm, hss, p0, p1, hx, hfr, hbl⟩ := hcut
   have hgr := ((Below.refl wr.heap.size wr).alloc (Nat.le_refl _) (.cells #[.string nm, .slice As ls cs] 53)).trans (hbl.mono (by simp))
   have q0 : wc.cell? ⟨wr.heap.size, 0, none⟩ = some (.string nm) := (hbl.cell (p := ⟨wr.heap.size, 0, none⟩) (by simp)).trans (za _ _ _ 0)
   have hq : wr.heap.size < wc.heap.size := Nat.lt_of_lt_of_le (by simp) hbl.size
   have hap : ∀ a, x.A = some a -> 0 < x.len -> u5.ownBlock ≠ some a.block := fun a ha h0 => HO.out.free (Nat.le_trans (by simp) (hfr a ha h0))
   obtain ⟨A5, c5, rfl, hl5, hm5, hS5, hg5⟩ := hO.form
   have HO6 := Lib.hid (HO.out.later hgr)
   have HS5 := Lib.hid (hS5.below hgr)
   have HX6 := Lib.hid hx
   have HFX := Lib.hid (show Fr w x from fun a ha h0 => Nat.le_trans (Nat.le_trans HB1.out.size (Nat.le_trans hO.below.size (by simp))) (hfr a ha h0))
   have HAP := Lib.hid hap
   have HG5 := Lib.hid hg5
   have HSH2 := Lib.hid (show x.sh = (nm, ss) from by rw [<- hnm, <- hss]; rfl)
   have HIX := Lib.hid (show idxL (names Y) x.name = idxL (names Y) nm from by rw [hnm])
   have HYL := Lib.hid (show Y.length <= (sl + m) from by have h := congrArg List.length HY.out; rw [List.length_map] at h; have h2 := behind_len ((X.take (sl + m)).map Shp.sh); rw [List.length_map, List.length_take] at h2; omega)
   clear r0 r1 hO hnm hss hx hfr hbl hap hS5 hg5 hgr d0 d1
   go_wp2_with fail
   refine (shapeAt_any nm A5 Y.length c5 Y _ hm5 hl5 HS5.out).mono ?_
   rintro e w6 ⟨rfl, rfl⟩
   by_cases hi : idxL (names Y) nm < 0
   ·
    have HM := Lib.hid (merge_app (X := Y) (x := x) (by rw [HIX.out]; exact hi))
    obtain ⟨ix, hix⟩ : ∃ ix, idxL (names Y) nm = ix := ⟨_, rfl⟩
    rw [hix] at hi ⊢
    clear hix HIX
    have hyb : Y.length < 1099511627776 := by have := HYL.out; omega
    go_wp2_with (at_builtin; refine wpList_out rfl (.tmp 58) (.tmp 60) rfl HO6.out x HX6.out HAP.out rfl rfl hyb ?_; intro v7 w7 h7; have HO7 := Lib.hid h7; clear h7)
    go_roundg (N - ((sl + m) + 1))
    case measure => have := HG.out; omega
    case rel =>
     refine ⟨(sl + m) + 1, Y ++ [x], rfl, by omega, by go_num, HO7.out, ?_, fun z hz => by
      rcases List.mem_append.1 hz with hz | hz
      ·
       exact HFY.out z hz
      obtain rfl : z = x := by simpa using hz
      exact HFX.out⟩
     rw [<- HM.out, HTK.out, HSH2.out, HY.out]
     unfold behindC
     rw [List.foldl_append]
     rfl
   obtain ⟨i, hii, hil⟩ := idxL_lt hi
   have hil2 : i < Y.length := by simpa [names] using hil
   have HM := Lib.hid (merge_set (X := Y) (x := x) (k := i) (by rw [HIX.out]; exact hii))
   rw [hii]
   clear hii hi HIX hil
   obtain ⟨g, rfl, hgb⟩ := HG5.out (by omega)
   have hrow := HO6.out.row
   have f0 := hrow.frozenAt (i * 2)
   have f1 := hrow.frozenAt (i * 2 + 1)
   have o0 : wc.cell? ⟨g, i * 2, none⟩ = some (.string Y[i].name) := (hrow.cellAt (i * 2) (by omega)).trans (cellsL_at Y i hil2).1
   have o1 : wc.cell? ⟨g, i * 2 + 1, none⟩ = some (.slice Y[i].A Y[i].len Y[i].cap) := (hrow.cellAt (i * 2 + 1) (by omega)).trans (cellsL_at Y i hil2).2
   have HPUT := Lib.hid (HO6.out.put i x HX6.out (fun a ha h0 e => HAP.out a ha h0 (by rw [e]; rfl)))
   clear hrow
   go_wp2_with fail
   go_roundg (N - ((sl + m) + 1))
   case measure => have := HG.out; omega
   case rel =>
    refine ⟨(sl + m) + 1, Y.set i x, rfl, by omega, by go_num, by have h := HPUT.out; rw [List.length_set] at h; exact h, ?_, fun z hz => by
     rcases List.mem_or_eq_of_mem_set hz with hz | rfl
     ·
      exact HFY.out z hz
     exact HFX.out⟩
    rw [<- HM.out, HTK.out, HSH2.out, HY.out]
    unfold behindC
    rw [List.foldl_append]
    rfl
 obtain rfl : k = N := by omega
 have hlt2 : ¬ (k : Int) < (sl : Int) + l2 := by have := HN.out; omega
 obtain ⟨A5, c5, rfl, hl5, hm5, hS5, hg5⟩ := hO.form
 have HG5 := Lib.hid hg5
 clear hO hg5
 have HS5 := Lib.hid hS5
 clear hS5
 go_wp2_with fail
 go_ret
 refine ⟨A5, _, c5, Y, rfl, hl5, hm5, HS5.out, ?_, HB1.out.trans (HO.out.below.mono HB1.out.size), fun h0 => by
  obtain ⟨g, e, hg⟩ := HG5.out h0
  exact ⟨g, e, Nat.le_trans HB1.out.size hg⟩, HFY.out⟩
 have h := HY.out
 rwa [List.take_of_length_le (by have := HN.out; rw [<- HX.out, List.length_append, H1.out.size, H2.out.size]; omega)] at h
end Sh
end Go.Proofs.YtjmeodadkjcmmaaDoor
