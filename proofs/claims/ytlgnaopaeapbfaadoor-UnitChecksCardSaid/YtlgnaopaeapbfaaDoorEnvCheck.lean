/- Contract of unit.Check. -/
import Derived.Test.YtlgnaopaeapbfaaDoorEnv
namespace Go.Proofs.YtlgnaopaeapbfaaDoor
open Go.RowKit Go.ChangeShapes Go.WideShapes Go.Deep Go.ChangeAt
set_option linter.unusedVariables false

/-- An environment in memory. -/
structure EnvAt (w : World) (G : Option Addr) (gl gc : Nat) (gs : List ByteArray) (S : Option Addr) (sl sc : Nat) (L : List Shp) : Prop where
  globs : StrsAt w G gl gs
  each : ∀ s ∈ gs, s.size ≤ maxLen
  gle : gl ≤ gc
  gcap : gc ≤ maxLen
  shapes : ShapesAt w S sl L
  sle : sl ≤ sc
  scap : sc ≤ maxLen
theorem EnvAt.below {w w' : World} {G S : Option Addr} {gl gc sl sc : Nat} {gs : List ByteArray} {L : List Shp} (h : EnvAt w G gl gc gs S sl sc L) (hb : Below w.heap.size w w') : EnvAt w' G gl gc gs S sl sc L :=
  ⟨h.globs.below hb, h.each, h.gle, h.gcap, h.shapes.below hb, h.sle, h.scap⟩

/-- How far unit.Check has come: its box stands, what was there stays. -/
structure InEnv (w wr : World) (G : Option Addr) (gl gc : Nat) (S : Option Addr) (sl sc : Nat) : Prop where
  c0 : wr.cell? ⟨w.heap.size, 0, none⟩ = some (.slice G gl gc)
  c1 : wr.cell? ⟨w.heap.size, 1, none⟩ = some (.slice S sl sc)
  lt : w.heap.size < wr.heap.size
  below : Below w.heap.size w wr
theorem InEnv.next {w wr w' : World} {G S : Option Addr} {gl gc sl sc : Nat} (h : InEnv w wr G gl gc S sl sc) (hb : Below wr.heap.size wr w') : InEnv w w' G gl gc S sl sc :=
  ⟨(hb.cell (p := ⟨w.heap.size, 0, none⟩) h.lt).trans h.c0, (hb.cell (p := ⟨w.heap.size, 1, none⟩) h.lt).trans h.c1, Nat.lt_of_lt_of_le h.lt hb.size, h.below.trans (hb.mono (Nat.le_of_lt h.lt))⟩
theorem InEnv.start (w : World) (G S : Option Addr) (gl gc sl sc : Nat) (t : TypeId) : InEnv w (w.alloc (.cells #[.slice G gl gc, .slice S sl sc] t)) G gl gc S sl sc :=
  ⟨cell_new _ _ _ _, cell_new _ _ _ _, by simp, (Below.refl _ _).alloc (Nat.le_refl _) _⟩

set_option maxHeartbeats 2000000 in
theorem envCheck_any (w : World) (G S : Option Addr) (gl gc sl sc : Nat) (gs : List ByteArray) (L : List Shp) (hE : EnvAt w G gl gc gs S sl sc L) (hm : UMaps w) :
    Calls Tryd.prog 9 #[.agg #[.slice G gl gc, .slice S sl sc]] w fun e w' => e = .returned (.int .i64 (envF gs L)) ∧ Below w.heap.size w w' := by
  have hgl : gl ≤ 9223372036854775807 := by have := hE.gle; have := hE.gcap; unfold maxLen at this; omega
  have hsl : sl ≤ 9223372036854775807 := by have := hE.sle; have := hE.scap; unfold maxLen at this; omega
  have HE := Lib.hid hE
  have HM := Lib.hid hm
  have HIN := Lib.hid (InEnv.start w G S gl gc sl sc 30)
  clear hE hm
  by_cases hsz : 40 < gl ∨ 8 < sl
  · have HF := Lib.hid (envF_size (gs := gs) (L := L) (by rw [HE.out.globs.size, HE.out.shapes.size]; exact hsz))
    have hsz' : (40 < gl) ∨ (¬ 40 < gl ∧ 8 < sl) := by omega
    clear hsz
    rcases hsz' with h | ⟨h, h'⟩
    all_goals
      go_enter Tryd.func9, Tryd.ntmps9
      go_wp2_with fail
      go_ret
      exact ⟨ret_i HF.out.symm, HIN.out.below⟩
  · have HSZ := Lib.hid (show ¬ (40 < gs.length ∨ 8 < L.length) from by rw [HE.out.globs.size, HE.out.shapes.size]; exact hsz)
    have h40 : gl ≤ 40 := by omega
    have h8 : sl ≤ 8 := by omega
    clear hsz
    go_enter Tryd.func9, Tryd.ntmps9
    go_wp2_with fail
    go_loopg [21] gl (fun g i wr => ∃ k : Nat, g = gl - k ∧ k ≤ gl ∧ i = .int .i64 k ∧ InEnv w wr G gl gc S sl sc ∧ ∀ j, j < k → globF gs j = 0)
    case atStart => exact ⟨0, by omega, by omega, rfl, HIN.out, fun j h => absurd h (by omega)⟩
    case round =>
      obtain ⟨k, hg, hk, rfl, hin, hall⟩ := hrel
      have HG := Lib.hid hg
      have HALL := Lib.hid hall
      have HI := Lib.hid hin
      have c0 := hin.c0
      have c1 := hin.c1
      have hlt0 := hin.lt
      clear hg hall hin
      by_cases hlt : k < gl
      · obtain ⟨b, o, rfl, hbw, hrow⟩ := HE.out.globs.at_ (by omega)
        have hks : k < gs.length := by rw [HE.out.globs.size]; exact hlt
        have hc : wr.cell? ⟨b, o + k, none⟩ = some (.string gs[k]) := (HI.out.below.cell (p := ⟨b, o + k, none⟩) hbw).trans (hrow k hks)
        have hcs : gs[k].size ≤ maxLen := HE.out.each _ (List.getElem_mem hks)
        have HGD := Lib.hid (show gs.getD k ByteArray.empty = gs[k] from by simp [hks])
        clear hrow
        cases hn : freeB gs[k]
        · have HK := Lib.hid (show globF gs k = 4 from by unfold globF; rw [HGD.out, if_pos hn])
          have HN := Lib.hid hn
          clear hn
          go_wp2_with fail
          refine (bindable_any gs[k] hcs wr (HM.out.below HI.out.below)).mono ?_
          rintro e w2 ⟨rfl, hb2⟩
          rw [HN.out]
          have HI2 := Lib.hid (HI.out.next hb2)
          clear hb2
          go_wp2_with fail
          go_ret
          exact ⟨ret_i (envF_glob HSZ.out hks HALL.out HK.out (by decide)).symm, HI2.out.below⟩
        · have HN := Lib.hid hn
          clear hn
          have hkc : k ≤ gc := by have := HE.out.gle; omega
          have hcap : gc ≤ 9223372036854775807 := by have := HE.out.gcap; unfold maxLen at this; omega
          cases hin : inL (gs.take k) gs[k]
          all_goals
            have HK := Lib.hid (show globF gs k = if inL (gs.take k) gs[k] = true then 7 else 0 from by unfold globF; rw [HGD.out, HN.out]; rfl)
            have HINL := Lib.hid hin
            clear hin
            go_wp2_with fail
            refine (bindable_any gs[k] hcs wr (HM.out.below HI.out.below)).mono ?_
            rintro e w2 ⟨rfl, hb2⟩
            rw [HN.out]
            have HI2 := Lib.hid (HI.out.next hb2)
            have d0 := HI2.out.c0
            have hst : StrsAt w2 (some ⟨b, o, none⟩) k (gs.take k) := (HE.out.globs.below HI2.out.below).take hk
            have HST := Lib.hid hst
            clear hst hb2
            go_wp2_with fail
            refine (contains_any gs[k] _ k gc (gs.take k) _ HE.out.gcap hkc HST.out).mono ?_
            rintro e w3 ⟨rfl, rfl⟩
            rw [HINL.out]
          · have hg := HG.out
            go_wp2_with fail
            go_roundg (gl - (k + 1))
            case measure => omega
            case rel =>
              refine ⟨k + 1, rfl, by omega, by go_num, HI2.out, fun j hj => ?_⟩
              by_cases hjk : j = k
              · subst hjk; rw [HK.out, HINL.out]; rfl
              · exact HALL.out j (by omega)
          · go_wp2_with fail
            go_ret
            exact ⟨ret_i (envF_glob (e := 7) HSZ.out hks HALL.out (by rw [HK.out, HINL.out]; rfl) (by decide)).symm, HI2.out.below⟩
      · obtain rfl : k = gl := by omega
        have HGL := Lib.hid (show ∀ j, j < gs.length → globF gs j = 0 from fun j hj => HALL.out j (by rw [← HE.out.globs.size]; exact hj))
        have hskl : k ≤ 40 := h40
        have HI0 := HI
        clear HI HALL HG hk hlt
        go_wp2_with fail
        go_loopg [39] sl (fun g i wr => ∃ m : Nat, g = sl - m ∧ m ≤ sl ∧ i = .int .i64 m ∧ InEnv w wr G k gc S sl sc ∧ ∀ j, j < m → shpF L j = 0)
        case atStart => exact ⟨0, by omega, by omega, rfl, HI0.out, fun j h => absurd h (by omega)⟩
        case round =>
          clear c0 c1 hlt0 HI0
          obtain ⟨m, hg, hm, rfl, hin, hall⟩ := hrel
          have HG := Lib.hid hg
          have HALL := Lib.hid hall
          have HI := Lib.hid hin
          have c0 := hin.c0
          have c1 := hin.c1
          have hlt0 := hin.lt
          clear hg hall hin
          by_cases hlt : m < sl
          · obtain ⟨b, o, rfl, hbw, hrow⟩ := HE.out.shapes.at_ (by omega)
            have hms : m < L.length := by rw [HE.out.shapes.size]; exact hlt
            obtain ⟨x, hx⟩ : ∃ x, x = L[m] := ⟨_, rfl⟩
            have hxat : x.At w := by rw [hx]; exact HE.out.shapes.each _ (List.getElem_mem hms)
            have e0 : wr.cell? ⟨b, o + m * 2, none⟩ = some (.string x.name) := by rw [hx]; exact (HI.out.below.cell (p := ⟨b, o + m * 2, none⟩) hbw).trans (hrow m hms).1
            have e1 : wr.cell? ⟨b, o + m * 2 + 1, none⟩ = some (.slice x.A x.len x.cap) := by rw [hx]; exact (HI.out.below.cell (p := ⟨b, o + m * 2 + 1, none⟩) hbw).trans (hrow m hms).2
            have HX := Lib.hid (show L[m]? = some x from by rw [hx]; exact List.getElem?_eq_getElem hms)
            have HXA := Lib.hid hxat
            clear hrow hx hxat
            have hal : Below wr.heap.size wr (wr.alloc (.cells #[.string x.name, .slice x.A x.len x.cap] 24)) := (Below.refl _ _).alloc (Nat.le_refl _) _
            have HAL := Lib.hid hal
            have HI1 := Lib.hid (HI.out.next hal)
            clear hal
            obtain ⟨f, hf⟩ : ∃ f, f = shapeF x.name x.ss := ⟨_, rfl⟩
            have hfc : f = 0 ∨ ¬ f = 0 := by omega
            have HFF := Lib.hid hf
            clear hf
            rcases hfc with hf0 | hf0
            · have hf1 : (f != 0) = false := by simp [hf0]
              have HF0 := Lib.hid hf0
              clear hf0
              have hmc : m ≤ sc := by have := HE.out.sle; omega
              have hcap : sc ≤ 9223372036854775807 := by have := HE.out.scap; unfold maxLen at this; omega
              cases hin : inL (names (L.take m)) x.name
              all_goals
                have HK := Lib.hid (show shpF L m = if inL (names (L.take m)) x.name = true then 7 else 0 from by unfold shpF; rw [HX.out]; dsimp only; rw [← HFF.out, HF0.out]; rfl)
                have HINL := Lib.hid hin
                clear hin
                go_wp2_with fail
                refine (checkShape_any _ x.name x.A x.len x.cap x.ss (ShapeAt.below HXA.out HI1.out.below) (HM.out.below HI1.out.below)).mono ?_
                rintro e w2 ⟨rfl, hb2⟩
                rw [← HFF.out]
                have HI2 := Lib.hid (HI1.out.next hb2)
                have d0 := HI2.out.c0
                have d1 := HI2.out.c1
                have x0 : w2.cell? ⟨wr.heap.size, 0, none⟩ = some (.string x.name) := box_cell hb2 rfl
                have hwr2 : wr.heap.size < w2.heap.size := Nat.lt_of_lt_of_le (by simp) hb2.size
                have hst : ShapesAt w2 (some ⟨b, o, none⟩) m (L.take m) := (HE.out.shapes.below HI2.out.below).take hm
                have HST := Lib.hid hst
                clear hst hb2
                go_wp2_with fail
                refine (containsFunc_any x.name wr.heap.size 0 _ m sc (L.take m) _ HE.out.scap hmc HST.out x0 hwr2).mono ?_
                rintro e w3 ⟨rfl, hb3⟩
                rw [HINL.out]
                have HI3 := Lib.hid (HI2.out.next hb3)
                clear hb3
              · have hg := HG.out
                go_wp2_with fail
                go_roundg (sl - (m + 1))
                case measure => omega
                case rel =>
                  refine ⟨m + 1, rfl, by omega, by go_num, HI3.out, fun j hj => ?_⟩
                  by_cases hjm : j = m
                  · subst hjm; rw [HK.out, HINL.out]; rfl
                  · exact HALL.out j (by omega)
              · go_wp2_with fail
                go_ret
                exact ⟨ret_i (envF_shp (e := 7) HSZ.out HGL.out hms HALL.out (by rw [HK.out, HINL.out]; rfl) (by decide)).symm, HI3.out.below⟩
            · have hf1 : (f != 0) = true := by simpa using hf0
              have HF0 := Lib.hid hf0
              have HK := Lib.hid (show shpF L m = f from by unfold shpF; rw [HX.out]; dsimp only; rw [← HFF.out, if_pos hf0])
              clear hf0
              go_wp2_with fail
              refine (checkShape_any _ x.name x.A x.len x.cap x.ss (ShapeAt.below HXA.out HI1.out.below) (HM.out.below HI1.out.below)).mono ?_
              rintro e w2 ⟨rfl, hb2⟩
              rw [← HFF.out]
              have HI2 := Lib.hid (HI1.out.next hb2)
              clear hb2
              go_wp2_with fail
              go_ret
              exact ⟨ret_i (envF_shp HSZ.out HGL.out hms HALL.out HK.out HF0.out).symm, HI2.out.below⟩
          · obtain rfl : m = sl := by omega
            go_wp2_with fail
            go_ret
            exact ⟨ret_i (envF_ok HSZ.out HGL.out (fun j hj => HALL.out j (by rw [← HE.out.shapes.size]; exact hj))).symm, HI.out.below⟩
end Go.Proofs.YtlgnaopaeapbfaaDoor
