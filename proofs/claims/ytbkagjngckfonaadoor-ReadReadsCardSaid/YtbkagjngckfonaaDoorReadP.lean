/- Contract of read.Read. Printed by gen_read.py. -/
import Derived.Test.YtbkagjngckfonaaDoorTop
import Derived.Test.YtbkagjngckfonaaDoorDatumP
namespace Go.Proofs.YtbkagjngckfonaaDoor
open Go.RowKit Go.ChangeShapes Go.WideShapes Go.Deep
set_option linter.unusedVariables false

theorem DtIn.clip {w : World} {lo hi : Nat} {k n : Int} {t : ByteArray} {A : Option Addr} {len cap : Nat} {d : Dt} (h : DtIn w lo hi [.int .i64 k, .int .i64 n, .string t, .slice A len cap] d) : DtIn w lo hi [.int .i64 k, .int .i64 n, .string t, .slice A len len] d := by
  cases h with
  | mk _ _ _ _ _ l cs hl a1 a2 row each => exact .mk k n t A l.length l cs hl (Nat.le_refl _) (by omega) row each
set_option maxHeartbeats 1000000 in
theorem clip_any (A : Option Addr) (len cap : Nat) (h : len ≤ cap) (hc : cap ≤ maxLen) (w : World) : Calls Tryd.prog 17 #[.slice A len cap] w fun e w' => e = .returned (.slice A len len) ∧ w' = w := by
  have h0 : (0 : Int) ≤ (len : Int) := Int.natCast_nonneg _
  have h1 : (len : Int) ≤ (cap : Int) := by omega
  have h2 : (cap : Int) ≤ 9223372036854775807 := by unfold maxLen at hc; omega
  go_enter Tryd.func17, Tryd.ntmps17
  go_wp2_with fail
  go_ret
  exact ⟨by simp, rfl⟩

set_option maxHeartbeats 4000000 in
set_option maxRecDepth 100000 in
theorem read_any (s : ByteArray) (w : World) (hT : Tab w) (hE : Errs w) : Calls Tryd.prog 7 #[.string s] w (TopPost (topR s) w) := by
  by_cases hbig : 3000 < s.size
  · have HR := Lib.hid (show topR s = .bad 0 1 from by unfold topR; rw [if_pos hbig])
    have y1 : 3000 < (s.size : Int) := by omega
    clear hbig hT hE
    go_enter Tryd.func7, Tryd.ntmps7
    go_wp2_with fail
    go_ret3
    rw [HR.out]
    exact ⟨Below.refl _ _, rfl⟩
  have hs : s.size ≤ 3000 := by omega
  have y1 : ¬ 3000 < (s.size : Int) := by omega
  obtain ⟨R, hR⟩ : ∃ R, topR s = R := ⟨_, rfl⟩
  have HR := Lib.hid (show top s 402 (skipA s 0) 0 [] = R from by rw [← hR]; unfold topR; rw [if_neg hbig])
  have HTE := Lib.hid (show ∀ w', Below w.heap.size w w' → Tab w' ∧ Errs w' from fun w' hb => ⟨hT.below hb, hE.below hb⟩)
  rw [hR]
  clear hR hbig hT hE
  have hb0 : Below w.heap.size w (w.alloc (.cells #[.string s, .int .i64 0, .int .i64 0, .int .i64 0] 43)) := (Below.refl _ _).alloc (Nat.le_refl _) _
  obtain ⟨b, hb⟩ : ∃ b, w.heap.size = b := ⟨_, rfl⟩
  have HST0 := Lib.hid (show St (w.alloc (.cells #[.string s, .int .i64 0, .int .i64 0, .int .i64 0] 43)) b s 0 (OkP 0) from by
    subst hb
    refine ⟨by simp, by simp, fun j u hj => ?_, fun o => by simp⟩
    unfold OkP at hj
    have hjl : j < 2 := by
      have := (List.getElem?_eq_some_iff.1 hj).1
      simpa using this
    obtain rfl | rfl : j = 0 ∨ j = 1 := by omega
    all_goals
      cases hj
      simp)
  have HB0 := Lib.hid hb0
  clear hb0
  go_enter Tryd.func7, Tryd.ntmps7
  go_wp2_with fail
  refine (blanks_any _ b s 0 (OkP 0) hs (Nat.zero_le _) HST0.out).mono ?_
  rintro e w1 ⟨rfl, hst1, hon1⟩
  have HST1 := Lib.hid hst1
  have HO1 := Lib.hid hon1
  have hk1 := skipA_le s 0 (Nat.zero_le _)
  have hsz0 : (w.alloc (.cells #[.string s, .int .i64 0, .int .i64 0, .int .i64 0] 43)).heap.size = b + 1 := by rw [← hb]; simp
  have hsz1 := own_bound hon1
  rw [hsz0] at hsz1
  have HBW1 := Lib.hid (show Below w.heap.size w w1 from HB0.out.trans (hon1.below (by omega) (by rw [hsz0]; omega)))
  clear hst1 hon1 HST0
  go_wp2_with fail
  go_loopg [6, 7] 402 (fun g v x wr => ∃ (g0 k cnt : Nat) (Y : List DV), g = g0 ∧ k ≤ s.size ∧ cnt ≤ 400 ∧ 402 ≤ g0 + cnt ∧ Y.length ≤ cnt ∧ St wr b s k (OkP cnt) ∧ OwnAt kitDt 24 (b + 1) wr v Y ∧ b + 1 ≤ wr.heap.size ∧ Below w.heap.size w wr ∧ top s g0 k cnt (Y.map (·.t)) = R)
  case atStart => exact ⟨402, skipA s 0, 0, [], rfl, hk1, by omega, by omega, by simp, HST1.out, OwnAt.start kitDt _ _ _, hsz1, HBW1.out, HR.out⟩
  case round =>
    obtain ⟨g0, k, cnt, Y, hgg, hk, hcnt, hg0, hYc, hst, hown, hbase, hbw, htop⟩ := hrel
    obtain ⟨A, cap, rfl, hYcap, hcap, _⟩ := hown.form
    obtain ⟨g', rfl⟩ : ∃ g', g0 = g' + 1 := ⟨g0 - 1, by omega⟩
    have HGG := Lib.hid hgg
    have HG0 := Lib.hid hg0
    have HYC := Lib.hid hYc
    have HST := Lib.hid hst
    have HOWN := Lib.hid hown
    have HBASE := Lib.hid hbase
    have HBW := Lib.hid hbw
    have HTOP := Lib.hid htop
    have HCAP := Lib.hid hcap
    have HYCAP := Lib.hid hYcap
    have p0 := hst.c0
    have p1 := hst.c1
    have v0 : (0 : Int) ≤ (k : Int) := Int.natCast_nonneg _
    have v1 : (k : Int) ≤ (s.size : Int) := by omega
    clear hgg hg0 hYc hst hown hbase hbw htop hcap hYcap HO1 HST1 HBW1
    by_cases hlt : k < s.size
    · have v2 : (k : Int) < (s.size : Int) := by omega
      go_wp2_with fail
      refine (datum_any b s hs 804 1 k cnt _ (by omega) (by omega) hk hcnt (by omega) HST.out (fun w' ho => HTE.out w' (HBW.out.trans ((ho.below (by omega) (by have := HBW.out.size; omega)))))).mono ?_
      rintro e w3 ⟨kk, nn, tt, A3, len3, cap3, rfl, ho3, hm⟩
      have hfine := pdl_fine s 804 false 1 k cnt [] hk hcnt (by simp only [Bool.false_eq_true, if_false]; omega)
      have HO3 := Lib.hid ho3
      have HOWN3 := Lib.hid (HOWN.out.only ho3 (Nat.lt_succ_self _))
      have HB3 := Lib.hid (Nat.le_trans HBASE.out (own_bound ho3))
      have HBW3 := Lib.hid (show Below w.heap.size w w3 from HBW.out.trans (ho3.below (by omega) (by have := HBASE.out; omega)))
      have hbl : b < w3.heap.size := by have := HB3.out; omega
      clear p0 p1 ho3
      cases hr : pdl s 804 false 1 k cnt [] with
      | bad p er =>
        rw [hr] at hm hfine
        obtain ⟨c', h8⟩ := hm
        have hen : er ≠ 0 := hfine.2
        have HPF := Lib.hid (show R = .bad p er from by rw [← HTOP.out]; exact top_bad hlt hr)
        have p1 := h8.c1
        have p3 : w3.cell? ⟨b, 3, none⟩ = some (.int .i64 er) := h8.rest 1 _ rfl
        have t1 : (er == 0) = false := by simpa using hen
        have t2 : (er != 0) = true := by simpa using hen
        clear hfine hr h8 hen
        go_wp2_with fail
        go_quiet (fail)
        go_wp2_with fail
        go_ret3
        rw [HPF.out]
        exact ⟨below_drewN (HBW3.out.alloc HBW3.out.size _) _, rfl⟩
      | good a cc y =>
        rw [hr] at hm hfine
        obtain ⟨h8, hdt⟩ := hm
        obtain ⟨ha, hcc, hcc4⟩ := hfine
        have hcc' : cnt < cc := by
          rcases hcc with h | ⟨h, _⟩
          · exact h
          · cases h
        have HPF := Lib.hid (show top s g' (skipA s a) cc (Y.map (·.t) ++ [y]) = R from by rw [← HTOP.out]; exact (top_good hlt hr).symm)
        have p3 : w3.cell? ⟨b, 3, none⟩ = some (.int .i64 0) := h8.rest 1 _ rfl
        obtain ⟨dx, hdc, hdx, hdlo, hdhi, hdok⟩ := hdt.view (Nat.le_refl _)
        have HDC := Lib.hid hdc
        have HDX := Lib.hid hdx
        have hbx : Below w3.heap.size w3 (w3.alloc (.cells #[.int .i64 kk, .int .i64 nn, .string tt, .slice A3 len3 cap3] 24)) := (Below.refl _ _).alloc (Nat.le_refl _) _
        have HBX := Lib.hid hbx
        have HOWN4 := Lib.hid (HOWN3.out.new hbx)
        have HS9 := Lib.hid (h8.new hbx)
        have HOK4 := Lib.hid (kitDt.kept _ _ _ none hdok (grown_of_below hbx none) (fun b _ => by simp))
        have hlo2 : wr.heap.size ≤ dx.lo := by rw [hdlo]; exact Nat.le_refl _
        have HFR := Lib.hid (fun q (hq : kitDt.uses dx q) => Nat.le_trans HBASE.out (Nat.le_trans hlo2 hq.1))
        have HAP := Lib.hid (fun q (hq : kitDt.uses dx q) (e : (Value.slice A Y.length cap).ownBlock = some q) => Nat.lt_irrefl _ (Nat.lt_of_lt_of_le (HOWN.out.row.lt q e).2 (Nat.le_trans hlo2 hq.1)))
        have HYB := Lib.hid (show (Y.length + 1) * 56 ≤ 140737488355328 ∧ Y.length + 1 ≤ maxLen by have := HYC.out; unfold maxLen; omega)
        have HB4 := Lib.hid (show b + 1 ≤ (w3.alloc (.cells #[.int .i64 kk, .int .i64 nn, .string tt, .slice A3 len3 cap3] 24)).heap.size from Nat.le_trans HB3.out hbx.size)
        have HBW4 := Lib.hid (show Below w.heap.size w (w3.alloc (.cells #[.int .i64 kk, .int .i64 nn, .string tt, .slice A3 len3 cap3] 24)) from HBW3.out.alloc HBW3.out.size _)
        obtain ⟨i0, I0, I1, I2, I3⟩ := infoDt'
        have HI0 := Lib.hid I0
        have HI1 := Lib.hid I1
        have HI2 := Lib.hid I2
        have HI3 := Lib.hid I3
        clear hr h8 hdt hdc hdx hdlo hdhi hdok hbx I0 I1 I2 I3 hlo2 hcc
        go_wp2_with (at_builtin; refine wpList_own rfl (.tmp 40) (.tmp 42) rfl Tryd.underlying22 HI0.out HI1.out HI2.out HI3.out rfl (by decide) HOWN4.out dx _ (HDC.out.symm) HOK4.out HFR.out HAP.out rfl (by rw [World.size_alloc]; rfl) HYB.out HB4.out ?_; intro v7 w7 h7 hg7 _; have HO7 := Lib.hid h7; have HG7 := Lib.hid hg7; have HS7 := Lib.hid (HS9.out.row hg7 (fun e => by have := (HOWN4.out.row.lt b e).1; omega)); clear h7 hg7)
        refine (blanks_any w7 b s a (OkP cc) hs ha HS7.out).mono ?_
        rintro e w8 ⟨rfl, hst8, hon8⟩
        have HS8 := Lib.hid hst8
        have HO8 := Lib.hid (HO7.out.only hon8 (Nat.lt_succ_self _))
        have hs7 := HG7.out.size
        have HBW8 := Lib.hid (show Below w.heap.size w w8 from (HBW4.out.grown HG7.out HBW4.out.size (fun q hq => by have := (HOWN4.out.row.lt q hq).1; omega)).trans (hon8.below (by omega) (by have := HBW4.out.size; omega)))
        have HB8 := Lib.hid (Nat.le_trans HB4.out (Nat.le_trans hs7 (own_bound hon8)))
        clear hst8 hon8
        have hgg := HGG.out
        go_wp2_with fail
        go_roundg g'
        case measure => omega
        case rel => exact ⟨g', skipA s a, cc, Y ++ [dx], rfl, skipA_le s a ha, hcc4, by have := HG0.out; omega, by have := HYC.out; simp only [List.length_append, List.length_cons, List.length_nil]; omega, HS8.out, HO8.out, HB8.out, HBW8.out, by rw [List.map_append, List.map_cons, List.map_nil, HDX.out]; exact HPF.out⟩
    · have v2 : ¬ (k : Int) < (s.size : Int) := by omega
      have HPF := Lib.hid (show R = .good (Y.map (·.t)) from by rw [← HTOP.out]; exact top_end hlt)
      have HYL := Lib.hid (show Y.length = (Y.map (·.t)).length by simp)
      have hc0 : Y.length ≤ cap := HYCAP.out
      go_wp2_with fail
      refine (clip_any A Y.length cap HYCAP.out HCAP.out _).mono ?_
      rintro e w9 ⟨rfl, rfl⟩
      go_wp2_with fail
      go_ret3
      rw [HPF.out]
      have ht := HOWN.out.tree (lo := w.heap.size) (by omega) 4 0 ⟨#[]⟩
      rw [HYL.out] at ht ⊢
      exact ⟨HBW.out, _, _, rfl, ht.clip⟩
end Go.Proofs.YtbkagjngckfonaaDoor
