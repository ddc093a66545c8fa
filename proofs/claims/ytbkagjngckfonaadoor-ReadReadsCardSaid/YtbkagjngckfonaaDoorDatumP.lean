/- Contract of read's datum. Printed by gen_datum.py. -/
import Derived.Test.YtbkagjngckfonaaDoorDtPut
import Derived.Deep.Cut
namespace Go.Proofs.YtbkagjngckfonaaDoor
open Go.RowKit Go.ChangeShapes Go.WideShapes Go.Deep
set_option linter.unusedVariables false

def BadP (b : Nat) (s : ByteArray) (p : Nat) (er : Int) (w' : World) : Prop := ∃ c : Int, St w' b s p [.int .i64 c, .int .i64 er]
def OkP (c : Nat) : List Value := [.int .i64 c, .int .i64 0]
def DatumP (b : Nat) (s : ByteArray) (F : Nat) : Prop := ∀ (lev : Int) (k cnt : Nat) (w : World), 0 ≤ lev → lev ≤ 41 → k ≤ s.size → cnt ≤ 400 → 2 * (401 - cnt) + 1 ≤ F → St w b s k (OkP cnt) → (∀ w', Only b w w' → Tab w' ∧ Errs w') →
  Calls Tryd.prog 16 #[.pointer (some ⟨b, 0, none⟩), .int .i64 lev] w (DtPost b s w (BadP b s) OkP (pdl s F false lev k cnt []))

set_option maxHeartbeats 8000000 in
set_option maxRecDepth 100000 in
theorem datum_step (b : Nat) (s : ByteArray) (hs : s.size ≤ 3000) (f : Nat) (ih : ∀ g, g < f + 1 → DatumP b s g) : DatumP b s (f + 1) := by
  intro lev k cnt w hl0 hl1 hk hcnt hF h hT
  have IH := Lib.hid ih
  have HT := Lib.hid hT
  have HF := Lib.hid hF
  have H := Lib.hid h
  have hlt := h.lt
  clear ih hT hF h
  have hb0 : Below w.heap.size w (w.alloc (.cells #[.int .i64 0, .int .i64 0, .string ⟨#[]⟩, .slice none 0 0] 24)) := (Below.refl _ _).alloc (Nat.le_refl _) _
  have HS0 := Lib.hid (H.out.new hb0)
  have HR0 := Lib.hid (Res4.alloc w (.int .i64 0) (.int .i64 0) (.string ⟨#[]⟩) (.slice none 0 0) 24)
  have hne1 : w.heap.size ≠ b := Nat.ne_of_gt hlt
  have hne2 : b ≠ w.heap.size := Nat.ne_of_lt hlt
  have HB0 := Lib.hid hb0
  clear hb0
  go_enter Tryd.func16, Tryd.ntmps16
  go_wp2_with fail
  refine (blanks_any _ b s k (OkP cnt) hs hk HS0.out).mono ?_
  rintro e w1 ⟨rfl, hst, hon⟩
  have HS1 := Lib.hid hst
  have HR1 := Lib.hid (HR0.out.only hon hne1)
  have HO1 := Lib.hid ((Only.of_below (b := b) HB0.out).trans hon)
  have hk1s := skipA_le s k hk
  obtain ⟨k1, hk1⟩ : ∃ k1, skipA s k = k1 := ⟨_, rfl⟩
  have HK1 := Lib.hid hk1
  rw [hk1] at hst hk1s
  have p0 := hst.c0
  have p1 := hst.c1
  have p2 : w1.cell? ⟨b, 2, none⟩ = some (.int .i64 cnt) := hst.rest 0 _ rfl
  have p3 : w1.cell? ⟨b, 3, none⟩ = some (.int .i64 0) := hst.rest 1 _ rfl
  have f1 := hst.frz 1
  have f2 := hst.frz 2
  have f3 := hst.frz 3
  have HST := Lib.hid hst
  have hw1 : w.heap.size < w1.heap.size := by
    obtain ⟨⟨u0, _, _, _, h0, _⟩, _⟩ := HR1.out
    exact World.block_lt_of_cell? w1 _ h0
  have y0 : (0 : Int) ≤ (k1 : Int) := Int.natCast_nonneg _
  have y1 : (0 : Int) ≤ (cnt : Int) := Int.natCast_nonneg _
  have y2 : (cnt : Int) ≤ 400 := by omega
  have y3 : (k1 : Int) ≤ (s.size : Int) := by omega
  have y4 : (s.size : Int) ≤ 3000 := by omega
  clear hst hon hk1 HS0 HR0
  rcases Nat.lt_or_ge k1 s.size with hlt1 | hge
  · have y5 : (k1 : Int) < (s.size : Int) := by omega
    have y6 : ((k1 : Int) == (s.size : Int)) = false := by rw [beq_eq_false_iff_ne]; omega
    obtain ⟨c, hc⟩ : ∃ c : UInt8, s[k1] = c := ⟨_, rfl⟩
    have HC := Lib.hid hc
    have HPE := Lib.hid (show skipA s k < s.size by rw [HK1.out]; exact hlt1)
    have hsc : s[skipA s k]'HPE.out = c := by rw [← hc]; exact getElem_congr_idx HK1.out
    have HSC := Lib.hid hsc
    clear hsc
    have HST1 := Lib.hid (fun q => show St ((w1.drewN q).setCell ⟨b, 2, none⟩ (.int .i64 ((cnt : Int) + 1))) b s k1 (OkP (cnt + 1)) from (HST.out.drew q).put 0 (by simp [OkP]) (.int .i64 ((cnt : Int) + 1)))
    have HOX := Lib.hid (fun q => show Only b w ((w1.drewN q).setCell ⟨b, 2, none⟩ (.int .i64 ((cnt : Int) + 1))) from (HO1.out.drew q).set _)
    have HR2 := Lib.hid (fun q => HR1.out.only (show Only b w1 ((w1.drewN q).setCell ⟨b, 2, none⟩ (.int .i64 ((cnt : Int) + 1))) from ((Only.refl b w1).drew q).set _) hne1)
    by_cases hc400 : 400 < cnt + 1
    · have y7 : 400 < (cnt : Int) + 1 := by omega
      have HC4 := Lib.hid hc400
      clear hc400
      go_wp2_with fail
      go_quiet (fail)
      go_wp2_with fail
      refine (stop_any _ b s k1 k1 _ 1 (HST1.out _)).mono ?_
      rintro e w8 ⟨rfl, h8, ho8⟩
      have HS8 := Lib.hid h8
      have HO8 := Lib.hid ((HOX.out _).trans ho8)
      have HRX := Lib.hid ((HR2.out _).only ho8 hne1)
      clear h8 ho8
      obtain ⟨⟨x0, x1, x2, x3, z0, z1, z2, z3⟩, zf⟩ := HRX.out
      have e0 := zf 0
      have e1 := zf 1
      have e2 := zf 2
      have e3 := zf 3
      clear zf
      go_wp2_with fail
      refine bodyPost_ret (v := .agg #[.int .i64 0, .int .i64 0, .string ⟨#[]⟩, .slice none 0 0]) (by simp [results, Tryd.results16, go_sem, z0, z1, z2, z3]) rfl ?_
      rw [pdl_size HPE.out HC4.out, HK1.out]
      obtain ⟨q1, q2⟩ := put4 HS8.out HO8.out hne1 (Nat.le_refl _) (.int .i64 0) (.int .i64 0) (.string ⟨#[]⟩) (.slice none 0 0)
      exact ⟨_, _, _, _, _, _, rfl, q2, _, q1⟩
    · have y7 : ¬ 400 < (cnt : Int) + 1 := by omega
      have HC4 := Lib.hid hc400
      have hcnt1 : cnt + 1 ≤ 400 := by omega
      clear hc400
      by_cases hl40 : 40 < lev
      · have HL4 := Lib.hid hl40
        go_wp2_with fail
        go_quiet (fail)
        go_wp2_with fail
        refine (stop_any _ b s k1 k1 _ 8 (HST1.out _)).mono ?_
        rintro e w8 ⟨rfl, h8, ho8⟩
        have HS8 := Lib.hid h8
        have HO8 := Lib.hid ((HOX.out _).trans ho8)
        have HRX := Lib.hid ((HR2.out _).only ho8 hne1)
        clear h8 ho8
        obtain ⟨⟨x0, x1, x2, x3, z0, z1, z2, z3⟩, zf⟩ := HRX.out
        have e0 := zf 0
        have e1 := zf 1
        have e2 := zf 2
        have e3 := zf 3
        clear zf
        go_wp2_with fail
        refine bodyPost_ret (v := .agg #[.int .i64 0, .int .i64 0, .string ⟨#[]⟩, .slice none 0 0]) (by simp [results, Tryd.results16, go_sem, z0, z1, z2, z3]) rfl ?_
        rw [pdl_deep HPE.out HC4.out HL4.out, HK1.out]
        obtain ⟨q1, q2⟩ := put4 HS8.out HO8.out hne1 (Nat.le_refl _) (.int .i64 0) (.int .i64 0) (.string ⟨#[]⟩) (.slice none 0 0)
        exact ⟨_, _, _, _, _, _, rfl, q2, _, q1⟩
      · have HL4 := Lib.hid (id (α := ¬ 40 < lev) (by omega))
        have hl40' : lev ≤ 40 := by omega
        by_cases h41 : c = 41
        · have HC1 := Lib.hid h41
          have c41 : ((c.toNat : Int) == 41) = true := by rw [h41]; rfl
          clear h41
          go_wp2_with fail
          go_quiet (fail)
          go_wp2_with fail
          refine (stop_any _ b s k1 k1 _ 4 (HST1.out _)).mono ?_
          rintro e w8 ⟨rfl, h8, ho8⟩
          have HS8 := Lib.hid h8
          have HO8 := Lib.hid ((HOX.out _).trans ho8)
          have HRX := Lib.hid ((HR2.out _).only ho8 hne1)
          clear h8 ho8
          obtain ⟨⟨x0, x1, x2, x3, z0, z1, z2, z3⟩, zf⟩ := HRX.out
          have e0 := zf 0
          have e1 := zf 1
          have e2 := zf 2
          have e3 := zf 3
          clear zf
          go_wp2_with fail
          refine bodyPost_ret (v := .agg #[.int .i64 0, .int .i64 0, .string ⟨#[]⟩, .slice none 0 0]) (by simp [results, Tryd.results16, go_sem, z0, z1, z2, z3]) rfl ?_
          rw [pdl_close HPE.out HC4.out (by have := HL4.out; omega) (HSC.out.trans HC1.out), HK1.out]
          obtain ⟨q1, q2⟩ := put4 HS8.out HO8.out hne1 (Nat.le_refl _) (.int .i64 0) (.int .i64 0) (.string ⟨#[]⟩) (.slice none 0 0)
          exact ⟨_, _, _, _, _, _, rfl, q2, _, q1⟩
        · have HC1 := Lib.hid h41
          have c41 : ((c.toNat : Int) == 41) = false := ne8 c 41 (by decide) h41
          clear h41
          by_cases h39 : c = 39
          · have HC3 := Lib.hid h39
            have c39 : ((c.toNat : Int) == 39) = true := by rw [h39]; rfl
            clear h39
            go_wp2_with fail
            go_quiet (fail)
            go_wp2_with fail
            refine (IH.out f (by omega) (lev + 1) (k1 + 1) (cnt + 1) _ (by omega) (by omega) (by omega) hcnt1 (by have := HF.out; omega) ((HST1.out _).at_ (k1 + 1)) (fun w' ho => HT.out w' (((HOX.out _).set _).trans ho))).mono ?_
            rintro e w3 ⟨kk, nn, tt, A, len, cap, rfl, ho3, hm⟩
            have HM := Lib.hid hm
            have HO3 := Lib.hid (((HOX.out _).set _).trans ho3)
            have HR3 := Lib.hid (((HR2.out _).only ((Only.refl b _).set _) hne1).only ho3 hne1)
            have HO3' := Lib.hid ho3
            clear hm ho3
            obtain ⟨⟨x0, x1, x2, x3, z0, z1, z2, z3⟩, zf⟩ := HR3.out
            have e0 := zf 0
            have e1 := zf 1
            have e2 := zf 2
            have e3 := zf 3
            clear zf
            have hz3 := World.block_lt_of_cell? w3 _ z0
            go_wp2_with fail
            have HPE2 := Lib.hid (pdl_quote (f := f) (lev := lev) (acc := []) HPE.out HC4.out (by have := HL4.out; omega) (HSC.out.trans HC3.out))
            rw [HK1.out] at HPE2
            refine bodyPost_ret (v := .agg #[.int .i64 4, .int .i64 0, .string ⟨#[]⟩, .slice (some ⟨w3.heap.size + 1, 0, none⟩) 2 2]) (by simp [results, Tryd.results16, go_sem, z0, z1, z2, z3, hz3, Nat.lt_succ_of_lt hz3]) rfl ?_
            have hm := HM.out
            rw [HPE2.out]
            cases hr : pdl s f false (lev + 1) (k1 + 1) (cnt + 1) [] with
            | bad p er =>
              rw [hr] at hm
              obtain ⟨c', h8⟩ := hm
              obtain ⟨q1, q2⟩ := put4 h8 HO3.out hne1 (Nat.le_refl _) (.int .i64 4) (.int .i64 0) (.string ⟨#[]⟩) (.slice (some ⟨w3.heap.size + 1, 0, none⟩) 2 2)
              exact ⟨_, _, _, _, _, _, rfl, q2.trans (Only.of_below (((Below.refl _ _).alloc (Nat.le_refl _) _).alloc (by simp) _)), _, q1.new (((Below.refl _ _).alloc (Nat.le_refl _) _).alloc (by simp) _)⟩
            | good a cc x =>
              rw [hr] at hm
              obtain ⟨h8, hd⟩ := hm
              obtain ⟨q1, q2⟩ := put4 h8 HO3.out hne1 (Nat.le_refl _) (.int .i64 4) (.int .i64 0) (.string ⟨#[]⟩) (.slice (some ⟨w3.heap.size + 1, 0, none⟩) 2 2)
              have hd1 : DtIn w3 (w.heap.size + 1) w3.heap.size [.int .i64 kk, .int .i64 nn, .string tt, .slice A len cap] x := hd.mono (keep_refl _ _ _) (Nat.le_refl _) (by simp; omega) (Nat.le_refl _)
              have hd2 := tree_put4 hd1 (p := w.heap.size) (lo' := w.heap.size) (Nat.lt_succ_self _) (Nat.le_succ _) (.int .i64 4) (.int .i64 0) (.string ⟨#[]⟩) (.slice (some ⟨w3.heap.size + 1, 0, none⟩) 2 2)
              have hd3 := hd2.new (lo' := w.heap.size) ((Below.refl _ _).alloc (Nat.le_refl _) (.cells #[.int .i64 kk, .int .i64 nn, .string tt, .slice A len cap] 24)) (Nat.le_refl _)
              exact ⟨_, _, _, _, _, _, rfl, q2.trans (Only.of_below (((Below.refl _ _).alloc (Nat.le_refl _) _).alloc (by simp) _)), q1.new (((Below.refl _ _).alloc (Nat.le_refl _) _).alloc (by simp) _),
                quote_tree 24 hd3 (by simp; omega) (w3.heap.size + 1) (by simp)⟩
          · have HC3 := Lib.hid h39
            have c39 : ((c.toNat : Int) == 39) = false := ne8 c 39 (by decide) h39
            clear h39
            by_cases h40 : c = 40
            · have HC0 := Lib.hid h40
              have c40 : ((c.toNat : Int) == 40) = true := by rw [h40]; rfl
              clear h40
              go_wp2_with fail
              go_quiet (fail)
              go_upto_region 22 with fail
              obtain ⟨PD, hPD⟩ : ∃ PD, pdl s f true lev (k1 + 1) (cnt + 1) [] = PD := ⟨_, rfl⟩
              have HPE2 := Lib.hid (show pdl s (f + 1) false lev k cnt [] = PD by rw [pdl_list HPE.out HC4.out (by have := HL4.out; omega) (HSC.out.trans HC0.out), HK1.out, hPD])
              have HPD := Lib.hid hPD
              have HSL := Lib.hid (((HST1.out nq).at_ (k1 + 1)).new ((Below.refl _ _).alloc (Nat.le_refl _) (.cells #[.int .i64 4, .int .i64 0, .string ⟨#[]⟩, .slice none 0 0] 24)))
              have HOL := Lib.hid (((HOX.out nq).set (j := 1) (.int .i64 ((k1 : Int) + 1))).trans (Only.of_below ((Below.refl _ _).alloc (Nat.le_refl _) (.cells #[.int .i64 4, .int .i64 0, .string ⟨#[]⟩, .slice none 0 0] 24))))
              have HRL := Lib.hid (((HR2.out nq).only ((Only.refl b _).set (j := 1) (.int .i64 ((k1 : Int) + 1))) hne1).only (Only.of_below (b := b) ((Below.refl _ _).alloc (Nat.le_refl _) (.cells #[.int .i64 4, .int .i64 0, .string ⟨#[]⟩, .slice none 0 0] 24))) hne1)
              have hp1 : w1.heap.size ≠ b := by omega
              have hp2 : b ≠ w1.heap.size := by omega
              have hp3 : w.heap.size ≠ w1.heap.size := by omega
              have hp4 : w1.heap.size ≠ w.heap.size := by omega
              have HLP := Lib.hid (show Lp (w1.heap.size + 1) b w.heap.size w1.heap.size w ((((w1.drewN nq).setCell ⟨b, 2, none⟩ (.int .i64 ((cnt : Int) + 1))).setCell ⟨b, 1, none⟩ (.int .i64 ((k1 : Int) + 1))).alloc (.cells #[.int .i64 4, .int .i64 0, .string ⟨#[]⟩, .slice none 0 0] 24)) (.slice none 0 0) [] from
                Lp.start HOL.out HRL.out ((World.cell?_alloc_at _ _ _ _ (by simp)).trans rfl) ((World.cell?_alloc_at _ _ _ _ (by simp)).trans rfl) ((World.cell?_alloc_at _ _ _ _ (by simp)).trans rfl) ((World.cell?_alloc_at _ _ _ _ (by simp)).trans rfl) (fun o => World.frozen?_alloc_at _ _ _ _ (by simp)) (by simp))
              clear p0 p1 p2 p3 f1 f2 f3 hPD
              have hF := HF.out
              go_loopg [8] f (fun g x wr => ∃ (g0 k2 c2 : Nat) (v : Value) (Y : List DV), g = g0 ∧ k2 ≤ s.size ∧ c2 ≤ 400 ∧ g0 ≤ f ∧ 2 * (401 - c2) + 2 ≤ g0 ∧ Y.length ≤ c2 ∧ St wr b s k2 (OkP c2) ∧ Lp (w1.heap.size + 1) b w.heap.size w1.heap.size w wr v Y ∧ pdl s g0 true lev k2 c2 (Y.map (·.t)) = PD)
              case atStart => exact ⟨f, k1 + 1, cnt + 1, .slice none 0 0, [], rfl, hlt1, hcnt1, Nat.le_refl _, by omega, by simp, HSL.out, HLP.out, HPD.out⟩
              case round =>
                obtain ⟨g0, k2, c2, v, Y, hgg, hk2, hc2, hgf, hg2, hYc, hst, hlp, hpd⟩ := hrel
                obtain ⟨g', rfl⟩ : ∃ g', g0 = g' + 1 := ⟨g0 - 1, by omega⟩
                have HGG := Lib.hid hgg
                have HST2 := Lib.hid hst
                have HLP2 := Lib.hid hlp
                have HPD2 := Lib.hid hpd
                have HG2 := Lib.hid hg2
                have HGF := Lib.hid hgf
                have HYC := Lib.hid hYc
                have hbB : b < w1.heap.size + 1 := by omega
                have HBB := Lib.hid hbB
                clear hst hlp hpd hg2 hgf hYc hbB hF hgg
                go_wp2_with fail
                refine (blanks_any wr b s k2 (OkP c2) hs hk2 HST2.out).mono ?_
                rintro e w2 ⟨rfl, hst2, hon2⟩
                have HLPX := Lib.hid (HLP2.out.move hon2 HBB.out hp1 hne1)
                have hk3s := skipA_le s k2 hk2
                obtain ⟨k3, hk3⟩ : ∃ k3, skipA s k2 = k3 := ⟨_, rfl⟩
                have HK3 := Lib.hid hk3
                rw [hk3] at hst2 hk3s
                have HST3 := Lib.hid hst2
                have p0 := hst2.c0
                have p1 := hst2.c1
                have p3 : w2.cell? ⟨b, 3, none⟩ = some (.int .i64 0) := hst2.rest 1 _ rfl
                have f1 := hst2.frz 1
                obtain ⟨A, cap, rfl, _⟩ := HLPX.out.own.form
                have v0 : (0 : Int) ≤ (k3 : Int) := Int.natCast_nonneg _
                have v3 : (k3 : Int) ≤ (s.size : Int) := by omega
                clear hst2 hon2 hk3 HST2 HLP2
                by_cases hcl : closeB s k3 = true
                · have HCL := Lib.hid hcl
                  have hlt3 : k3 < s.size := by
                    unfold closeB at hcl
                    split at hcl
                    · assumption
                    · cases hcl
                  have hc41 : s[k3] = 41 := by simpa [closeB, hlt3] using hcl
                  have v5 : (k3 : Int) < (s.size : Int) := by omega
                  obtain ⟨d, hd⟩ : ∃ d : UInt8, s[k3] = d := ⟨_, rfl⟩
                  have d41 : ((d.toNat : Int) == 41) = true := by rw [← hd, hc41]; rfl
                  clear hcl hc41
                  have HPF := Lib.hid (show PD = .good (k3 + 1) c2 (.mk 4 0 ⟨#[]⟩ (Y.map (·.t))) from by rw [← HPD2.out, pdl_stop (by rw [HK3.out]; exact HCL.out), HK3.out])
                  have l0 := HLPX.out.p0
                  have l1 := HLPX.out.p1
                  have l2 := HLPX.out.p2
                  have l3 := HLPX.out.p3
                  have g3 := HLPX.out.pf 3
                  obtain ⟨⟨x0, x1, x2, x3, z0, z1, z2, z3⟩, zf⟩ := HLPX.out.res
                  have e0 := zf 0
                  have e1 := zf 1
                  have e2 := zf 2
                  have e3 := zf 3
                  clear zf
                  go_wp2_with fail
                  go_quiet (fail)
                  go_wp2_with fail
                  refine bodyPost_ret (v := .agg #[.int .i64 4, .int .i64 0, .string ⟨#[]⟩, .slice A Y.length cap]) (by simp [results, Tryd.results16, go_sem, z0, z1, z2, z3]) rfl ?_
                  rw [HPE2.out, HPF.out]
                  obtain ⟨q1, q2⟩ := put4 ((HST3.out.drew nq).at_ (k3 + 1)) ((HLPX.out.only.drew nq).set (j := 1) (.int .i64 ((k3 : Int) + 1))) hne1 (Nat.le_refl _) (.int .i64 4) (.int .i64 0) (.string ⟨#[]⟩) (.slice A Y.length cap)
                  have ht := tree_only (HLPX.out.tree (lo := w.heap.size + 1) (by omega)) (((Only.refl b w2).drew nq).set (j := 1) (.int .i64 ((k3 : Int) + 1))) (by omega) (Nat.le_refl _)
                  exact ⟨_, _, _, _, _, _, rfl, q2, q1, tree_put4 ht (p := w.heap.size) (lo' := w.heap.size) (Nat.lt_succ_self _) (Nat.le_succ _) _ _ _ _⟩
                · have hcf : closeB s k3 = false := by simpa using hcl
                  have HCL := Lib.hid hcf
                  have hcase : (∃ d : UInt8, ∃ h : k3 < s.size, s[k3] = d ∧ ((d.toNat : Int) == 41) = false) ∨ ¬ k3 < s.size := by
                    by_cases h : k3 < s.size
                    · refine Or.inl ⟨s[k3], h, rfl, ne8 _ 41 (by decide) ?_⟩
                      simpa [closeB, h] using hcf
                    · exact Or.inr h
                  clear hcl hcf
                  rcases hcase with ⟨d, hlt3, hd, d41⟩ | hge3
                  · have v5 : (k3 : Int) < (s.size : Int) := by omega
                    go_wp2_with fail
                    go_quiet (fail)
                    go_wp2_with fail
                    refine (IH.out g' (by have := HGF.out; omega) (lev + 1) k3 c2 _ (by omega) (by omega) hk3s hc2 (by have := HG2.out; omega) (HST3.out.drew _) (fun w' ho => HT.out w' ((HLPX.out.only.drew _).trans ho))).mono ?_
                    rintro e w3 ⟨kk, nn, tt, A3, len3, cap3, rfl, ho3, hm⟩
                    have hfine := pdl_fine s g' false (lev + 1) k3 c2 [] hk3s hc2 (by have := HG2.out; simp only [Bool.false_eq_true, if_false]; omega)
                    have HLP3 := Lib.hid (HLPX.out.move (((Only.refl b w2).drew _).trans ho3) HBB.out hp1 hne1)
                    have HW23 := Lib.hid (World.grownBy.size ho3)
                    have hz3 : w.heap.size < w3.heap.size := World.block_lt_of_cell? w3 _ (HLP3.out.res.c.choose_spec.choose_spec.choose_spec.choose_spec.1)
                    have hz1 : w1.heap.size < w3.heap.size := World.block_lt_of_cell? w3 _ HLP3.out.p0
                    have HP2 := Lib.hid (HLPX.out.base)
                    clear p0 p1 p3 f1 ho3
                    cases hr : pdl s g' false (lev + 1) k3 c2 [] with
                    | bad p er =>
                      rw [hr] at hm hfine
                      obtain ⟨c', h8⟩ := hm
                      have hen : er ≠ 0 := hfine.2
                      have HPF := Lib.hid (show PD = .bad p er from by rw [← HPD2.out]; exact pdl_item_bad (by rw [HK3.out]; exact HCL.out) (by rw [HK3.out]; exact hr))
                      have HS8 := Lib.hid h8
                      have p3 : w3.cell? ⟨b, 3, none⟩ = some (.int .i64 er) := h8.rest 1 _ rfl
                      have t1 : (er == 0) = false := by simpa using hen
                      have t2 : (er != 0) = true := by simpa using hen
                      have hz4 : b < w3.heap.size := h8.lt
                      clear hfine hr h8 hen
                      have l0 := HLP3.out.p0
                      have l1 := HLP3.out.p1
                      have l2 := HLP3.out.p2
                      have l3 := HLP3.out.p3
                      have g3 := HLP3.out.pf 3
                      obtain ⟨⟨x0, x1, x2, x3, z0, z1, z2, z3⟩, zf⟩ := HLP3.out.res
                      have e0 := zf 0
                      have e1 := zf 1
                      have e2 := zf 2
                      have e3 := zf 3
                      clear zf
                      go_wp2_with fail
                      refine bodyPost_ret (v := .agg #[.int .i64 4, .int .i64 0, .string ⟨#[]⟩, .slice A Y.length cap]) (by simp [results, Tryd.results16, go_sem, z0, z1, z2, z3, hz3]) rfl ?_
                      rw [HPE2.out, HPF.out]
                      obtain ⟨q1, q2⟩ := put4 HS8.out HLP3.out.only hne1 (Nat.le_refl _) (.int .i64 4) (.int .i64 0) (.string ⟨#[]⟩) (.slice A Y.length cap)
                      exact ⟨_, _, _, _, _, _, rfl, q2.trans (Only.of_below ((Below.refl _ _).alloc (Nat.le_refl _) _)), _, q1.new ((Below.refl _ _).alloc (Nat.le_refl _) _)⟩
                    | good a cc x =>
                      rw [hr] at hm hfine
                      obtain ⟨h8, hdt⟩ := hm
                      obtain ⟨ha, hcc, hcc4⟩ := hfine
                      have hcc' : c2 < cc := by
                        rcases hcc with h | ⟨h, _⟩
                        · exact h
                        · cases h
                      have HPF := Lib.hid (show pdl s g' true lev a cc (Y.map (·.t) ++ [x]) = PD from by rw [← HPD2.out]; exact (pdl_item_good (by rw [HK3.out]; exact HCL.out) (by rw [HK3.out]; exact hr)).symm)
                      have HS8 := Lib.hid h8
                      have p3 : w3.cell? ⟨b, 3, none⟩ = some (.int .i64 0) := h8.rest 1 _ rfl
                      have hz4 : b < w3.heap.size := h8.lt
                      obtain ⟨dx, hdc, hdx, hdlo, hdhi, hdok⟩ := hdt.view (Nat.le_refl _)
                      have HDC := Lib.hid hdc
                      have HDX := Lib.hid hdx
                      have hbx : Below w3.heap.size w3 (w3.alloc (.cells #[.int .i64 kk, .int .i64 nn, .string tt, .slice A3 len3 cap3] 24)) := (Below.refl _ _).alloc (Nat.le_refl _) _
                      have HLP4 := Lib.hid (HLP3.out.new hbx HBB.out hp1 hne1)
                      have HS9 := Lib.hid (h8.new hbx)
                      have HOK4 := Lib.hid (kitDt.kept _ _ _ none hdok (grown_of_below hbx none) (fun b _ => by simp))
                      have hlo2 : w2.heap.size ≤ dx.lo := by rw [hdlo]; exact Nat.le_refl _
                      have HFR := Lib.hid (fun q (hq : kitDt.uses dx q) => Nat.le_trans HP2.out (Nat.le_trans hlo2 hq.1))
                      have HAP := Lib.hid (fun q (hq : kitDt.uses dx q) (e : (Value.slice A Y.length cap).ownBlock = some q) => Nat.lt_irrefl _ (Nat.lt_of_lt_of_le (HLPX.out.own.row.lt q e).2 (Nat.le_trans hlo2 hq.1)))
                      have HYB := Lib.hid (show (Y.length + 1) * 56 ≤ 140737488355328 ∧ Y.length + 1 ≤ maxLen by have := HYC.out; unfold maxLen; omega)
                      have HB4 := Lib.hid HLP4.out.base
                      obtain ⟨i0, I0, I1, I2, I3⟩ := infoDt'
                      have HI0 := Lib.hid I0
                      have HI1 := Lib.hid I1
                      have HI2 := Lib.hid I2
                      have HI3 := Lib.hid I3
                      clear hr h8 hdt hdc hdx hdlo hdhi hdok hbx I0 I1 I2 I3 hlo2 hcc
                      have l3 := HLP4.out.p3
                      have g3 := HLP4.out.pf 3
                      go_wp2_with (at_builtin; refine wpList_own rfl (.tmp 145) (.tmp 147) rfl Tryd.underlying22 HI0.out HI1.out HI2.out HI3.out rfl (by decide) HLP4.out.own dx _ (HDC.out.symm) HOK4.out HFR.out HAP.out rfl (by rw [World.size_alloc]; rfl) HYB.out HB4.out ?_; intro v7 w7 h7 hg7 _; obtain ⟨A7, c7, rfl, _⟩ := h7.form; have m3 := (HLP4.out.cell7 hg7 (Nat.lt_succ_self _)).1; have n3 := (HLP4.out.cell7 hg7 (Nat.lt_succ_self _)).2; have HS7 := Lib.hid (HS9.out.row hg7 (HLP4.out.far HBB.out)); have HST7 := Lib.hid (HLP4.out.step (by simp; omega) HBB.out hp1 (Nat.lt_succ_self _) (by omega) hp3 (by omega) hg7 h7 (by omega)); clear h7 hg7)
                      have hgg := HGG.out
                      have hst7 := HST7.out
                      simp only [List.length_append, List.length_cons, List.length_nil, Nat.zero_add] at hst7
                      go_roundg g'
                      case measure => omega
                      case rel => exact ⟨g', a, cc, .slice A7 (Y.length + 1) c7, Y ++ [dx], rfl, ha, hcc4, by have := HGF.out; omega, by have := HG2.out; omega, by have := HYC.out; simp only [List.length_append, List.length_cons, List.length_nil]; omega, HS7.out.other hp1 _, hst7, by rw [List.map_append, List.map_cons, List.map_nil, HDX.out]; exact HPF.out⟩

                  · have v5 : ¬ (k3 : Int) < (s.size : Int) := by omega
                    go_wp2_with fail
                    go_quiet (fail)
                    go_wp2_with fail
                    refine (IH.out g' (by have := HGF.out; omega) (lev + 1) k3 c2 _ (by omega) (by omega) hk3s hc2 (by have := HG2.out; omega) (HST3.out.drew _) (fun w' ho => HT.out w' ((HLPX.out.only.drew _).trans ho))).mono ?_
                    rintro e w3 ⟨kk, nn, tt, A3, len3, cap3, rfl, ho3, hm⟩
                    have hfine := pdl_fine s g' false (lev + 1) k3 c2 [] hk3s hc2 (by have := HG2.out; simp only [Bool.false_eq_true, if_false]; omega)
                    have HLP3 := Lib.hid (HLPX.out.move (((Only.refl b w2).drew _).trans ho3) HBB.out hp1 hne1)
                    have HW23 := Lib.hid (World.grownBy.size ho3)
                    have hz3 : w.heap.size < w3.heap.size := World.block_lt_of_cell? w3 _ (HLP3.out.res.c.choose_spec.choose_spec.choose_spec.choose_spec.1)
                    have hz1 : w1.heap.size < w3.heap.size := World.block_lt_of_cell? w3 _ HLP3.out.p0
                    have HP2 := Lib.hid (HLPX.out.base)
                    clear p0 p1 p3 f1 ho3
                    cases hr : pdl s g' false (lev + 1) k3 c2 [] with
                    | bad p er =>
                      rw [hr] at hm hfine
                      obtain ⟨c', h8⟩ := hm
                      have hen : er ≠ 0 := hfine.2
                      have HPF := Lib.hid (show PD = .bad p er from by rw [← HPD2.out]; exact pdl_item_bad (by rw [HK3.out]; exact HCL.out) (by rw [HK3.out]; exact hr))
                      have HS8 := Lib.hid h8
                      have p3 : w3.cell? ⟨b, 3, none⟩ = some (.int .i64 er) := h8.rest 1 _ rfl
                      have t1 : (er == 0) = false := by simpa using hen
                      have t2 : (er != 0) = true := by simpa using hen
                      have hz4 : b < w3.heap.size := h8.lt
                      clear hfine hr h8 hen
                      have l0 := HLP3.out.p0
                      have l1 := HLP3.out.p1
                      have l2 := HLP3.out.p2
                      have l3 := HLP3.out.p3
                      have g3 := HLP3.out.pf 3
                      obtain ⟨⟨x0, x1, x2, x3, z0, z1, z2, z3⟩, zf⟩ := HLP3.out.res
                      have e0 := zf 0
                      have e1 := zf 1
                      have e2 := zf 2
                      have e3 := zf 3
                      clear zf
                      go_wp2_with fail
                      refine bodyPost_ret (v := .agg #[.int .i64 4, .int .i64 0, .string ⟨#[]⟩, .slice A Y.length cap]) (by simp [results, Tryd.results16, go_sem, z0, z1, z2, z3, hz3]) rfl ?_
                      rw [HPE2.out, HPF.out]
                      obtain ⟨q1, q2⟩ := put4 HS8.out HLP3.out.only hne1 (Nat.le_refl _) (.int .i64 4) (.int .i64 0) (.string ⟨#[]⟩) (.slice A Y.length cap)
                      exact ⟨_, _, _, _, _, _, rfl, q2.trans (Only.of_below ((Below.refl _ _).alloc (Nat.le_refl _) _)), _, q1.new ((Below.refl _ _).alloc (Nat.le_refl _) _)⟩
                    | good a cc x =>
                      rw [hr] at hm hfine
                      obtain ⟨h8, hdt⟩ := hm
                      obtain ⟨ha, hcc, hcc4⟩ := hfine
                      have hcc' : c2 < cc := by
                        rcases hcc with h | ⟨h, _⟩
                        · exact h
                        · cases h
                      have HPF := Lib.hid (show pdl s g' true lev a cc (Y.map (·.t) ++ [x]) = PD from by rw [← HPD2.out]; exact (pdl_item_good (by rw [HK3.out]; exact HCL.out) (by rw [HK3.out]; exact hr)).symm)
                      have HS8 := Lib.hid h8
                      have p3 : w3.cell? ⟨b, 3, none⟩ = some (.int .i64 0) := h8.rest 1 _ rfl
                      have hz4 : b < w3.heap.size := h8.lt
                      obtain ⟨dx, hdc, hdx, hdlo, hdhi, hdok⟩ := hdt.view (Nat.le_refl _)
                      have HDC := Lib.hid hdc
                      have HDX := Lib.hid hdx
                      have hbx : Below w3.heap.size w3 (w3.alloc (.cells #[.int .i64 kk, .int .i64 nn, .string tt, .slice A3 len3 cap3] 24)) := (Below.refl _ _).alloc (Nat.le_refl _) _
                      have HLP4 := Lib.hid (HLP3.out.new hbx HBB.out hp1 hne1)
                      have HS9 := Lib.hid (h8.new hbx)
                      have HOK4 := Lib.hid (kitDt.kept _ _ _ none hdok (grown_of_below hbx none) (fun b _ => by simp))
                      have hlo2 : w2.heap.size ≤ dx.lo := by rw [hdlo]; exact Nat.le_refl _
                      have HFR := Lib.hid (fun q (hq : kitDt.uses dx q) => Nat.le_trans HP2.out (Nat.le_trans hlo2 hq.1))
                      have HAP := Lib.hid (fun q (hq : kitDt.uses dx q) (e : (Value.slice A Y.length cap).ownBlock = some q) => Nat.lt_irrefl _ (Nat.lt_of_lt_of_le (HLPX.out.own.row.lt q e).2 (Nat.le_trans hlo2 hq.1)))
                      have HYB := Lib.hid (show (Y.length + 1) * 56 ≤ 140737488355328 ∧ Y.length + 1 ≤ maxLen by have := HYC.out; unfold maxLen; omega)
                      have HB4 := Lib.hid HLP4.out.base
                      obtain ⟨i0, I0, I1, I2, I3⟩ := infoDt'
                      have HI0 := Lib.hid I0
                      have HI1 := Lib.hid I1
                      have HI2 := Lib.hid I2
                      have HI3 := Lib.hid I3
                      clear hr h8 hdt hdc hdx hdlo hdhi hdok hbx I0 I1 I2 I3 hlo2 hcc
                      have l3 := HLP4.out.p3
                      have g3 := HLP4.out.pf 3
                      go_wp2_with (at_builtin; refine wpList_own rfl (.tmp 145) (.tmp 147) rfl Tryd.underlying22 HI0.out HI1.out HI2.out HI3.out rfl (by decide) HLP4.out.own dx _ (HDC.out.symm) HOK4.out HFR.out HAP.out rfl (by rw [World.size_alloc]; rfl) HYB.out HB4.out ?_; intro v7 w7 h7 hg7 _; obtain ⟨A7, c7, rfl, _⟩ := h7.form; have m3 := (HLP4.out.cell7 hg7 (Nat.lt_succ_self _)).1; have n3 := (HLP4.out.cell7 hg7 (Nat.lt_succ_self _)).2; have HS7 := Lib.hid (HS9.out.row hg7 (HLP4.out.far HBB.out)); have HST7 := Lib.hid (HLP4.out.step (by simp; omega) HBB.out hp1 (Nat.lt_succ_self _) (by omega) hp3 (by omega) hg7 h7 (by omega)); clear h7 hg7)
                      have hgg := HGG.out
                      have hst7 := HST7.out
                      simp only [List.length_append, List.length_cons, List.length_nil, Nat.zero_add] at hst7
                      go_roundg g'
                      case measure => omega
                      case rel => exact ⟨g', a, cc, .slice A7 (Y.length + 1) c7, Y ++ [dx], rfl, ha, hcc4, by have := HGF.out; omega, by have := HG2.out; omega, by have := HYC.out; simp only [List.length_append, List.length_cons, List.length_nil]; omega, HS7.out.other hp1 _, hst7, by rw [List.map_append, List.map_cons, List.map_nil, HDX.out]; exact HPF.out⟩


            · have HC0 := Lib.hid h40
              have c40 : ((c.toNat : Int) == 40) = false := ne8 c 40 (by decide) h40
              clear h40
              go_wp2_with fail
              go_quiet (fail)
              go_wp2_with fail
              refine (atom_any _ b s k1 _ hs hk1s (HST1.out _) (fun w' ho => HT.out w' ((HOX.out _).trans ho))).mono ?_
              rintro e w8 hp
              have HPD := Lib.hid (pdl_atom (f := f) (lev := lev) (acc := []) HPE.out HC4.out (by have := HL4.out; omega) (by rw [HSC.out]; exact HC1.out) (by rw [HSC.out]; exact HC3.out) (by rw [HSC.out]; exact HC0.out))
              rw [HK1.out] at HPD
              cases hr : atomR (s.extract k1 (wordA s k1)) with
              | bad er =>
                rw [hr] at hp
                obtain ⟨rfl, h8, ho8⟩ := hp
                have HPE2 := Lib.hid (show pdl s (f + 1) false lev k cnt [] = .bad k1 er from by rw [HPD.out, hr]; rfl)
                have HS8 := Lib.hid h8
                have HO8 := Lib.hid ((HOX.out _).trans ho8)
                have HRX := Lib.hid ((HR2.out _).only ho8 hne1)
                clear h8 ho8 hr
                obtain ⟨⟨x0, x1, x2, x3, z0, z1, z2, z3⟩, zf⟩ := HRX.out
                have e0 := zf 0
                have e1 := zf 1
                have e2 := zf 2
                have e3 := zf 3
                clear zf
                go_wp2_with fail
                refine bodyPost_ret (v := .agg #[.int .i64 0, .int .i64 0, .string ⟨#[]⟩, .slice none 0 0]) (by simp [results, Tryd.results16, go_sem, z0, z1, z2, z3]) rfl ?_
                rw [HPE2.out]
                obtain ⟨q1, q2⟩ := put4 HS8.out HO8.out hne1 (Nat.le_refl _) (.int .i64 0) (.int .i64 0) (.string ⟨#[]⟩) (.slice none 0 0)
                exact ⟨_, _, _, _, _, _, rfl, q2, _, q1⟩
              | good kk nn tt =>
                rw [hr] at hp
                obtain ⟨rfl, h8, ho8⟩ := hp
                have HPE2 := Lib.hid (show pdl s (f + 1) false lev k cnt [] = .good (wordA s k1) (cnt + 1) (.mk kk nn tt []) from by rw [HPD.out, hr]; rfl)
                have HS8 := Lib.hid h8
                have HO8 := Lib.hid ((HOX.out _).trans ho8)
                have HRX := Lib.hid ((HR2.out _).only ho8 hne1)
                clear h8 ho8 hr
                obtain ⟨⟨x0, x1, x2, x3, z0, z1, z2, z3⟩, zf⟩ := HRX.out
                have e0 := zf 0
                have e1 := zf 1
                have e2 := zf 2
                have e3 := zf 3
                clear zf
                go_wp2_with fail
                refine bodyPost_ret (v := .agg #[.int .i64 kk, .int .i64 nn, .string tt, .slice none 0 0]) (by simp [results, Tryd.results16, go_sem, z0, z1, z2, z3]) rfl ?_
                rw [HPE2.out]
                obtain ⟨q1, q2⟩ := put4 HS8.out HO8.out hne1 (Nat.le_refl _) (.int .i64 kk) (.int .i64 nn) (.string tt) (.slice none 0 0)
                exact ⟨_, _, _, _, _, _, rfl, q2, q1, leaf_tree _ _ _ _ _ _⟩
  · obtain rfl : k1 = s.size := by omega
    have HOX := Lib.hid (fun q => HO1.out.drew q)
    have HR2 := Lib.hid (fun q => HR1.out.only ((Only.refl b w1).drew q) hne1)
    go_wp2_with fail
    go_quiet (fail)
    go_wp2_with fail
    refine (stop_any _ b s s.size s.size _ 5 (HST.out.drew _)).mono ?_
    rintro e w8 ⟨rfl, h8, ho8⟩
    have HS8 := Lib.hid h8
    have HO8 := Lib.hid ((HOX.out _).trans ho8)
    have HRX := Lib.hid ((HR2.out _).only ho8 hne1)
    clear h8 ho8
    obtain ⟨⟨x0, x1, x2, x3, z0, z1, z2, z3⟩, zf⟩ := HRX.out
    have e0 := zf 0
    have e1 := zf 1
    have e2 := zf 2
    have e3 := zf 3
    clear zf
    go_wp2_with fail
    refine bodyPost_ret (v := .agg #[.int .i64 0, .int .i64 0, .string ⟨#[]⟩, .slice none 0 0]) (by simp [results, Tryd.results16, go_sem, z0, z1, z2, z3]) rfl ?_
    rw [pdl_end HK1.out]
    obtain ⟨q1, q2⟩ := put4 HS8.out HO8.out hne1 (Nat.le_refl _) (.int .i64 0) (.int .i64 0) (.string ⟨#[]⟩) (.slice none 0 0)
    exact ⟨_, _, _, _, _, _, rfl, q2, _, q1⟩
theorem datum_any (b : Nat) (s : ByteArray) (hs : s.size ≤ 3000) : ∀ F, DatumP b s F := by
  intro F
  induction F using Nat.strongRecOn with
  | _ F ih =>
    cases F with
    | zero => intro lev k cnt w _ _ _ _ hF; exact absurd hF (by omega)
    | succ f => exact datum_step b s hs f ih
end Go.Proofs.YtbkagjngckfonaaDoor
