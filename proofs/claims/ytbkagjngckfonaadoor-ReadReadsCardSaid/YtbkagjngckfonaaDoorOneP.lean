/- Contract of grafteryref's one. Printed by gen_one.py. -/
import Derived.Test.YtbkagjngckfonaaDoorDtPut
import Derived.Test.YtbkagjngckfonaaDoorFits
import Derived.Test.YtbkagjngckfonaaDoorNameMay
import Derived.Deep.Cut
namespace Go.Proofs.YtbkagjngckfonaaDoor
open Go.RowKit Go.ChangeShapes Go.WideShapes Go.Deep
set_option linter.unusedVariables false

def OkR (c : Nat) : List Value := [.int .i64 c, .int .i64 0, .int .i64 0]
def DtPostR (b : Nat) (s : ByteArray) (w : World) (r : PR) (e : Ending) (w' : World) : Prop :=
  ∃ k n t A len cap x, e = .returned (.agg #[.int .i64 k, .int .i64 n, .string t, .slice A len cap]) ∧ Only b w w' ∧ DtIn w' w.heap.size w'.heap.size [.int .i64 k, .int .i64 n, .string t, .slice A len cap] x ∧
    match r with
    | .bad p er => ∃ (a : Nat) (c : Int), St w' b s a [.int .i64 c, .int .i64 p, .int .i64 er]
    | .good a c y => St w' b s a (OkR c) ∧ x = y
def DatumR (b : Nat) (s : ByteArray) (F : Nat) : Prop := ∀ (lev : Int) (k cnt : Nat) (w : World), 0 ≤ lev → lev ≤ 41 → k ≤ s.size → cnt ≤ 400 → 2 * (401 - cnt) + 1 ≤ F → St w b s k (OkR cnt) →
  Calls Tryd.prog 19 #[.pointer (some ⟨b, 0, none⟩), .int .i64 lev] w (DtPostR b s w (pdl s F false lev k cnt []))
/-- Where the list's loop stands: no fault yet, or one. -/
def Mode (b : Nat) (s : ByteArray) (f : Nat) (lev : Int) (PD : PR) (wr : World) (g0 : Nat) (Y : List DV) : Prop :=
  (∃ k2 c2 : Nat, k2 ≤ s.size ∧ c2 ≤ 400 ∧ g0 ≤ f ∧ 2 * (401 - c2) + 2 ≤ g0 ∧ Y.length ≤ c2 ∧ St wr b s k2 (OkR c2) ∧ pdl s g0 true lev k2 c2 (Y.map (·.t)) = PD) ∨
  (∃ (a p : Nat) (c er : Int), er ≠ 0 ∧ Y.length ≤ 401 ∧ St wr b s a [.int .i64 c, .int .i64 p, .int .i64 er] ∧ PD = .bad p er)

/-- Only draws. -/
def Drawn (w w' : World) : Prop := ∃ n, w' = w.drewN n
theorem Drawn.st {w w' : World} {b k : Nat} {s : ByteArray} {R : List Value} (h : Drawn w w') (hs : St w b s k R) : St w' b s k R := by
  obtain ⟨n, rfl⟩ := h
  exact hs.drew n
theorem Drawn.only {w0 w w' : World} {b : Nat} (h : Drawn w w') (ho : Only b w0 w) : Only b w0 w' := by
  obtain ⟨n, rfl⟩ := h
  exact ho.drew n
theorem ends_val (c : UInt8) (B : Bool) (h : isEnd c = B) (w : World) : Calls Tryd.prog 30 #[.int .u8 c.toNat] w fun e w' => e = .returned (.bool B) ∧ w' = w := by rw [← h]; exact ends_any c w
theorem name_val (W : ByteArray) (hW : W.size ≤ 3000) (B : Bool) (h : nameB W.data.toList = B) (w : World) : Calls Tryd.prog 31 #[.string W] w fun e w' => e = .returned (.bool B) ∧ Drawn w w' := by rw [← h]; exact nameMay_any W (by unfold maxLen; omega) w
theorem whole_val (W : ByteArray) (hW : W.size ≤ 3000) (v : Value) (h : wholeV W.data.toList = v) (w : World) : Calls Tryd.prog 32 #[.string W] w fun e w' => e = .returned v ∧ Drawn w w' := by rw [← h]; exact whole_any W hW w
theorem fits_val (W : ByteArray) (hW : W.size ≤ 3000) (h0 : 0 < W.size) (B : Bool) (h : fitsB W.data.toList = B) (w : World) : Calls Tryd.prog 33 #[.string W] w fun e w' => e = .returned (.bool B) ∧ Drawn w w' := by rw [← h]; exact fits_any W hW h0 w
theorem whole_pos {W : ByteArray} (h : wholeB W.data.toList = true) : 0 < W.size := by
  rcases Nat.eq_zero_or_pos W.size with h0 | h0
  · exfalso
    have e := str_nil h0
    rw [ByteArray.toList_eq] at e
    rw [e] at h
    cases h
  · exact h0
theorem signed_in {l : List UInt8} (h : val 0 (digsOf l) ≤ 1099511627776) : ¬ (signed l < -1099511627776 ∨ 1099511627776 < signed l) := by
  unfold signed
  generalize val 0 (digsOf l) = x at h ⊢
  split <;> omega
theorem signed_out {l : List UInt8} (h : ¬ val 0 (digsOf l) ≤ 1099511627776) : signed l < -1099511627776 ∨ 1099511627776 < signed l := by
  unfold signed
  generalize val 0 (digsOf l) = x at h ⊢
  split <;> omega

set_option maxHeartbeats 8000000 in
set_option maxRecDepth 100000 in
theorem one_step (b : Nat) (s : ByteArray) (hs : s.size ≤ 3000) (f : Nat) (ih : ∀ g, g < f + 1 → DatumR b s g) : DatumR b s (f + 1) := by
  intro lev k cnt w hl0 hl1 hk hcnt hF h
  have IH := Lib.hid ih
  have HF := Lib.hid hF
  have H := Lib.hid h
  have hlt := h.lt
  clear ih hF h
  have hb0 : Below w.heap.size w (w.alloc (.cells #[.int .i64 0, .int .i64 0, .string ⟨#[]⟩, .slice none 0 0] 24)) := (Below.refl _ _).alloc (Nat.le_refl _) _
  have HS0 := Lib.hid (H.out.new hb0)
  have HR0 := Lib.hid (Res4.alloc w (.int .i64 0) (.int .i64 0) (.string ⟨#[]⟩) (.slice none 0 0) 24)
  have hne1 : w.heap.size ≠ b := Nat.ne_of_gt hlt
  have hne2 : b ≠ w.heap.size := Nat.ne_of_lt hlt
  have HB0 := Lib.hid hb0
  clear hb0
  go_enter Tryd.func19, Tryd.ntmps19
  go_wp2_with fail
  refine (skip_any _ b s k (OkR cnt) hs hk HS0.out).mono ?_
  rintro e w1 ⟨rfl, hst, hon⟩
  have HR1 := Lib.hid (HR0.out.only hon hne1)
  have HO1 := Lib.hid ((Only.of_below (b := b) HB0.out).trans hon)
  have hk1s := skipA_le s k hk
  obtain ⟨k1, hk1⟩ : ∃ k1, skipA s k = k1 := ⟨_, rfl⟩
  have HK1 := Lib.hid hk1
  rw [hk1] at hst hk1s
  have p0 := hst.c0
  have p1 := hst.c1
  have p2 : w1.cell? ⟨b, 2, none⟩ = some (.int .i64 cnt) := hst.rest 0 _ rfl
  have p4 : w1.cell? ⟨b, 4, none⟩ = some (.int .i64 0) := hst.rest 2 _ rfl
  have f1 := hst.frz 1
  have f2 := hst.frz 2
  have HST := Lib.hid hst
  have hw1 : w.heap.size < w1.heap.size := by
    obtain ⟨⟨u0, _, _, _, h0, _⟩, _⟩ := HR1.out
    exact World.block_lt_of_cell? w1 _ h0
  have y0 : (0 : Int) ≤ (k1 : Int) := Int.natCast_nonneg _
  have y1 : (0 : Int) ≤ (cnt : Int) := Int.natCast_nonneg _
  have y2 : (cnt : Int) ≤ 400 := by omega
  have y3 : (k1 : Int) ≤ (s.size : Int) := by omega
  have y4 : (s.size : Int) ≤ 3000 := by omega
  clear hst hon hk1 HS0 HR0
  rcases Nat.lt_or_ge k1 s.size with hlt1 | hge
  · have y5 : (k1 : Int) < (s.size : Int) := by omega
    have y6 : ((k1 : Int) == (s.size : Int)) = false := by rw [beq_eq_false_iff_ne]; omega
    obtain ⟨c, hc⟩ : ∃ c : UInt8, s[k1] = c := ⟨_, rfl⟩
    have HC := Lib.hid hc
    have HPE := Lib.hid (show skipA s k < s.size by rw [HK1.out]; exact hlt1)
    have hsc : s[skipA s k]'HPE.out = c := by rw [← hc]; exact getElem_congr_idx HK1.out
    have HSC := Lib.hid hsc
    clear hsc
    have HST1 := Lib.hid (show St (w1.setCell ⟨b, 2, none⟩ (.int .i64 ((cnt : Int) + 1))) b s k1 (OkR (cnt + 1)) from HST.out.put 0 (by simp [OkR]) (.int .i64 ((cnt : Int) + 1)))
    have HOX := Lib.hid (show Only b w (w1.setCell ⟨b, 2, none⟩ (.int .i64 ((cnt : Int) + 1))) from HO1.out.set _)
    have HR2 := Lib.hid (HR1.out.only (show Only b w1 (w1.setCell ⟨b, 2, none⟩ (.int .i64 ((cnt : Int) + 1))) from (Only.refl b w1).set _) hne1)
    by_cases hc400 : 400 < cnt + 1
    · have y7 : 400 < (cnt : Int) + 1 := by omega
      have HC4 := Lib.hid hc400
      clear hc400
      go_wp2_with fail
      refine (wrong_any _ b s k1 k1 _ _ 1 HST1.out).mono ?_
      rintro e w8 ⟨rfl, h8, ho8⟩
      have HS8 := Lib.hid h8
      have HO8 := Lib.hid (HOX.out.trans ho8)
      have HRX := Lib.hid (HR2.out.only ho8 hne1)
      clear h8 ho8
      obtain ⟨⟨x0, x1, x2, x3, z0, z1, z2, z3⟩, zf⟩ := HRX.out
      have e0 := zf 0
      have e1 := zf 1
      have e2 := zf 2
      have e3 := zf 3
      clear zf
      go_wp2_with fail
      refine bodyPost_ret (v := .agg #[.int .i64 0, .int .i64 0, .string ⟨#[]⟩, .slice none 0 0]) (by simp [results, Tryd.results19, go_sem, z0, z1, z2, z3]) rfl ?_
      rw [pdl_size HPE.out HC4.out, HK1.out]
      obtain ⟨q1, q2⟩ := put4 HS8.out HO8.out hne1 (Nat.le_refl _) (.int .i64 0) (.int .i64 0) (.string ⟨#[]⟩) (.slice none 0 0)
      exact ⟨_, _, _, _, _, _, _, rfl, q2, leaf_tree _ _ _ _ _ _, _, _, q1⟩
    · have y7 : ¬ 400 < (cnt : Int) + 1 := by omega
      have HC4 := Lib.hid hc400
      have hcnt1 : cnt + 1 ≤ 400 := by omega
      clear hc400
      by_cases hl40 : 40 < lev
      · have HL4 := Lib.hid hl40
        go_wp2_with fail
        refine (wrong_any _ b s k1 k1 _ _ 8 HST1.out).mono ?_
        rintro e w8 ⟨rfl, h8, ho8⟩
        have HS8 := Lib.hid h8
        have HO8 := Lib.hid (HOX.out.trans ho8)
        have HRX := Lib.hid (HR2.out.only ho8 hne1)
        clear h8 ho8
        obtain ⟨⟨x0, x1, x2, x3, z0, z1, z2, z3⟩, zf⟩ := HRX.out
        have e0 := zf 0
        have e1 := zf 1
        have e2 := zf 2
        have e3 := zf 3
        clear zf
        go_wp2_with fail
        refine bodyPost_ret (v := .agg #[.int .i64 0, .int .i64 0, .string ⟨#[]⟩, .slice none 0 0]) (by simp [results, Tryd.results19, go_sem, z0, z1, z2, z3]) rfl ?_
        rw [pdl_deep HPE.out HC4.out HL4.out, HK1.out]
        obtain ⟨q1, q2⟩ := put4 HS8.out HO8.out hne1 (Nat.le_refl _) (.int .i64 0) (.int .i64 0) (.string ⟨#[]⟩) (.slice none 0 0)
        exact ⟨_, _, _, _, _, _, _, rfl, q2, leaf_tree _ _ _ _ _ _, _, _, q1⟩
      · have HL4 := Lib.hid (id (α := ¬ 40 < lev) (by omega))
        have hl40' : lev ≤ 40 := by omega
        by_cases h41 : c = 41
        · have HC1 := Lib.hid h41
          have c41 : ((c.toNat : Int) == 41) = true := by rw [h41]; rfl
          clear h41
          go_wp2_with fail
          refine (wrong_any _ b s k1 k1 _ _ 4 HST1.out).mono ?_
          rintro e w8 ⟨rfl, h8, ho8⟩
          have HS8 := Lib.hid h8
          have HO8 := Lib.hid (HOX.out.trans ho8)
          have HRX := Lib.hid (HR2.out.only ho8 hne1)
          clear h8 ho8
          obtain ⟨⟨x0, x1, x2, x3, z0, z1, z2, z3⟩, zf⟩ := HRX.out
          have e0 := zf 0
          have e1 := zf 1
          have e2 := zf 2
          have e3 := zf 3
          clear zf
          go_wp2_with fail
          refine bodyPost_ret (v := .agg #[.int .i64 0, .int .i64 0, .string ⟨#[]⟩, .slice none 0 0]) (by simp [results, Tryd.results19, go_sem, z0, z1, z2, z3]) rfl ?_
          rw [pdl_close HPE.out HC4.out (by have := HL4.out; omega) (HSC.out.trans HC1.out), HK1.out]
          obtain ⟨q1, q2⟩ := put4 HS8.out HO8.out hne1 (Nat.le_refl _) (.int .i64 0) (.int .i64 0) (.string ⟨#[]⟩) (.slice none 0 0)
          exact ⟨_, _, _, _, _, _, _, rfl, q2, leaf_tree _ _ _ _ _ _, _, _, q1⟩
        · have HC1 := Lib.hid h41
          have c41 : ((c.toNat : Int) == 41) = false := ne8 c 41 (by decide) h41
          clear h41
          by_cases h39 : c = 39
          · have HC3 := Lib.hid h39
            have c39 : ((c.toNat : Int) == 39) = true := by rw [h39]; rfl
            clear h39
            go_wp2_with fail
            refine (IH.out f (by omega) (lev + 1) (k1 + 1) (cnt + 1) _ (by omega) (by omega) (by omega) hcnt1 (by have := HF.out; omega) (HST1.out.at_ (k1 + 1))).mono ?_
            rintro e w3 ⟨kk, nn, tt, A, len, cap, x, rfl, ho3, hd, hm⟩
            have HM := Lib.hid hm
            have HD := Lib.hid hd
            have HO3 := Lib.hid ((HOX.out.set _).trans ho3)
            have HR3 := Lib.hid ((HR2.out.only ((Only.refl b _).set _) hne1).only ho3 hne1)
            clear hm ho3 hd
            obtain ⟨⟨x0, x1, x2, x3, z0, z1, z2, z3⟩, zf⟩ := HR3.out
            have e0 := zf 0
            have e1 := zf 1
            have e2 := zf 2
            have e3 := zf 3
            clear zf
            have hz3 := World.block_lt_of_cell? w3 _ z0
            go_wp2_with fail
            have HPE2 := Lib.hid (pdl_quote (f := f) (lev := lev) (acc := []) HPE.out HC4.out (by have := HL4.out; omega) (HSC.out.trans HC3.out))
            rw [HK1.out] at HPE2
            refine bodyPost_ret (v := .agg #[.int .i64 4, .int .i64 0, .string ⟨#[]⟩, .slice (some ⟨w3.heap.size + 1, 0, none⟩) 2 2]) (by simp [results, Tryd.results19, go_sem, z0, z1, z2, z3, hz3, Nat.lt_succ_of_lt hz3]) rfl ?_
            have hm := HM.out
            rw [HPE2.out]
            have hd1 : DtIn w3 (w.heap.size + 1) w3.heap.size [.int .i64 kk, .int .i64 nn, .string tt, .slice A len cap] x := HD.out.mono (keep_refl _ _ _) (Nat.le_refl _) (by simp; omega) (Nat.le_refl _)
            have hd2 := tree_put4 hd1 (p := w.heap.size) (lo' := w.heap.size) (Nat.lt_succ_self _) (Nat.le_succ _) (.int .i64 4) (.int .i64 0) (.string ⟨#[]⟩) (.slice (some ⟨w3.heap.size + 1, 0, none⟩) 2 2)
            have hd3 := hd2.new (lo' := w.heap.size) ((Below.refl _ _).alloc (Nat.le_refl _) (.cells #[.int .i64 kk, .int .i64 nn, .string tt, .slice A len cap] 24)) (Nat.le_refl _)
            have hd4 := quote_tree 24 hd3 (by simp; omega) (w3.heap.size + 1) (by simp)
            cases hr : pdl s f false (lev + 1) (k1 + 1) (cnt + 1) [] with
            | bad p er =>
              rw [hr] at hm
              obtain ⟨a', c', h8⟩ := hm
              obtain ⟨q1, q2⟩ := put4 h8 HO3.out hne1 (Nat.le_refl _) (.int .i64 4) (.int .i64 0) (.string ⟨#[]⟩) (.slice (some ⟨w3.heap.size + 1, 0, none⟩) 2 2)
              exact ⟨_, _, _, _, _, _, _, rfl, q2.trans (Only.of_below (((Below.refl _ _).alloc (Nat.le_refl _) _).alloc (by simp) _)), hd4, _, _, q1.new (((Below.refl _ _).alloc (Nat.le_refl _) _).alloc (by simp) _)⟩
            | good a cc y =>
              rw [hr] at hm
              obtain ⟨h8, rfl⟩ := hm
              obtain ⟨q1, q2⟩ := put4 h8 HO3.out hne1 (Nat.le_refl _) (.int .i64 4) (.int .i64 0) (.string ⟨#[]⟩) (.slice (some ⟨w3.heap.size + 1, 0, none⟩) 2 2)
              exact ⟨_, _, _, _, _, _, _, rfl, q2.trans (Only.of_below (((Below.refl _ _).alloc (Nat.le_refl _) _).alloc (by simp) _)), hd4, q1.new (((Below.refl _ _).alloc (Nat.le_refl _) _).alloc (by simp) _), rfl⟩
          · have HC3 := Lib.hid h39
            have c39 : ((c.toNat : Int) == 39) = false := ne8 c 39 (by decide) h39
            clear h39
            by_cases h40 : c = 40
            · have HC0 := Lib.hid h40
              have c40 : ((c.toNat : Int) == 40) = true := by rw [h40]; rfl
              clear h40
              go_upto_region 22 with fail
              obtain ⟨PD, hPD⟩ : ∃ PD, pdl s f true lev (k1 + 1) (cnt + 1) [] = PD := ⟨_, rfl⟩
              have HPE2 := Lib.hid (show pdl s (f + 1) false lev k cnt [] = PD by rw [pdl_list HPE.out HC4.out (by have := HL4.out; omega) (HSC.out.trans HC0.out), HK1.out, hPD])
              have HPD := Lib.hid hPD
              have HSL := Lib.hid ((HST1.out.at_ (k1 + 1)).new ((Below.refl _ _).alloc (Nat.le_refl _) (.cells #[.int .i64 4, .int .i64 0, .string ⟨#[]⟩, .slice none 0 0] 24)))
              have HOL := Lib.hid ((HOX.out.set (j := 1) (.int .i64 ((k1 : Int) + 1))).trans (Only.of_below ((Below.refl _ _).alloc (Nat.le_refl _) (.cells #[.int .i64 4, .int .i64 0, .string ⟨#[]⟩, .slice none 0 0] 24))))
              have HRL := Lib.hid ((HR2.out.only ((Only.refl b _).set (j := 1) (.int .i64 ((k1 : Int) + 1))) hne1).only (Only.of_below (b := b) ((Below.refl _ _).alloc (Nat.le_refl _) (.cells #[.int .i64 4, .int .i64 0, .string ⟨#[]⟩, .slice none 0 0] 24))) hne1)
              have hp1 : w1.heap.size ≠ b := by omega
              have hp2 : b ≠ w1.heap.size := by omega
              have hp3 : w.heap.size ≠ w1.heap.size := by omega
              have hp4 : w1.heap.size ≠ w.heap.size := by omega
              have HLP := Lib.hid (show Lp (w1.heap.size + 1) b w.heap.size w1.heap.size w (((w1.setCell ⟨b, 2, none⟩ (.int .i64 ((cnt : Int) + 1))).setCell ⟨b, 1, none⟩ (.int .i64 ((k1 : Int) + 1))).alloc (.cells #[.int .i64 4, .int .i64 0, .string ⟨#[]⟩, .slice none 0 0] 24)) (.slice none 0 0) [] from
                Lp.start HOL.out HRL.out ((World.cell?_alloc_at _ _ _ _ (by simp)).trans rfl) ((World.cell?_alloc_at _ _ _ _ (by simp)).trans rfl) ((World.cell?_alloc_at _ _ _ _ (by simp)).trans rfl) ((World.cell?_alloc_at _ _ _ _ (by simp)).trans rfl) (fun o => World.frozen?_alloc_at _ _ _ _ (by simp)) (by simp))
              clear p0 p1 p2 p4 f1 f2 hPD
              have hF := HF.out
              go_loopg [9] f (fun g x wr => ∃ (g0 : Nat) (v : Value) (Y : List DV), g = g0 ∧ Lp (w1.heap.size + 1) b w.heap.size w1.heap.size w wr v Y ∧ Mode b s f lev PD wr g0 Y)
              case atStart => exact ⟨f, .slice none 0 0, [], rfl, HLP.out, Or.inl ⟨k1 + 1, cnt + 1, hlt1, hcnt1, Nat.le_refl _, by omega, by simp, HSL.out, HPD.out⟩⟩
              case round =>
                obtain ⟨g0, v, Y, hgg, hlp, hmode⟩ := hrel
                have HLP2 := Lib.hid hlp
                have hbB : b < w1.heap.size + 1 := by omega
                have HBB := Lib.hid hbB
                clear hlp hbB hF
                rcases hmode with ⟨k2, c2, hk2, hc2, hgf, hg2, hYc, hst, hpd⟩ | ⟨a9, p9, c9, er, hen, hY9, hst, hpd⟩
                · obtain ⟨g', rfl⟩ : ∃ g', g0 = g' + 1 := ⟨g0 - 1, by omega⟩
                  have HGG := Lib.hid hgg
                  have HST2 := Lib.hid hst
                  have HPD2 := Lib.hid hpd
                  have HG2 := Lib.hid hg2
                  have HGF := Lib.hid hgf
                  have HYC := Lib.hid hYc
                  have p4 : wr.cell? ⟨b, 4, none⟩ = some (.int .i64 0) := hst.rest 2 _ rfl
                  clear hst hpd hg2 hgf hYc hgg
                  go_wp2_with fail
                  refine (skip_any wr b s k2 (OkR c2) hs hk2 HST2.out).mono ?_
                  rintro e w2 ⟨rfl, hst2, hon2⟩
                  have HLPX := Lib.hid (HLP2.out.move hon2 HBB.out hp1 hne1)
                  have hk3s := skipA_le s k2 hk2
                  obtain ⟨k3, hk3⟩ : ∃ k3, skipA s k2 = k3 := ⟨_, rfl⟩
                  have HK3 := Lib.hid hk3
                  rw [hk3] at hst2 hk3s
                  have HST3 := Lib.hid hst2
                  have p0 := hst2.c0
                  have p1 := hst2.c1
                  have f1 := hst2.frz 1
                  obtain ⟨A, cap, rfl, _⟩ := HLPX.out.own.form
                  have v0 : (0 : Int) ≤ (k3 : Int) := Int.natCast_nonneg _
                  have v3 : (k3 : Int) ≤ (s.size : Int) := by omega
                  clear hst2 hon2 hk3 HST2 HLP2 p4
                  by_cases hcl : closeB s k3 = true
                  · have HCL := Lib.hid hcl
                    have hlt3 : k3 < s.size := by
                      unfold closeB at hcl
                      split at hcl
                      · assumption
                      · cases hcl
                    have hc41 : s[k3] = 41 := by simpa [closeB, hlt3] using hcl
                    have v5 : (k3 : Int) < (s.size : Int) := by omega
                    obtain ⟨d, hd⟩ : ∃ d : UInt8, s[k3] = d := ⟨_, rfl⟩
                    have d41 : ((d.toNat : Int) == 41) = true := by rw [← hd, hc41]; rfl
                    clear hcl hc41
                    have HPF := Lib.hid (show PD = .good (k3 + 1) c2 (.mk 4 0 ⟨#[]⟩ (Y.map (·.t))) from by rw [← HPD2.out, pdl_stop (by rw [HK3.out]; exact HCL.out), HK3.out])
                    have l0 := HLPX.out.p0
                    have l1 := HLPX.out.p1
                    have l2 := HLPX.out.p2
                    have l3 := HLPX.out.p3
                    have g3 := HLPX.out.pf 3
                    obtain ⟨⟨x0, x1, x2, x3, z0, z1, z2, z3⟩, zf⟩ := HLPX.out.res
                    have e0 := zf 0
                    have e1 := zf 1
                    have e2 := zf 2
                    have e3 := zf 3
                    clear zf
                    go_wp2_with fail
                    go_quiet (fail)
                    go_wp2_with fail
                    refine bodyPost_ret (v := .agg #[.int .i64 4, .int .i64 0, .string ⟨#[]⟩, .slice A Y.length cap]) (by simp [results, Tryd.results19, go_sem, z0, z1, z2, z3]) rfl ?_
                    rw [HPE2.out, HPF.out]
                    obtain ⟨q1, q2⟩ := put4 ((HST3.out.drew nq).at_ (k3 + 1)) ((HLPX.out.only.drew nq).set (j := 1) (.int .i64 ((k3 : Int) + 1))) hne1 (Nat.le_refl _) (.int .i64 4) (.int .i64 0) (.string ⟨#[]⟩) (.slice A Y.length cap)
                    have ht := tree_only (HLPX.out.tree (lo := w.heap.size + 1) (by omega)) (((Only.refl b w2).drew nq).set (j := 1) (.int .i64 ((k3 : Int) + 1))) (by omega) (Nat.le_refl _)
                    exact ⟨_, _, _, _, _, _, _, rfl, q2, tree_put4 ht (p := w.heap.size) (lo' := w.heap.size) (Nat.lt_succ_self _) (Nat.le_succ _) _ _ _ _, q1, rfl⟩
                  · have hcf : closeB s k3 = false := by simpa using hcl
                    have HCL := Lib.hid hcf
                    have hcase : (∃ d : UInt8, ∃ h : k3 < s.size, s[k3] = d ∧ ((d.toNat : Int) == 41) = false) ∨ ¬ k3 < s.size := by
                      by_cases h : k3 < s.size
                      · refine Or.inl ⟨s[k3], h, rfl, ne8 _ 41 (by decide) ?_⟩
                        simpa [closeB, h] using hcf
                      · exact Or.inr h
                    clear hcl hcf
                    rcases hcase with ⟨d, hlt3, hd, d41⟩ | hge3
                    · have v5 : (k3 : Int) < (s.size : Int) := by omega
                      go_wp2_with fail
                      go_quiet (fail)
                      go_wp2_with fail
                      refine (IH.out g' (by have := HGF.out; omega) (lev + 1) k3 c2 _ (by omega) (by omega) hk3s hc2 (by have := HG2.out; omega) (HST3.out.drew _)).mono ?_
                      rintro e w3 ⟨kk, nn, tt, A3, len3, cap3, x, rfl, ho3, hdt, hm⟩
                      have HM := Lib.hid hm
                      have HLP3 := Lib.hid (HLPX.out.move (((Only.refl b w2).drew _).trans ho3) HBB.out hp1 hne1)
                      have hz3 : w.heap.size < w3.heap.size := World.block_lt_of_cell? w3 _ (HLP3.out.res.c.choose_spec.choose_spec.choose_spec.choose_spec.1)
                      have hz1 : w1.heap.size < w3.heap.size := World.block_lt_of_cell? w3 _ HLP3.out.p0
                      have HP2 := Lib.hid (HLPX.out.base)
                      clear p0 p1 f1 ho3 hm
                      obtain ⟨dx, hdc, hdx, hdlo, hdhi, hdok⟩ := hdt.view (Nat.le_refl _)
                      have HDC := Lib.hid hdc
                      have HDX := Lib.hid hdx
                      have hbx : Below w3.heap.size w3 (w3.alloc (.cells #[.int .i64 kk, .int .i64 nn, .string tt, .slice A3 len3 cap3] 24)) := (Below.refl _ _).alloc (Nat.le_refl _) _
                      have HBX := Lib.hid hbx
                      have HLP4 := Lib.hid (HLP3.out.new hbx HBB.out hp1 hne1)
                      have HOK4 := Lib.hid (kitDt.kept _ _ _ none hdok (grown_of_below hbx none) (fun b _ => by simp))
                      have hlo2 : w2.heap.size ≤ dx.lo := by rw [hdlo]; exact Nat.le_refl _
                      have HFR := Lib.hid (fun q (hq : kitDt.uses dx q) => Nat.le_trans HP2.out (Nat.le_trans hlo2 hq.1))
                      have HAP := Lib.hid (fun q (hq : kitDt.uses dx q) (e : (Value.slice A Y.length cap).ownBlock = some q) => Nat.lt_irrefl _ (Nat.lt_of_lt_of_le (HLPX.out.own.row.lt q e).2 (Nat.le_trans hlo2 hq.1)))
                      have HYB := Lib.hid (show (Y.length + 1) * 56 ≤ 140737488355328 ∧ Y.length + 1 ≤ maxLen by have := HYC.out; unfold maxLen; omega)
                      have HB4 := Lib.hid HLP4.out.base
                      obtain ⟨i0, I0, I1, I2, I3⟩ := infoDt'
                      have HI0 := Lib.hid I0
                      have HI1 := Lib.hid I1
                      have HI2 := Lib.hid I2
                      have HI3 := Lib.hid I3
                      clear hdt hdc hdx hdlo hdhi hdok hbx I0 I1 I2 I3 hlo2
                      have l3 := HLP4.out.p3
                      have g3 := HLP4.out.pf 3
                      go_wp2_with (at_builtin; refine wpList_own rfl (.tmp 136) (.tmp 138) rfl Tryd.underlying22 HI0.out HI1.out HI2.out HI3.out rfl (by decide) HLP4.out.own dx _ (HDC.out.symm) HOK4.out HFR.out HAP.out rfl (by rw [World.size_alloc]; rfl) HYB.out HB4.out ?_; intro v7 w7 h7 hg7 _; obtain ⟨A7, c7, rfl, _⟩ := h7.form; have m3 := (HLP4.out.cell7 hg7 (Nat.lt_succ_self _)).1; have n3 := (HLP4.out.cell7 hg7 (Nat.lt_succ_self _)).2; have HG7 := Lib.hid hg7; have HST7 := Lib.hid (HLP4.out.step (by simp; omega) HBB.out hp1 (Nat.lt_succ_self _) (by omega) hp3 (by omega) hg7 h7 (by omega)); clear h7 hg7)
                      have hgg := HGG.out
                      have hst7 := HST7.out
                      simp only [List.length_append, List.length_cons, List.length_nil, Nat.zero_add] at hst7
                      have hm := HM.out
                      have hfine := pdl_fine s g' false (lev + 1) k3 c2 [] hk3s hc2 (by have := HG2.out; simp only [Bool.false_eq_true, if_false]; omega)
                      go_roundg g'
                      case measure => omega
                      case rel =>
                        refine ⟨g', .slice A7 (Y.length + 1) c7, Y ++ [dx], rfl, hst7, ?_⟩
                        cases hr : pdl s g' false (lev + 1) k3 c2 [] with
                        | bad p er =>
                          rw [hr] at hm hfine
                          obtain ⟨a', c', h8⟩ := hm
                          refine Or.inr ⟨a', p, c', er, hfine.2, by have := HYC.out; simp only [List.length_append, List.length_cons, List.length_nil]; omega, ((h8.new HBX.out).row HG7.out (HLP4.out.far HBB.out)).other hp1 _, ?_⟩
                          rw [← HPD2.out]
                          exact pdl_item_bad (by rw [HK3.out]; exact HCL.out) (by rw [HK3.out]; exact hr)
                        | good a cc y =>
                          rw [hr] at hm hfine
                          obtain ⟨h8, rfl⟩ := hm
                          obtain ⟨ha, hcc, hcc4⟩ := hfine
                          have hcc' : c2 < cc := by
                            rcases hcc with h | ⟨h, _⟩
                            · exact h
                            · cases h
                          refine Or.inl ⟨a, cc, ha, hcc4, by have := HGF.out; omega, by have := HG2.out; omega, by have := HYC.out; simp only [List.length_append, List.length_cons, List.length_nil]; omega, ((h8.new HBX.out).row HG7.out (HLP4.out.far HBB.out)).other hp1 _, ?_⟩
                          rw [List.map_append, List.map_cons, List.map_nil, HDX.out, ← HPD2.out]
                          exact (pdl_item_good (by rw [HK3.out]; exact HCL.out) (by rw [HK3.out]; exact hr)).symm

                    · have v5 : ¬ (k3 : Int) < (s.size : Int) := by omega
                      go_wp2_with fail
                      go_quiet (fail)
                      go_wp2_with fail
                      refine (IH.out g' (by have := HGF.out; omega) (lev + 1) k3 c2 _ (by omega) (by omega) hk3s hc2 (by have := HG2.out; omega) (HST3.out.drew _)).mono ?_
                      rintro e w3 ⟨kk, nn, tt, A3, len3, cap3, x, rfl, ho3, hdt, hm⟩
                      have HM := Lib.hid hm
                      have HLP3 := Lib.hid (HLPX.out.move (((Only.refl b w2).drew _).trans ho3) HBB.out hp1 hne1)
                      have hz3 : w.heap.size < w3.heap.size := World.block_lt_of_cell? w3 _ (HLP3.out.res.c.choose_spec.choose_spec.choose_spec.choose_spec.1)
                      have hz1 : w1.heap.size < w3.heap.size := World.block_lt_of_cell? w3 _ HLP3.out.p0
                      have HP2 := Lib.hid (HLPX.out.base)
                      clear p0 p1 f1 ho3 hm
                      obtain ⟨dx, hdc, hdx, hdlo, hdhi, hdok⟩ := hdt.view (Nat.le_refl _)
                      have HDC := Lib.hid hdc
                      have HDX := Lib.hid hdx
                      have hbx : Below w3.heap.size w3 (w3.alloc (.cells #[.int .i64 kk, .int .i64 nn, .string tt, .slice A3 len3 cap3] 24)) := (Below.refl _ _).alloc (Nat.le_refl _) _
                      have HBX := Lib.hid hbx
                      have HLP4 := Lib.hid (HLP3.out.new hbx HBB.out hp1 hne1)
                      have HOK4 := Lib.hid (kitDt.kept _ _ _ none hdok (grown_of_below hbx none) (fun b _ => by simp))
                      have hlo2 : w2.heap.size ≤ dx.lo := by rw [hdlo]; exact Nat.le_refl _
                      have HFR := Lib.hid (fun q (hq : kitDt.uses dx q) => Nat.le_trans HP2.out (Nat.le_trans hlo2 hq.1))
                      have HAP := Lib.hid (fun q (hq : kitDt.uses dx q) (e : (Value.slice A Y.length cap).ownBlock = some q) => Nat.lt_irrefl _ (Nat.lt_of_lt_of_le (HLPX.out.own.row.lt q e).2 (Nat.le_trans hlo2 hq.1)))
                      have HYB := Lib.hid (show (Y.length + 1) * 56 ≤ 140737488355328 ∧ Y.length + 1 ≤ maxLen by have := HYC.out; unfold maxLen; omega)
                      have HB4 := Lib.hid HLP4.out.base
                      obtain ⟨i0, I0, I1, I2, I3⟩ := infoDt'
                      have HI0 := Lib.hid I0
                      have HI1 := Lib.hid I1
                      have HI2 := Lib.hid I2
                      have HI3 := Lib.hid I3
                      clear hdt hdc hdx hdlo hdhi hdok hbx I0 I1 I2 I3 hlo2
                      have l3 := HLP4.out.p3
                      have g3 := HLP4.out.pf 3
                      go_wp2_with (at_builtin; refine wpList_own rfl (.tmp 136) (.tmp 138) rfl Tryd.underlying22 HI0.out HI1.out HI2.out HI3.out rfl (by decide) HLP4.out.own dx _ (HDC.out.symm) HOK4.out HFR.out HAP.out rfl (by rw [World.size_alloc]; rfl) HYB.out HB4.out ?_; intro v7 w7 h7 hg7 _; obtain ⟨A7, c7, rfl, _⟩ := h7.form; have m3 := (HLP4.out.cell7 hg7 (Nat.lt_succ_self _)).1; have n3 := (HLP4.out.cell7 hg7 (Nat.lt_succ_self _)).2; have HG7 := Lib.hid hg7; have HST7 := Lib.hid (HLP4.out.step (by simp; omega) HBB.out hp1 (Nat.lt_succ_self _) (by omega) hp3 (by omega) hg7 h7 (by omega)); clear h7 hg7)
                      have hgg := HGG.out
                      have hst7 := HST7.out
                      simp only [List.length_append, List.length_cons, List.length_nil, Nat.zero_add] at hst7
                      have hm := HM.out
                      have hfine := pdl_fine s g' false (lev + 1) k3 c2 [] hk3s hc2 (by have := HG2.out; simp only [Bool.false_eq_true, if_false]; omega)
                      go_roundg g'
                      case measure => omega
                      case rel =>
                        refine ⟨g', .slice A7 (Y.length + 1) c7, Y ++ [dx], rfl, hst7, ?_⟩
                        cases hr : pdl s g' false (lev + 1) k3 c2 [] with
                        | bad p er =>
                          rw [hr] at hm hfine
                          obtain ⟨a', c', h8⟩ := hm
                          refine Or.inr ⟨a', p, c', er, hfine.2, by have := HYC.out; simp only [List.length_append, List.length_cons, List.length_nil]; omega, ((h8.new HBX.out).row HG7.out (HLP4.out.far HBB.out)).other hp1 _, ?_⟩
                          rw [← HPD2.out]
                          exact pdl_item_bad (by rw [HK3.out]; exact HCL.out) (by rw [HK3.out]; exact hr)
                        | good a cc y =>
                          rw [hr] at hm hfine
                          obtain ⟨h8, rfl⟩ := hm
                          obtain ⟨ha, hcc, hcc4⟩ := hfine
                          have hcc' : c2 < cc := by
                            rcases hcc with h | ⟨h, _⟩
                            · exact h
                            · cases h
                          refine Or.inl ⟨a, cc, ha, hcc4, by have := HGF.out; omega, by have := HG2.out; omega, by have := HYC.out; simp only [List.length_append, List.length_cons, List.length_nil]; omega, ((h8.new HBX.out).row HG7.out (HLP4.out.far HBB.out)).other hp1 _, ?_⟩
                          rw [List.map_append, List.map_cons, List.map_nil, HDX.out, ← HPD2.out]
                          exact (pdl_item_good (by rw [HK3.out]; exact HCL.out) (by rw [HK3.out]; exact hr)).symm

                · obtain ⟨A, cap, rfl, _⟩ := HLP2.out.own.form
                  have HS9 := Lib.hid hst
                  have HPF := Lib.hid hpd
                  have p4 : wr.cell? ⟨b, 4, none⟩ = some (.int .i64 er) := hst.rest 2 _ rfl
                  have t1 : (er == 0) = false := by simpa using hen
                  have t2 : (er != 0) = true := by simpa using hen
                  clear hst hpd hen hY9 hgg
                  have l0 := HLP2.out.p0
                  have l1 := HLP2.out.p1
                  have l2 := HLP2.out.p2
                  have l3 := HLP2.out.p3
                  have g3 := HLP2.out.pf 3
                  obtain ⟨⟨x0, x1, x2, x3, z0, z1, z2, z3⟩, zf⟩ := HLP2.out.res
                  have e0 := zf 0
                  have e1 := zf 1
                  have e2 := zf 2
                  have e3 := zf 3
                  clear zf
                  go_wp2_with fail
                  refine bodyPost_ret (v := .agg #[.int .i64 4, .int .i64 0, .string ⟨#[]⟩, .slice A Y.length cap]) (by simp [results, Tryd.results19, go_sem, z0, z1, z2, z3]) rfl ?_
                  rw [HPE2.out, HPF.out]
                  obtain ⟨q1, q2⟩ := put4 HS9.out HLP2.out.only hne1 (Nat.le_refl _) (.int .i64 4) (.int .i64 0) (.string ⟨#[]⟩) (.slice A Y.length cap)
                  exact ⟨_, _, _, _, _, _, _, rfl, q2, tree_put4 (HLP2.out.tree (lo := w.heap.size + 1) (by omega)) (p := w.heap.size) (lo' := w.heap.size) (Nat.lt_succ_self _) (Nat.le_succ _) _ _ _ _, _, _, q1⟩

            · have HC0 := Lib.hid h40
              have c40 : ((c.toNat : Int) == 40) = false := ne8 c 40 (by decide) h40
              clear h40
              have HPD := Lib.hid (pdl_atom (f := f) (lev := lev) (acc := []) HPE.out HC4.out (by have := HL4.out; omega) (by rw [HSC.out]; exact HC1.out) (by rw [HSC.out]; exact HC3.out) (by rw [HSC.out]; exact HC0.out))
              rw [HK1.out] at HPD
              go_wp2_with fail
              go_loopg [164] (s.size - k1) (fun g x wr => ∃ k : Nat, g = s.size - k ∧ k ≤ s.size ∧ k1 ≤ k ∧ St wr b s k (OkR (cnt + 1)) ∧ Only b (w1.setCell ⟨b, 2, none⟩ (.int .i64 ((cnt : Int) + 1))) wr ∧ wordA s k = wordA s k1)
              case atStart => exact ⟨k1, rfl, hk1s, Nat.le_refl _, HST1.out, Only.refl _ _, rfl⟩
              case round =>
                obtain ⟨k2, hg, hk2, hk12, hst, hon, heq⟩ := hrel
                have HG := Lib.hid hg
                have HSX := Lib.hid hst
                have HEQ := Lib.hid heq
                have HOXX := Lib.hid (HOX.out.trans hon)
                have HON := Lib.hid hon
                have HRXX := Lib.hid (HR2.out.only hon hne1)
                clear p0 p1 p2 p4 f1 f2
                have p0 := hst.c0
                have p1 := hst.c1
                have f1 := hst.frz 1
                have v0 : (0 : Int) ≤ (k2 : Int) := Int.natCast_nonneg _
                have v1 : (k1 : Int) ≤ (k2 : Int) := by omega
                have v2 : (k2 : Int) ≤ (s.size : Int) := by omega
                clear hg hst hon heq
                by_cases hlt2 : k2 < s.size
                · have v3 : (k2 : Int) < (s.size : Int) := by omega
                  obtain ⟨d, hd⟩ : ∃ d : UInt8, s[k2] = d := ⟨_, rfl⟩
                  have HD := Lib.hid hd
                  cases he : isEnd d
                  · have HE := Lib.hid he
                    have HN := Lib.hid ((word_on s k2 hlt2 (by rw [hd]; exact he)).symm.trans HEQ.out)
                    clear he
                    go_wp2_with fail
                    go_quiet ((go_at_call 30; exact Calls.quiet_of_same (ends_val d false HE.out _)))
                    go_wp2_with fail
                    go_roundg (s.size - (k2 + 1))
                    case measure => have := HG.out; omega
                    case rel => exact ⟨k2 + 1, rfl, by omega, by omega, ((HSX.out.drew _).at_ (k2 + 1)), (HON.out.drew _).set _, HN.out⟩
                  · have HE := Lib.hid he
                    have HN := Lib.hid (show wordA s k1 = k2 from HEQ.out.symm.trans (word_stop s k2 hlt2 (by rw [hd]; exact he)))
                    clear he
                    go_wp2_with fail
                    go_quiet ((go_at_call 30; exact Calls.quiet_of_same (ends_val d true HE.out _)))
                    obtain ⟨n1, rfl⟩ : ∃ n1, n1 = nq := ⟨nq, rfl⟩
                    go_wp2_with fail
                    go_quiet (fail)
                    obtain ⟨W, hW⟩ : ∃ W, s.extract k1 k2 = W := ⟨_, rfl⟩
                    have hWs : W.size ≤ 3000 := by rw [← hW, ByteArray.size_extract]; omega
                    have HWX := Lib.hid (show s.extract k1 (wordA s k1) = W by rw [HN.out]; exact hW)
                    have HSK := Lib.hid (show St wr b s (wordA s k1) (OkR (cnt + 1)) by rw [HN.out]; exact HSX.out)
                    have HPA := Lib.hid (show pdl s (f + 1) false lev k cnt [] = (atomR W).res k1 (wordA s k1) (cnt + 1) by rw [HPD.out, HWX.out])
                    rw [hW]
                    clear hW p0 p1 f1
                    obtain ⟨w4, hw4⟩ : ∃ w4, w4 = (wr.drewN n1).drewN nq := ⟨_, rfl⟩
                    have HSZ := Lib.hid (show St w4 b s (wordA s k1) (OkR (cnt + 1)) by rw [hw4]; exact (HSK.out.drew _).drew _)
                    have HOZ := Lib.hid (show Only b w w4 by rw [hw4]; exact (HOXX.out.drew _).drew _)
                    have HRZ := Lib.hid (show Res4 w4 w.heap.size by rw [hw4]; exact (HRXX.out.only ((Only.refl b _).drew _) hne1).only ((Only.refl b _).drew _) hne1)
                    rw [← hw4]
                    clear hw4
                    by_cases h1 : W = ⟨#[35, 116]⟩
                    · subst h1
                      have HPE2 := Lib.hid (show pdl s (f + 1) false lev k cnt [] = .good (wordA s k1) (cnt + 1) (.mk 2 1 ⟨#[]⟩ []) from by rw [HPA.out, atomR_t]; rfl)
                      obtain ⟨⟨x0, x1, x2, x3, z0, z1, z2, z3⟩, zf⟩ := HRZ.out
                      have e0 := zf 0
                      have e1 := zf 1
                      have e2 := zf 2
                      have e3 := zf 3
                      clear zf
                      go_wp2_with fail
                      refine bodyPost_ret (v := .agg #[.int .i64 2, .int .i64 1, .string ⟨#[]⟩, .slice none 0 0]) (by simp [results, Tryd.results19, go_sem, z0, z1, z2, z3]) rfl ?_
                      rw [HPE2.out]
                      obtain ⟨q1, q2⟩ := put4 HSZ.out HOZ.out hne1 (Nat.le_refl _) (.int .i64 2) (.int .i64 1) (.string ⟨#[]⟩) (.slice none 0 0)
                      exact ⟨_, _, _, _, _, _, _, rfl, q2, leaf_tree _ _ _ _ _ _, q1, rfl⟩
                    · have hb1 : (W.toList == [35, 116]) = false := neS h1
                      by_cases h2 : W = ⟨#[35, 102]⟩
                      · subst h2
                        clear hb1
                        have HPE2 := Lib.hid (show pdl s (f + 1) false lev k cnt [] = .good (wordA s k1) (cnt + 1) (.mk 2 0 ⟨#[]⟩ []) from by rw [HPA.out, atomR_f]; rfl)
                        obtain ⟨⟨x0, x1, x2, x3, z0, z1, z2, z3⟩, zf⟩ := HRZ.out
                        have e0 := zf 0
                        have e1 := zf 1
                        have e2 := zf 2
                        have e3 := zf 3
                        clear zf
                        go_wp2_with fail
                        refine bodyPost_ret (v := .agg #[.int .i64 2, .int .i64 0, .string ⟨#[]⟩, .slice none 0 0]) (by simp [results, Tryd.results19, go_sem, z0, z1, z2, z3]) rfl ?_
                        rw [HPE2.out]
                        obtain ⟨q1, q2⟩ := put4 HSZ.out HOZ.out hne1 (Nat.le_refl _) (.int .i64 2) (.int .i64 0) (.string ⟨#[]⟩) (.slice none 0 0)
                        exact ⟨_, _, _, _, _, _, _, rfl, q2, leaf_tree _ _ _ _ _ _, q1, rfl⟩
                      · have hb2 : (W.toList == [35, 102]) = false := neS h2
                        have H1 := Lib.hid h1
                        have H2 := Lib.hid h2
                        clear h1 h2
                        cases hnb : nameB W.data.toList with
                        | true =>
                          have HNB := Lib.hid hnb
                          have HPE2 := Lib.hid (show pdl s (f + 1) false lev k cnt [] = .good (wordA s k1) (cnt + 1) (.mk 3 0 W []) from by rw [HPA.out, atomR_sym H1.out H2.out hnb]; rfl)
                          clear hnb
                          go_wp2_with fail
                          refine (name_val W hWs true HNB.out _).mono ?_
                          rintro e w5 ⟨rfl, hq⟩
                          have HSY := Lib.hid (hq.st HSZ.out)
                          have HOY := Lib.hid (hq.only HOZ.out)
                          have HRY := Lib.hid (HRZ.out.only (hq.only (Only.refl b _)) hne1)
                          clear hq HSZ HOZ HRZ
                          have HSZ := HSY
                          have HOZ := HOY
                          have HRZ := HRY
                          obtain ⟨⟨x0, x1, x2, x3, z0, z1, z2, z3⟩, zf⟩ := HRZ.out
                          have e0 := zf 0
                          have e1 := zf 1
                          have e2 := zf 2
                          have e3 := zf 3
                          clear zf
                          go_wp2_with fail
                          refine bodyPost_ret (v := .agg #[.int .i64 3, .int .i64 0, .string W, .slice none 0 0]) (by simp [results, Tryd.results19, go_sem, z0, z1, z2, z3]) rfl ?_
                          rw [HPE2.out]
                          obtain ⟨q1, q2⟩ := put4 HSZ.out HOZ.out hne1 (Nat.le_refl _) (.int .i64 3) (.int .i64 0) (.string W) (.slice none 0 0)
                          exact ⟨_, _, _, _, _, _, _, rfl, q2, leaf_tree _ _ _ _ _ _, q1, rfl⟩
                        | false =>
                          have HNB := Lib.hid hnb
                          clear hnb
                          cases hwb : wholeB W.data.toList with
                          | false =>
                            have HPE2 := Lib.hid (show pdl s (f + 1) false lev k cnt [] = .bad k1 4 from by rw [HPA.out, atomR_none H1.out H2.out HNB.out (numB_form _ hwb)]; rfl)
                            have HV := Lib.hid (wholeV_no hwb)
                            clear hwb
                            go_wp2_with fail
                            refine (name_val W hWs false HNB.out _).mono ?_
                            rintro e w5 ⟨rfl, hq⟩
                            have HSY := Lib.hid (hq.st HSZ.out)
                            have HOY := Lib.hid (hq.only HOZ.out)
                            have HRY := Lib.hid (HRZ.out.only (hq.only (Only.refl b _)) hne1)
                            clear hq HSZ HOZ HRZ
                            go_wp2_with fail
                            refine (whole_val W hWs _ HV.out _).mono ?_
                            rintro e w6 ⟨rfl, hq⟩
                            have HSZ := Lib.hid (hq.st HSY.out)
                            have HOZ := Lib.hid (hq.only HOY.out)
                            have HRZ := Lib.hid (HRY.out.only (hq.only (Only.refl b _)) hne1)
                            clear hq HSY HOY HRY
                            go_wp2_with fail
                            refine (wrong_any _ b s (wordA s k1) k1 _ _ 4 HSZ.out).mono ?_
                            rintro e w8 ⟨rfl, h8, ho8⟩
                            have HS8 := Lib.hid h8
                            have HO8 := Lib.hid (HOZ.out.trans ho8)
                            have HRX := Lib.hid (HRZ.out.only ho8 hne1)
                            clear h8 ho8
                            obtain ⟨⟨x0, x1, x2, x3, z0, z1, z2, z3⟩, zf⟩ := HRX.out
                            have e0 := zf 0
                            have e1 := zf 1
                            have e2 := zf 2
                            have e3 := zf 3
                            clear zf
                            go_wp2_with fail
                            refine bodyPost_ret (v := .agg #[.int .i64 0, .int .i64 0, .string ⟨#[]⟩, .slice none 0 0]) (by simp [results, Tryd.results19, go_sem, z0, z1, z2, z3]) rfl ?_
                            rw [HPE2.out]
                            obtain ⟨q1, q2⟩ := put4 HS8.out HO8.out hne1 (Nat.le_refl _) (.int .i64 0) (.int .i64 0) (.string ⟨#[]⟩) (.slice none 0 0)
                            exact ⟨_, _, _, _, _, _, _, rfl, q2, leaf_tree _ _ _ _ _ _, _, _, q1⟩
                          | true =>
                            have hW0 : 0 < W.size := whole_pos hwb
                            have HWB := Lib.hid hwb
                            clear hwb
                            cases hfb : fitsB W.data.toList with
                            | false =>
                              have HFB := Lib.hid hfb
                              have HPE2 := Lib.hid (show pdl s (f + 1) false lev k cnt [] = .bad k1 4 from by rw [HPA.out, atomR_none H1.out H2.out HNB.out (by rw [numB_fits _ HWB.out, hfb]; rfl)]; rfl)
                              clear hfb
                              by_cases hv : val 0 (digsOf W.data.toList) ≤ 1099511627776
                              · have HV := Lib.hid (wholeV_yes HWB.out hv)
                                clear hv
                                go_wp2_with fail
                                refine (name_val W hWs false HNB.out _).mono ?_
                                rintro e w5 ⟨rfl, hq⟩
                                have HSY := Lib.hid (hq.st HSZ.out)
                                have HOY := Lib.hid (hq.only HOZ.out)
                                have HRY := Lib.hid (HRZ.out.only (hq.only (Only.refl b _)) hne1)
                                clear hq HSZ HOZ HRZ
                                go_wp2_with fail
                                refine (whole_val W hWs _ HV.out _).mono ?_
                                rintro e w6 ⟨rfl, hq⟩
                                have HSZ := Lib.hid (hq.st HSY.out)
                                have HOZ := Lib.hid (hq.only HOY.out)
                                have HRZ := Lib.hid (HRY.out.only (hq.only (Only.refl b _)) hne1)
                                clear hq HSY HOY HRY
                                go_wp2_with fail
                                refine (fits_val W hWs hW0 _ HFB.out _).mono ?_
                                rintro e w7 ⟨rfl, hq⟩
                                have HSY := Lib.hid (hq.st HSZ.out)
                                have HOY := Lib.hid (hq.only HOZ.out)
                                have HRY := Lib.hid (HRZ.out.only (hq.only (Only.refl b _)) hne1)
                                clear hq HSZ HOZ HRZ
                                have HSZ := HSY
                                have HOZ := HOY
                                have HRZ := HRY
                                clear HSY HOY HRY
                                go_wp2_with fail
                                refine (wrong_any _ b s (wordA s k1) k1 _ _ 4 HSZ.out).mono ?_
                                rintro e w8 ⟨rfl, h8, ho8⟩
                                have HS8 := Lib.hid h8
                                have HO8 := Lib.hid (HOZ.out.trans ho8)
                                have HRX := Lib.hid (HRZ.out.only ho8 hne1)
                                clear h8 ho8
                                obtain ⟨⟨x0, x1, x2, x3, z0, z1, z2, z3⟩, zf⟩ := HRX.out
                                have e0 := zf 0
                                have e1 := zf 1
                                have e2 := zf 2
                                have e3 := zf 3
                                clear zf
                                go_wp2_with fail
                                refine bodyPost_ret (v := .agg #[.int .i64 0, .int .i64 0, .string ⟨#[]⟩, .slice none 0 0]) (by simp [results, Tryd.results19, go_sem, z0, z1, z2, z3]) rfl ?_
                                rw [HPE2.out]
                                obtain ⟨q1, q2⟩ := put4 HS8.out HO8.out hne1 (Nat.le_refl _) (.int .i64 0) (.int .i64 0) (.string ⟨#[]⟩) (.slice none 0 0)
                                exact ⟨_, _, _, _, _, _, _, rfl, q2, leaf_tree _ _ _ _ _ _, _, _, q1⟩
                              · have HV := Lib.hid (wholeV_great HWB.out hv)
                                clear hv
                                go_wp2_with fail
                                refine (name_val W hWs false HNB.out _).mono ?_
                                rintro e w5 ⟨rfl, hq⟩
                                have HSY := Lib.hid (hq.st HSZ.out)
                                have HOY := Lib.hid (hq.only HOZ.out)
                                have HRY := Lib.hid (HRZ.out.only (hq.only (Only.refl b _)) hne1)
                                clear hq HSZ HOZ HRZ
                                go_wp2_with fail
                                refine (whole_val W hWs _ HV.out _).mono ?_
                                rintro e w6 ⟨rfl, hq⟩
                                have HSZ := Lib.hid (hq.st HSY.out)
                                have HOZ := Lib.hid (hq.only HOY.out)
                                have HRZ := Lib.hid (HRY.out.only (hq.only (Only.refl b _)) hne1)
                                clear hq HSY HOY HRY
                                go_wp2_with fail
                                refine (fits_val W hWs hW0 _ HFB.out _).mono ?_
                                rintro e w7 ⟨rfl, hq⟩
                                have HSY := Lib.hid (hq.st HSZ.out)
                                have HOY := Lib.hid (hq.only HOZ.out)
                                have HRY := Lib.hid (HRZ.out.only (hq.only (Only.refl b _)) hne1)
                                clear hq HSZ HOZ HRZ
                                have HSZ := HSY
                                have HOZ := HOY
                                have HRZ := HRY
                                clear HSY HOY HRY
                                go_wp2_with fail
                                refine (wrong_any _ b s (wordA s k1) k1 _ _ 4 HSZ.out).mono ?_
                                rintro e w8 ⟨rfl, h8, ho8⟩
                                have HS8 := Lib.hid h8
                                have HO8 := Lib.hid (HOZ.out.trans ho8)
                                have HRX := Lib.hid (HRZ.out.only ho8 hne1)
                                clear h8 ho8
                                obtain ⟨⟨x0, x1, x2, x3, z0, z1, z2, z3⟩, zf⟩ := HRX.out
                                have e0 := zf 0
                                have e1 := zf 1
                                have e2 := zf 2
                                have e3 := zf 3
                                clear zf
                                go_wp2_with fail
                                refine bodyPost_ret (v := .agg #[.int .i64 0, .int .i64 0, .string ⟨#[]⟩, .slice none 0 0]) (by simp [results, Tryd.results19, go_sem, z0, z1, z2, z3]) rfl ?_
                                rw [HPE2.out]
                                obtain ⟨q1, q2⟩ := put4 HS8.out HO8.out hne1 (Nat.le_refl _) (.int .i64 0) (.int .i64 0) (.string ⟨#[]⟩) (.slice none 0 0)
                                exact ⟨_, _, _, _, _, _, _, rfl, q2, leaf_tree _ _ _ _ _ _, _, _, q1⟩
                            | true =>
                              have HFB := Lib.hid hfb
                              have HNN := Lib.hid (show numB W.data.toList = some (signed W.data.toList) from by rw [numB_fits _ HWB.out, hfb]; rfl)
                              clear hfb
                              by_cases hv : val 0 (digsOf W.data.toList) ≤ 1099511627776
                              · have HV := Lib.hid (wholeV_yes HWB.out hv)
                                obtain ⟨n, hn⟩ : ∃ n, signed W.data.toList = n := ⟨_, rfl⟩
                                have hn1 : ¬ (n < -1099511627776 ∨ 1099511627776 < n) := by rw [← hn]; exact signed_in hv
                                rw [hn] at HV HNN
                                have HPE2 := Lib.hid (show pdl s (f + 1) false lev k cnt [] = .good (wordA s k1) (cnt + 1) (.mk 1 n ⟨#[]⟩ []) from by rw [HPA.out, atomR_int H1.out H2.out HNB.out HNN.out hn1]; rfl)
                                clear hv hn1 hn
                                go_wp2_with fail
                                refine (name_val W hWs false HNB.out _).mono ?_
                                rintro e w5 ⟨rfl, hq⟩
                                have HSY := Lib.hid (hq.st HSZ.out)
                                have HOY := Lib.hid (hq.only HOZ.out)
                                have HRY := Lib.hid (HRZ.out.only (hq.only (Only.refl b _)) hne1)
                                clear hq HSZ HOZ HRZ
                                go_wp2_with fail
                                refine (whole_val W hWs _ HV.out _).mono ?_
                                rintro e w6 ⟨rfl, hq⟩
                                have HSZ := Lib.hid (hq.st HSY.out)
                                have HOZ := Lib.hid (hq.only HOY.out)
                                have HRZ := Lib.hid (HRY.out.only (hq.only (Only.refl b _)) hne1)
                                clear hq HSY HOY HRY
                                go_wp2_with fail
                                refine (fits_val W hWs hW0 _ HFB.out _).mono ?_
                                rintro e w7 ⟨rfl, hq⟩
                                have HSY := Lib.hid (hq.st HSZ.out)
                                have HOY := Lib.hid (hq.only HOZ.out)
                                have HRY := Lib.hid (HRZ.out.only (hq.only (Only.refl b _)) hne1)
                                clear hq HSZ HOZ HRZ
                                have HSZ := HSY
                                have HOZ := HOY
                                have HRZ := HRY
                                clear HSY HOY HRY
                                obtain ⟨⟨x0, x1, x2, x3, z0, z1, z2, z3⟩, zf⟩ := HRZ.out
                                have e0 := zf 0
                                have e1 := zf 1
                                have e2 := zf 2
                                have e3 := zf 3
                                clear zf
                                go_wp2_with fail
                                refine bodyPost_ret (v := .agg #[.int .i64 1, .int .i64 n, .string ⟨#[]⟩, .slice none 0 0]) (by simp [results, Tryd.results19, go_sem, z0, z1, z2, z3]) rfl ?_
                                rw [HPE2.out]
                                obtain ⟨q1, q2⟩ := put4 HSZ.out HOZ.out hne1 (Nat.le_refl _) (.int .i64 1) (.int .i64 n) (.string ⟨#[]⟩) (.slice none 0 0)
                                exact ⟨_, _, _, _, _, _, _, rfl, q2, leaf_tree _ _ _ _ _ _, q1, rfl⟩
                              · have HV := Lib.hid (wholeV_great HWB.out hv)
                                have HPE2 := Lib.hid (show pdl s (f + 1) false lev k cnt [] = .bad k1 2 from by rw [HPA.out, atomR_out H1.out H2.out HNB.out HNN.out (signed_out hv)]; rfl)
                                clear hv
                                go_wp2_with fail
                                refine (name_val W hWs false HNB.out _).mono ?_
                                rintro e w5 ⟨rfl, hq⟩
                                have HSY := Lib.hid (hq.st HSZ.out)
                                have HOY := Lib.hid (hq.only HOZ.out)
                                have HRY := Lib.hid (HRZ.out.only (hq.only (Only.refl b _)) hne1)
                                clear hq HSZ HOZ HRZ
                                go_wp2_with fail
                                refine (whole_val W hWs _ HV.out _).mono ?_
                                rintro e w6 ⟨rfl, hq⟩
                                have HSZ := Lib.hid (hq.st HSY.out)
                                have HOZ := Lib.hid (hq.only HOY.out)
                                have HRZ := Lib.hid (HRY.out.only (hq.only (Only.refl b _)) hne1)
                                clear hq HSY HOY HRY
                                go_wp2_with fail
                                refine (fits_val W hWs hW0 _ HFB.out _).mono ?_
                                rintro e w7 ⟨rfl, hq⟩
                                have HSY := Lib.hid (hq.st HSZ.out)
                                have HOY := Lib.hid (hq.only HOZ.out)
                                have HRY := Lib.hid (HRZ.out.only (hq.only (Only.refl b _)) hne1)
                                clear hq HSZ HOZ HRZ
                                have HSZ := HSY
                                have HOZ := HOY
                                have HRZ := HRY
                                clear HSY HOY HRY
                                go_wp2_with fail
                                refine (wrong_any _ b s (wordA s k1) k1 _ _ 2 HSZ.out).mono ?_
                                rintro e w8 ⟨rfl, h8, ho8⟩
                                have HS8 := Lib.hid h8
                                have HO8 := Lib.hid (HOZ.out.trans ho8)
                                have HRX := Lib.hid (HRZ.out.only ho8 hne1)
                                clear h8 ho8
                                obtain ⟨⟨x0, x1, x2, x3, z0, z1, z2, z3⟩, zf⟩ := HRX.out
                                have e0 := zf 0
                                have e1 := zf 1
                                have e2 := zf 2
                                have e3 := zf 3
                                clear zf
                                go_wp2_with fail
                                refine bodyPost_ret (v := .agg #[.int .i64 0, .int .i64 0, .string ⟨#[]⟩, .slice none 0 0]) (by simp [results, Tryd.results19, go_sem, z0, z1, z2, z3]) rfl ?_
                                rw [HPE2.out]
                                obtain ⟨q1, q2⟩ := put4 HS8.out HO8.out hne1 (Nat.le_refl _) (.int .i64 0) (.int .i64 0) (.string ⟨#[]⟩) (.slice none 0 0)
                                exact ⟨_, _, _, _, _, _, _, rfl, q2, leaf_tree _ _ _ _ _ _, _, _, q1⟩
                · have v3 : ¬ (k2 : Int) < (s.size : Int) := by omega
                  have hks : k2 = s.size := by omega
                  have HN := Lib.hid (show wordA s k1 = k2 from by rw [← HEQ.out, hks]; exact word_end s)
                  clear hks
                  go_wp2_with fail
                  go_quiet (fail)
                  obtain ⟨n1, rfl⟩ : ∃ n1, n1 = nq := ⟨nq, rfl⟩
                  go_wp2_with fail
                  go_quiet (fail)
                  obtain ⟨W, hW⟩ : ∃ W, s.extract k1 k2 = W := ⟨_, rfl⟩
                  have hWs : W.size ≤ 3000 := by rw [← hW, ByteArray.size_extract]; omega
                  have HWX := Lib.hid (show s.extract k1 (wordA s k1) = W by rw [HN.out]; exact hW)
                  have HSK := Lib.hid (show St wr b s (wordA s k1) (OkR (cnt + 1)) by rw [HN.out]; exact HSX.out)
                  have HPA := Lib.hid (show pdl s (f + 1) false lev k cnt [] = (atomR W).res k1 (wordA s k1) (cnt + 1) by rw [HPD.out, HWX.out])
                  rw [hW]
                  clear hW p0 p1 f1
                  obtain ⟨w4, hw4⟩ : ∃ w4, w4 = (wr.drewN n1).drewN nq := ⟨_, rfl⟩
                  have HSZ := Lib.hid (show St w4 b s (wordA s k1) (OkR (cnt + 1)) by rw [hw4]; exact (HSK.out.drew _).drew _)
                  have HOZ := Lib.hid (show Only b w w4 by rw [hw4]; exact (HOXX.out.drew _).drew _)
                  have HRZ := Lib.hid (show Res4 w4 w.heap.size by rw [hw4]; exact (HRXX.out.only ((Only.refl b _).drew _) hne1).only ((Only.refl b _).drew _) hne1)
                  rw [← hw4]
                  clear hw4
                  by_cases h1 : W = ⟨#[35, 116]⟩
                  · subst h1
                    have HPE2 := Lib.hid (show pdl s (f + 1) false lev k cnt [] = .good (wordA s k1) (cnt + 1) (.mk 2 1 ⟨#[]⟩ []) from by rw [HPA.out, atomR_t]; rfl)
                    obtain ⟨⟨x0, x1, x2, x3, z0, z1, z2, z3⟩, zf⟩ := HRZ.out
                    have e0 := zf 0
                    have e1 := zf 1
                    have e2 := zf 2
                    have e3 := zf 3
                    clear zf
                    go_wp2_with fail
                    refine bodyPost_ret (v := .agg #[.int .i64 2, .int .i64 1, .string ⟨#[]⟩, .slice none 0 0]) (by simp [results, Tryd.results19, go_sem, z0, z1, z2, z3]) rfl ?_
                    rw [HPE2.out]
                    obtain ⟨q1, q2⟩ := put4 HSZ.out HOZ.out hne1 (Nat.le_refl _) (.int .i64 2) (.int .i64 1) (.string ⟨#[]⟩) (.slice none 0 0)
                    exact ⟨_, _, _, _, _, _, _, rfl, q2, leaf_tree _ _ _ _ _ _, q1, rfl⟩
                  · have hb1 : (W.toList == [35, 116]) = false := neS h1
                    by_cases h2 : W = ⟨#[35, 102]⟩
                    · subst h2
                      clear hb1
                      have HPE2 := Lib.hid (show pdl s (f + 1) false lev k cnt [] = .good (wordA s k1) (cnt + 1) (.mk 2 0 ⟨#[]⟩ []) from by rw [HPA.out, atomR_f]; rfl)
                      obtain ⟨⟨x0, x1, x2, x3, z0, z1, z2, z3⟩, zf⟩ := HRZ.out
                      have e0 := zf 0
                      have e1 := zf 1
                      have e2 := zf 2
                      have e3 := zf 3
                      clear zf
                      go_wp2_with fail
                      refine bodyPost_ret (v := .agg #[.int .i64 2, .int .i64 0, .string ⟨#[]⟩, .slice none 0 0]) (by simp [results, Tryd.results19, go_sem, z0, z1, z2, z3]) rfl ?_
                      rw [HPE2.out]
                      obtain ⟨q1, q2⟩ := put4 HSZ.out HOZ.out hne1 (Nat.le_refl _) (.int .i64 2) (.int .i64 0) (.string ⟨#[]⟩) (.slice none 0 0)
                      exact ⟨_, _, _, _, _, _, _, rfl, q2, leaf_tree _ _ _ _ _ _, q1, rfl⟩
                    · have hb2 : (W.toList == [35, 102]) = false := neS h2
                      have H1 := Lib.hid h1
                      have H2 := Lib.hid h2
                      clear h1 h2
                      cases hnb : nameB W.data.toList with
                      | true =>
                        have HNB := Lib.hid hnb
                        have HPE2 := Lib.hid (show pdl s (f + 1) false lev k cnt [] = .good (wordA s k1) (cnt + 1) (.mk 3 0 W []) from by rw [HPA.out, atomR_sym H1.out H2.out hnb]; rfl)
                        clear hnb
                        go_wp2_with fail
                        refine (name_val W hWs true HNB.out _).mono ?_
                        rintro e w5 ⟨rfl, hq⟩
                        have HSY := Lib.hid (hq.st HSZ.out)
                        have HOY := Lib.hid (hq.only HOZ.out)
                        have HRY := Lib.hid (HRZ.out.only (hq.only (Only.refl b _)) hne1)
                        clear hq HSZ HOZ HRZ
                        have HSZ := HSY
                        have HOZ := HOY
                        have HRZ := HRY
                        obtain ⟨⟨x0, x1, x2, x3, z0, z1, z2, z3⟩, zf⟩ := HRZ.out
                        have e0 := zf 0
                        have e1 := zf 1
                        have e2 := zf 2
                        have e3 := zf 3
                        clear zf
                        go_wp2_with fail
                        refine bodyPost_ret (v := .agg #[.int .i64 3, .int .i64 0, .string W, .slice none 0 0]) (by simp [results, Tryd.results19, go_sem, z0, z1, z2, z3]) rfl ?_
                        rw [HPE2.out]
                        obtain ⟨q1, q2⟩ := put4 HSZ.out HOZ.out hne1 (Nat.le_refl _) (.int .i64 3) (.int .i64 0) (.string W) (.slice none 0 0)
                        exact ⟨_, _, _, _, _, _, _, rfl, q2, leaf_tree _ _ _ _ _ _, q1, rfl⟩
                      | false =>
                        have HNB := Lib.hid hnb
                        clear hnb
                        cases hwb : wholeB W.data.toList with
                        | false =>
                          have HPE2 := Lib.hid (show pdl s (f + 1) false lev k cnt [] = .bad k1 4 from by rw [HPA.out, atomR_none H1.out H2.out HNB.out (numB_form _ hwb)]; rfl)
                          have HV := Lib.hid (wholeV_no hwb)
                          clear hwb
                          go_wp2_with fail
                          refine (name_val W hWs false HNB.out _).mono ?_
                          rintro e w5 ⟨rfl, hq⟩
                          have HSY := Lib.hid (hq.st HSZ.out)
                          have HOY := Lib.hid (hq.only HOZ.out)
                          have HRY := Lib.hid (HRZ.out.only (hq.only (Only.refl b _)) hne1)
                          clear hq HSZ HOZ HRZ
                          go_wp2_with fail
                          refine (whole_val W hWs _ HV.out _).mono ?_
                          rintro e w6 ⟨rfl, hq⟩
                          have HSZ := Lib.hid (hq.st HSY.out)
                          have HOZ := Lib.hid (hq.only HOY.out)
                          have HRZ := Lib.hid (HRY.out.only (hq.only (Only.refl b _)) hne1)
                          clear hq HSY HOY HRY
                          go_wp2_with fail
                          refine (wrong_any _ b s (wordA s k1) k1 _ _ 4 HSZ.out).mono ?_
                          rintro e w8 ⟨rfl, h8, ho8⟩
                          have HS8 := Lib.hid h8
                          have HO8 := Lib.hid (HOZ.out.trans ho8)
                          have HRX := Lib.hid (HRZ.out.only ho8 hne1)
                          clear h8 ho8
                          obtain ⟨⟨x0, x1, x2, x3, z0, z1, z2, z3⟩, zf⟩ := HRX.out
                          have e0 := zf 0
                          have e1 := zf 1
                          have e2 := zf 2
                          have e3 := zf 3
                          clear zf
                          go_wp2_with fail
                          refine bodyPost_ret (v := .agg #[.int .i64 0, .int .i64 0, .string ⟨#[]⟩, .slice none 0 0]) (by simp [results, Tryd.results19, go_sem, z0, z1, z2, z3]) rfl ?_
                          rw [HPE2.out]
                          obtain ⟨q1, q2⟩ := put4 HS8.out HO8.out hne1 (Nat.le_refl _) (.int .i64 0) (.int .i64 0) (.string ⟨#[]⟩) (.slice none 0 0)
                          exact ⟨_, _, _, _, _, _, _, rfl, q2, leaf_tree _ _ _ _ _ _, _, _, q1⟩
                        | true =>
                          have hW0 : 0 < W.size := whole_pos hwb
                          have HWB := Lib.hid hwb
                          clear hwb
                          cases hfb : fitsB W.data.toList with
                          | false =>
                            have HFB := Lib.hid hfb
                            have HPE2 := Lib.hid (show pdl s (f + 1) false lev k cnt [] = .bad k1 4 from by rw [HPA.out, atomR_none H1.out H2.out HNB.out (by rw [numB_fits _ HWB.out, hfb]; rfl)]; rfl)
                            clear hfb
                            by_cases hv : val 0 (digsOf W.data.toList) ≤ 1099511627776
                            · have HV := Lib.hid (wholeV_yes HWB.out hv)
                              clear hv
                              go_wp2_with fail
                              refine (name_val W hWs false HNB.out _).mono ?_
                              rintro e w5 ⟨rfl, hq⟩
                              have HSY := Lib.hid (hq.st HSZ.out)
                              have HOY := Lib.hid (hq.only HOZ.out)
                              have HRY := Lib.hid (HRZ.out.only (hq.only (Only.refl b _)) hne1)
                              clear hq HSZ HOZ HRZ
                              go_wp2_with fail
                              refine (whole_val W hWs _ HV.out _).mono ?_
                              rintro e w6 ⟨rfl, hq⟩
                              have HSZ := Lib.hid (hq.st HSY.out)
                              have HOZ := Lib.hid (hq.only HOY.out)
                              have HRZ := Lib.hid (HRY.out.only (hq.only (Only.refl b _)) hne1)
                              clear hq HSY HOY HRY
                              go_wp2_with fail
                              refine (fits_val W hWs hW0 _ HFB.out _).mono ?_
                              rintro e w7 ⟨rfl, hq⟩
                              have HSY := Lib.hid (hq.st HSZ.out)
                              have HOY := Lib.hid (hq.only HOZ.out)
                              have HRY := Lib.hid (HRZ.out.only (hq.only (Only.refl b _)) hne1)
                              clear hq HSZ HOZ HRZ
                              have HSZ := HSY
                              have HOZ := HOY
                              have HRZ := HRY
                              clear HSY HOY HRY
                              go_wp2_with fail
                              refine (wrong_any _ b s (wordA s k1) k1 _ _ 4 HSZ.out).mono ?_
                              rintro e w8 ⟨rfl, h8, ho8⟩
                              have HS8 := Lib.hid h8
                              have HO8 := Lib.hid (HOZ.out.trans ho8)
                              have HRX := Lib.hid (HRZ.out.only ho8 hne1)
                              clear h8 ho8
                              obtain ⟨⟨x0, x1, x2, x3, z0, z1, z2, z3⟩, zf⟩ := HRX.out
                              have e0 := zf 0
                              have e1 := zf 1
                              have e2 := zf 2
                              have e3 := zf 3
                              clear zf
                              go_wp2_with fail
                              refine bodyPost_ret (v := .agg #[.int .i64 0, .int .i64 0, .string ⟨#[]⟩, .slice none 0 0]) (by simp [results, Tryd.results19, go_sem, z0, z1, z2, z3]) rfl ?_
                              rw [HPE2.out]
                              obtain ⟨q1, q2⟩ := put4 HS8.out HO8.out hne1 (Nat.le_refl _) (.int .i64 0) (.int .i64 0) (.string ⟨#[]⟩) (.slice none 0 0)
                              exact ⟨_, _, _, _, _, _, _, rfl, q2, leaf_tree _ _ _ _ _ _, _, _, q1⟩
                            · have HV := Lib.hid (wholeV_great HWB.out hv)
                              clear hv
                              go_wp2_with fail
                              refine (name_val W hWs false HNB.out _).mono ?_
                              rintro e w5 ⟨rfl, hq⟩
                              have HSY := Lib.hid (hq.st HSZ.out)
                              have HOY := Lib.hid (hq.only HOZ.out)
                              have HRY := Lib.hid (HRZ.out.only (hq.only (Only.refl b _)) hne1)
                              clear hq HSZ HOZ HRZ
                              go_wp2_with fail
                              refine (whole_val W hWs _ HV.out _).mono ?_
                              rintro e w6 ⟨rfl, hq⟩
                              have HSZ := Lib.hid (hq.st HSY.out)
                              have HOZ := Lib.hid (hq.only HOY.out)
                              have HRZ := Lib.hid (HRY.out.only (hq.only (Only.refl b _)) hne1)
                              clear hq HSY HOY HRY
                              go_wp2_with fail
                              refine (fits_val W hWs hW0 _ HFB.out _).mono ?_
                              rintro e w7 ⟨rfl, hq⟩
                              have HSY := Lib.hid (hq.st HSZ.out)
                              have HOY := Lib.hid (hq.only HOZ.out)
                              have HRY := Lib.hid (HRZ.out.only (hq.only (Only.refl b _)) hne1)
                              clear hq HSZ HOZ HRZ
                              have HSZ := HSY
                              have HOZ := HOY
                              have HRZ := HRY
                              clear HSY HOY HRY
                              go_wp2_with fail
                              refine (wrong_any _ b s (wordA s k1) k1 _ _ 4 HSZ.out).mono ?_
                              rintro e w8 ⟨rfl, h8, ho8⟩
                              have HS8 := Lib.hid h8
                              have HO8 := Lib.hid (HOZ.out.trans ho8)
                              have HRX := Lib.hid (HRZ.out.only ho8 hne1)
                              clear h8 ho8
                              obtain ⟨⟨x0, x1, x2, x3, z0, z1, z2, z3⟩, zf⟩ := HRX.out
                              have e0 := zf 0
                              have e1 := zf 1
                              have e2 := zf 2
                              have e3 := zf 3
                              clear zf
                              go_wp2_with fail
                              refine bodyPost_ret (v := .agg #[.int .i64 0, .int .i64 0, .string ⟨#[]⟩, .slice none 0 0]) (by simp [results, Tryd.results19, go_sem, z0, z1, z2, z3]) rfl ?_
                              rw [HPE2.out]
                              obtain ⟨q1, q2⟩ := put4 HS8.out HO8.out hne1 (Nat.le_refl _) (.int .i64 0) (.int .i64 0) (.string ⟨#[]⟩) (.slice none 0 0)
                              exact ⟨_, _, _, _, _, _, _, rfl, q2, leaf_tree _ _ _ _ _ _, _, _, q1⟩
                          | true =>
                            have HFB := Lib.hid hfb
                            have HNN := Lib.hid (show numB W.data.toList = some (signed W.data.toList) from by rw [numB_fits _ HWB.out, hfb]; rfl)
                            clear hfb
                            by_cases hv : val 0 (digsOf W.data.toList) ≤ 1099511627776
                            · have HV := Lib.hid (wholeV_yes HWB.out hv)
                              obtain ⟨n, hn⟩ : ∃ n, signed W.data.toList = n := ⟨_, rfl⟩
                              have hn1 : ¬ (n < -1099511627776 ∨ 1099511627776 < n) := by rw [← hn]; exact signed_in hv
                              rw [hn] at HV HNN
                              have HPE2 := Lib.hid (show pdl s (f + 1) false lev k cnt [] = .good (wordA s k1) (cnt + 1) (.mk 1 n ⟨#[]⟩ []) from by rw [HPA.out, atomR_int H1.out H2.out HNB.out HNN.out hn1]; rfl)
                              clear hv hn1 hn
                              go_wp2_with fail
                              refine (name_val W hWs false HNB.out _).mono ?_
                              rintro e w5 ⟨rfl, hq⟩
                              have HSY := Lib.hid (hq.st HSZ.out)
                              have HOY := Lib.hid (hq.only HOZ.out)
                              have HRY := Lib.hid (HRZ.out.only (hq.only (Only.refl b _)) hne1)
                              clear hq HSZ HOZ HRZ
                              go_wp2_with fail
                              refine (whole_val W hWs _ HV.out _).mono ?_
                              rintro e w6 ⟨rfl, hq⟩
                              have HSZ := Lib.hid (hq.st HSY.out)
                              have HOZ := Lib.hid (hq.only HOY.out)
                              have HRZ := Lib.hid (HRY.out.only (hq.only (Only.refl b _)) hne1)
                              clear hq HSY HOY HRY
                              go_wp2_with fail
                              refine (fits_val W hWs hW0 _ HFB.out _).mono ?_
                              rintro e w7 ⟨rfl, hq⟩
                              have HSY := Lib.hid (hq.st HSZ.out)
                              have HOY := Lib.hid (hq.only HOZ.out)
                              have HRY := Lib.hid (HRZ.out.only (hq.only (Only.refl b _)) hne1)
                              clear hq HSZ HOZ HRZ
                              have HSZ := HSY
                              have HOZ := HOY
                              have HRZ := HRY
                              clear HSY HOY HRY
                              obtain ⟨⟨x0, x1, x2, x3, z0, z1, z2, z3⟩, zf⟩ := HRZ.out
                              have e0 := zf 0
                              have e1 := zf 1
                              have e2 := zf 2
                              have e3 := zf 3
                              clear zf
                              go_wp2_with fail
                              refine bodyPost_ret (v := .agg #[.int .i64 1, .int .i64 n, .string ⟨#[]⟩, .slice none 0 0]) (by simp [results, Tryd.results19, go_sem, z0, z1, z2, z3]) rfl ?_
                              rw [HPE2.out]
                              obtain ⟨q1, q2⟩ := put4 HSZ.out HOZ.out hne1 (Nat.le_refl _) (.int .i64 1) (.int .i64 n) (.string ⟨#[]⟩) (.slice none 0 0)
                              exact ⟨_, _, _, _, _, _, _, rfl, q2, leaf_tree _ _ _ _ _ _, q1, rfl⟩
                            · have HV := Lib.hid (wholeV_great HWB.out hv)
                              have HPE2 := Lib.hid (show pdl s (f + 1) false lev k cnt [] = .bad k1 2 from by rw [HPA.out, atomR_out H1.out H2.out HNB.out HNN.out (signed_out hv)]; rfl)
                              clear hv
                              go_wp2_with fail
                              refine (name_val W hWs false HNB.out _).mono ?_
                              rintro e w5 ⟨rfl, hq⟩
                              have HSY := Lib.hid (hq.st HSZ.out)
                              have HOY := Lib.hid (hq.only HOZ.out)
                              have HRY := Lib.hid (HRZ.out.only (hq.only (Only.refl b _)) hne1)
                              clear hq HSZ HOZ HRZ
                              go_wp2_with fail
                              refine (whole_val W hWs _ HV.out _).mono ?_
                              rintro e w6 ⟨rfl, hq⟩
                              have HSZ := Lib.hid (hq.st HSY.out)
                              have HOZ := Lib.hid (hq.only HOY.out)
                              have HRZ := Lib.hid (HRY.out.only (hq.only (Only.refl b _)) hne1)
                              clear hq HSY HOY HRY
                              go_wp2_with fail
                              refine (fits_val W hWs hW0 _ HFB.out _).mono ?_
                              rintro e w7 ⟨rfl, hq⟩
                              have HSY := Lib.hid (hq.st HSZ.out)
                              have HOY := Lib.hid (hq.only HOZ.out)
                              have HRY := Lib.hid (HRZ.out.only (hq.only (Only.refl b _)) hne1)
                              clear hq HSZ HOZ HRZ
                              have HSZ := HSY
                              have HOZ := HOY
                              have HRZ := HRY
                              clear HSY HOY HRY
                              go_wp2_with fail
                              refine (wrong_any _ b s (wordA s k1) k1 _ _ 2 HSZ.out).mono ?_
                              rintro e w8 ⟨rfl, h8, ho8⟩
                              have HS8 := Lib.hid h8
                              have HO8 := Lib.hid (HOZ.out.trans ho8)
                              have HRX := Lib.hid (HRZ.out.only ho8 hne1)
                              clear h8 ho8
                              obtain ⟨⟨x0, x1, x2, x3, z0, z1, z2, z3⟩, zf⟩ := HRX.out
                              have e0 := zf 0
                              have e1 := zf 1
                              have e2 := zf 2
                              have e3 := zf 3
                              clear zf
                              go_wp2_with fail
                              refine bodyPost_ret (v := .agg #[.int .i64 0, .int .i64 0, .string ⟨#[]⟩, .slice none 0 0]) (by simp [results, Tryd.results19, go_sem, z0, z1, z2, z3]) rfl ?_
                              rw [HPE2.out]
                              obtain ⟨q1, q2⟩ := put4 HS8.out HO8.out hne1 (Nat.le_refl _) (.int .i64 0) (.int .i64 0) (.string ⟨#[]⟩) (.slice none 0 0)
                              exact ⟨_, _, _, _, _, _, _, rfl, q2, leaf_tree _ _ _ _ _ _, _, _, q1⟩
  · obtain rfl : k1 = s.size := by omega
    have HOX := Lib.hid HO1.out
    have HR2 := Lib.hid HR1.out
    go_wp2_with fail
    refine (wrong_any _ b s s.size s.size _ _ 5 HST.out).mono ?_
    rintro e w8 ⟨rfl, h8, ho8⟩
    have HS8 := Lib.hid h8
    have HO8 := Lib.hid (HOX.out.trans ho8)
    have HRX := Lib.hid (HR2.out.only ho8 hne1)
    clear h8 ho8
    obtain ⟨⟨x0, x1, x2, x3, z0, z1, z2, z3⟩, zf⟩ := HRX.out
    have e0 := zf 0
    have e1 := zf 1
    have e2 := zf 2
    have e3 := zf 3
    clear zf
    go_wp2_with fail
    refine bodyPost_ret (v := .agg #[.int .i64 0, .int .i64 0, .string ⟨#[]⟩, .slice none 0 0]) (by simp [results, Tryd.results19, go_sem, z0, z1, z2, z3]) rfl ?_
    rw [pdl_end HK1.out]
    obtain ⟨q1, q2⟩ := put4 HS8.out HO8.out hne1 (Nat.le_refl _) (.int .i64 0) (.int .i64 0) (.string ⟨#[]⟩) (.slice none 0 0)
    exact ⟨_, _, _, _, _, _, _, rfl, q2, leaf_tree _ _ _ _ _ _, _, _, q1⟩
theorem one_any (b : Nat) (s : ByteArray) (hs : s.size ≤ 3000) : ∀ F, DatumR b s F := by
  intro F
  induction F using Nat.strongRecOn with
  | _ F ih =>
    cases F with
    | zero => intro lev k cnt w _ _ _ _ hF; exact absurd hF (by omega)
    | succ f => exact one_step b s hs f ih
end Go.Proofs.YtbkagjngckfonaaDoor
