/- Contract of read's atom. -/
import Derived.Test.YtbkagjngckfonaaDoorAtom
namespace Go.Proofs.YtbkagjngckfonaaDoor
open Go.RowKit Go.ChangeShapes Go.WideShapes Go.Deep
set_option linter.unusedVariables false

/-- The two errors that Atoi hands on. -/
def Errs (w : World) : Prop := ∃ tp p tq q, w.var? Tryd.prog "strconv.ErrSyntax" = some #[.iface tp p] ∧ w.var? Tryd.prog "strconv.ErrRange" = some #[.iface tq q]
theorem var_below {w w' : World} {n : String} {v : Array Value} (h : w.var? Tryd.prog n = some v) (hb : Below w.heap.size w w') : w'.var? Tryd.prog n = some v := by
  unfold World.var? at h ⊢
  cases hg : Tryd.prog.globalNamed n with
  | none => rw [hg] at h; cases h
  | some g =>
  rw [hg] at h
  simp only [Option.bind_some] at h ⊢
  have hlt : g < w.heap.size := by
    rcases Nat.lt_or_ge g w.heap.size with h' | h'
    · exact h'
    · rw [Array.getElem?_eq_none h'] at h; cases h
  rw [hb.block g hlt]
  exact h
theorem Errs.below {w w' : World} (h : Errs w) (hb : Below w.heap.size w w') : Errs w' := by
  obtain ⟨tp, p, tq, q, h1, h2⟩ := h
  exact ⟨tp, p, tq, q, var_below h1 hb, var_below h2 hb⟩
theorem bytesWorld_below (w : World) (t : TypeId) (f : ByteArray) : Below w.heap.size w (Lib.bytesWorld w t f) := Lib.below_freeze (((Below.refl w.heap.size w).drew).alloc (Nat.le_refl _) _) (p := ⟨w.heap.size, _, none⟩) (Nat.le_refl _) _

/-- What atom leaves. -/
def AtomPost (b : Nat) (s : ByteArray) (k0 : Nat) (cnt : Int) (w : World) (r : AR) (e : Ending) (w' : World) : Prop :=
  match r with
  | .bad er => e = .returned (.agg #[.int .i64 0, .int .i64 0, .string ⟨#[]⟩, .slice none 0 0]) ∧ St w' b s k0 [.int .i64 cnt, .int .i64 er] ∧ Only b w w'
  | .good k n t => e = .returned (.agg #[.int .i64 k, .int .i64 n, .string t, .slice none 0 0]) ∧ St w' b s (wordA s k0) [.int .i64 cnt, .int .i64 0] ∧ Only b w w'
theorem Only.set_new {b p j : Nat} {x y : World} (h : Only b x y) (hp : x.heap.size ≤ p) (u : Value) : Only b x (y.setCell ⟨p, j, none⟩ u) :=
  ⟨h.os, h.tape, h.output, by show x.heap.size ≤ _; simpa using World.grownBy.size h, fun k hk hne => (heap_setCell_other y ⟨p, j, none⟩ k u (fun e => by subst e; exact Nat.lt_irrefl _ (Nat.lt_of_lt_of_le hk hp))).trans (World.grownBy.block h k hk hne)⟩
theorem St.other {w : World} {b p j : Nat} {s : ByteArray} {k : Nat} {R : List Value} (h : St w b s k R) (hp : p ≠ b) (u : Value) : St (w.setCell ⟨p, j, none⟩ u) b s k R := by
  have hc : ∀ i, (w.setCell ⟨p, j, none⟩ u).cell? ⟨b, i, none⟩ = w.cell? ⟨b, i, none⟩ := fun i => World.cell?_setCell_far _ _ _ _ hp
  exact ⟨(hc 0).trans h.c0, (hc 1).trans h.c1, fun i v hi => (hc _).trans (h.rest i v hi), fun o => by rw [World.frozen?_setCell]; exact h.frz o⟩
theorem put4 {w0 w : World} {b p : Nat} {s : ByteArray} {k : Nat} {R : List Value} (h : St w b s k R) (ho : Only b w0 w) (hp : p ≠ b) (hp0 : w0.heap.size ≤ p) (u0 u1 u2 u3 : Value) :
    St ((((w.setCell ⟨p, 0, none⟩ u0).setCell ⟨p, 1, none⟩ u1).setCell ⟨p, 2, none⟩ u2).setCell ⟨p, 3, none⟩ u3) b s k R ∧ Only b w0 ((((w.setCell ⟨p, 0, none⟩ u0).setCell ⟨p, 1, none⟩ u1).setCell ⟨p, 2, none⟩ u2).setCell ⟨p, 3, none⟩ u3) :=
  ⟨(((h.other hp _).other hp _).other hp _).other hp _, (((ho.set_new hp0 _).set_new hp0 _).set_new hp0 _).set_new hp0 _⟩
/-- Four cells of a block, to be written. -/
structure Res4 (w : World) (p : Nat) : Prop where
  c : ∃ u0 u1 u2 u3, w.cell? ⟨p, 0, none⟩ = some u0 ∧ w.cell? ⟨p, 1, none⟩ = some u1 ∧ w.cell? ⟨p, 2, none⟩ = some u2 ∧ w.cell? ⟨p, 3, none⟩ = some u3
  f : ∀ o, w.frozen? ⟨p, o, none⟩ = false
theorem Res4.alloc (w : World) (u0 u1 u2 u3 : Value) (T : TypeId) : Res4 (w.alloc (.cells #[u0, u1, u2, u3] T)) w.heap.size :=
  ⟨⟨u0, u1, u2, u3, by simp, by simp, by simp, by simp⟩, fun o => by simp⟩
theorem Res4.only {b p : Nat} {x y : World} (h : Res4 x p) (ho : Only b x y) (hp : p ≠ b) : Res4 y p := by
  obtain ⟨⟨u0, u1, u2, u3, h0, h1, h2, h3⟩, hf⟩ := h
  have hlt := World.block_lt_of_cell? x _ h0
  exact ⟨⟨u0, u1, u2, u3, ho.cell h0 hp, ho.cell h1 hp, ho.cell h2 hp, ho.cell h3 hp⟩, fun o => (World.frozen?_of_block (a := ⟨p, o, none⟩) (World.grownBy.block ho p hlt (fun e => hp (Option.some.inj e)))).trans (hf o)⟩
theorem atoiAll_bd {l : List UInt8} {v : Int} (h : Lib.atoiAll l = .ok v) : -9223372036854775808 ≤ v ∧ v ≤ 9223372036854775807 := by
  unfold Lib.atoiAll at h
  cases l with
  | nil => cases h
  | cons c r =>
    simp only at h
    split at h
    · cases h
    · cases h
    · split at h
      · cases h
      · split at h
        · cases h
        · injection h with h
          subst h
          split <;> omega

theorem neS {W : ByteArray} {l : List UInt8} (h : ¬ W = ⟨l.toArray⟩) : (W.toList == l) = false := by
  rw [ByteArray.toList_eq]
  simp only [beq_eq_false_iff_ne, ne_eq]
  exact fun e => h (WideShapes.bytes_inj (by simpa using e))
theorem atomR_t : atomR ⟨#[35, 116]⟩ = .good 2 1 ⟨#[]⟩ := by unfold atomR; rw [if_pos rfl]
theorem atomR_f : atomR ⟨#[35, 102]⟩ = .good 2 0 ⟨#[]⟩ := by unfold atomR; rw [if_neg (by decide), if_pos rfl]
theorem atomR_sym {W : ByteArray} (h1 : ¬ W = ⟨#[35, 116]⟩) (h2 : ¬ W = ⟨#[35, 102]⟩) (hn : nameB W.data.toList = true) : atomR W = .good 3 0 W := by unfold atomR; rw [if_neg h1, if_neg h2, if_pos hn]
theorem atomR_none {W : ByteArray} (h1 : ¬ W = ⟨#[35, 116]⟩) (h2 : ¬ W = ⟨#[35, 102]⟩) (hn : nameB W.data.toList = false) (h : numB W.data.toList = none) : atomR W = .bad 4 := by unfold atomR; rw [if_neg h1, if_neg h2, if_neg (by simp [hn]), h]
theorem atomR_out {W : ByteArray} (h1 : ¬ W = ⟨#[35, 116]⟩) (h2 : ¬ W = ⟨#[35, 102]⟩) (hn : nameB W.data.toList = false) {n : Int} (h : numB W.data.toList = some n) (hr : n < -1099511627776 ∨ 1099511627776 < n) : atomR W = .bad 2 := by unfold atomR; rw [if_neg h1, if_neg h2, if_neg (by simp [hn]), h]; simp only; rw [if_pos hr]
theorem atomR_int {W : ByteArray} (h1 : ¬ W = ⟨#[35, 116]⟩) (h2 : ¬ W = ⟨#[35, 102]⟩) (hn : nameB W.data.toList = false) {n : Int} (h : numB W.data.toList = some n) (hr : ¬ (n < -1099511627776 ∨ 1099511627776 < n)) : atomR W = .good 1 n ⟨#[]⟩ := by unfold atomR; rw [if_neg h1, if_neg h2, if_neg (by simp [hn]), h]; simp only; rw [if_neg hr]

def AtoiOk (v : Int) (w : World) (e : Ending) (w' : World) : Prop := e = .returned (.tuple #[.int .i64 v, .nilIface]) ∧ Below w.heap.size w w'
def AtoiBad (w : World) (e : Ending) (w' : World) : Prop := ∃ n N, e = .returned (.tuple #[.int .i64 n, .iface 78 (.pointer (some ⟨N, 0, none⟩))]) ∧ Below w.heap.size w w'
theorem atoi_ok (W : ByteArray) (hW : W.size ≤ 3000) (v : Int) (h : Lib.atoiAll W.data.toList = .ok v) (w : World) : Calls Tryd.prog 39 #[.string W] w (AtoiOk v w) := by
  refine (Tryd.strconv_Atoi_ok W (by omega) v h w).mono ?_
  rintro e w' ⟨he, hw⟩
  refine ⟨he, ?_⟩
  rcases hw with hw | ⟨t, hw⟩
  · rw [hw]; exact Below.refl _ _
  · rw [hw]; exact bytesWorld_below w _ t
theorem atoi_bad (W : ByteArray) (hW : W.size ≤ 3000) (h : ∀ v, Lib.atoiAll W.data.toList ≠ .ok v) (w : World) (he : Errs w) : Calls Tryd.prog 39 #[.string W] w (AtoiBad w) := by
  obtain ⟨tp, p, tq, q, h1, h2⟩ := he
  cases hx : Lib.atoiAll W.data.toList with
  | ok v => exact absurd hx (h v)
  | range =>
    refine (Any.strconv_Atoi_range_var Tryd.laysC172 W (by omega) hx tq q w h2).mono ?_
    rintro e w' ⟨N, rfl, _, _, hb⟩
    exact ⟨_, N, rfl, hb⟩
  | _ =>
    refine (Any.strconv_Atoi_syntax_var Tryd.laysC172 W (by omega) hx tp p w h1).mono ?_
    rintro e w' ⟨N, rfl, _, _, hb⟩
    exact ⟨_, N, rfl, hb⟩

set_option maxHeartbeats 4000000 in
set_option maxRecDepth 20000 in
theorem atom_any (w : World) (b : Nat) (s : ByteArray) (k0 : Nat) (cnt : Int) (hs : s.size ≤ 3000) (hk0 : k0 ≤ s.size) (h : St w b s k0 [.int .i64 cnt, .int .i64 0]) (hT : ∀ w', Only b w w' → Tab w' ∧ Errs w') : Calls Tryd.prog 28 #[.pointer (some ⟨b, 0, none⟩), .int .i64 k0] w (AtomPost b s k0 cnt w (atomR (s.extract k0 (wordA s k0)))) := by
  have H := Lib.hid h
  have HT := Lib.hid hT
  clear h hT
  go_enter Tryd.func28, Tryd.ntmps28
  go_wp2_with fail
  have hb0 : Below w.heap.size w (w.alloc (.cells #[.int .i64 0, .int .i64 0, .string ⟨#[]⟩, .slice none 0 0] 24)) := (Below.refl _ _).alloc (Nat.le_refl _) _
  have HS0 := Lib.hid (H.out.new hb0)
  have HR0 := Lib.hid (Res4.alloc w (.int .i64 0) (.int .i64 0) (.string ⟨#[]⟩) (.slice none 0 0) 24)
  have hne1 : w.heap.size ≠ b := Nat.ne_of_gt H.out.lt
  have hne2 : b ≠ w.heap.size := Nat.ne_of_lt H.out.lt
  have HB0 := Lib.hid hb0
  clear hb0
  go_loopg [34] (s.size - k0) (fun g x wr => ∃ k : Nat, g = s.size - k ∧ k ≤ s.size ∧ k0 ≤ k ∧ St wr b s k [.int .i64 cnt, .int .i64 0] ∧ Only b (w.alloc (.cells #[.int .i64 0, .int .i64 0, .string ⟨#[]⟩, .slice none 0 0] 24)) wr ∧ wordA s k = wordA s k0)
  case atStart => exact ⟨k0, rfl, hk0, Nat.le_refl _, HS0.out, Only.refl _ _, rfl⟩
  case round =>
    obtain ⟨k, hg, hk, hk0k, hst, hon, heq⟩ := hrel
    have HG := Lib.hid hg
    have HST := Lib.hid hst
    have HON := Lib.hid hon
    have HEQ := Lib.hid heq
    have p0 := hst.c0
    have p1 := hst.c1
    have f1 := hst.frz 1
    clear hg hst hon heq
    by_cases hlt : k < s.size
    · have y3 : (0 : Int) ≤ (k : Int) := Int.natCast_nonneg _
      have y4 : (k : Int) < (s.size : Int) := by omega
      obtain ⟨c, hc⟩ : ∃ c : UInt8, s[k] = c := ⟨_, rfl⟩
      obtain ⟨J, hJ⟩ : ∃ J, endIx c = J := ⟨_, rfl⟩
      have HJ := Lib.hid hJ
      have HC := Lib.hid hc
      by_cases hJ0 : J < 0
      · have he : isEnd c = false := (endIx_neg c).1 (by rw [hJ]; exact hJ0)
        have HN := Lib.hid ((word_on s k hlt (by rw [hc]; exact he)).symm.trans HEQ.out)
        clear hJ he
        go_wp2_with fail
        go_quiet ((go_at_call 38; exact Calls.quiet_of_same (endIx_any c J HJ.out _)))
        go_wp2_with fail
        go_roundg (s.size - (k + 1))
        case measure => have := HG.out; omega
        case rel => exact ⟨k + 1, rfl, by omega, by omega, ((HST.out.drew _).at_ (k + 1)), (HON.out.drew _).set _, HN.out⟩
      · have he : isEnd c = true := by
          cases hx : isEnd c
          · exact absurd (by rw [← hJ]; exact (endIx_neg c).2 hx) hJ0
          · rfl
        have HN := Lib.hid ((word_stop s k hlt (by rw [hc]; exact he)).symm.trans HEQ.out)
        have hJ1 : 0 ≤ J := by omega
        clear hJ he hJ0
        have y5 : (0 : Int) ≤ (k0 : Int) := Int.natCast_nonneg _
        have y6 : (k0 : Int) ≤ (k : Int) := by omega
        go_wp2_with fail
        go_quiet ((go_at_call 38; exact Calls.quiet_of_same (endIx_any c J HJ.out _)))
        go_wp2_with fail
        go_quiet (fail)
        obtain ⟨W, hW⟩ : ∃ W, s.extract k0 k = W := ⟨_, rfl⟩
        have hWs : W.size ≤ 3000 := by rw [← hW, ByteArray.size_extract]; omega
        have HWX := Lib.hid (show s.extract k0 (wordA s k0) = W by rw [← HN.out]; exact hW)
        have hre := HR0.out.only HON.out hne1
        obtain ⟨⟨u0, u1, u2, u3, r0, r1, r2, r3⟩, hrf⟩ := hre
        have g0 := hrf 0
        have g1 := hrf 1
        have g2 := hrf 2
        have g3 := hrf 3
        have HOW := Lib.hid ((Only.of_below HB0.out).trans HON.out)
        have hgr : w.heap.size < wr.heap.size := World.block_lt_of_cell? wr _ r0
        have HSTK := Lib.hid (show St wr b s (wordA s k0) [.int .i64 cnt, .int .i64 0] by rw [← HN.out]; exact HST.out)
        rw [hW]
        clear hW hrf p0 p1 f1
        by_cases h1 : W = ⟨#[35, 116]⟩
        · subst h1
          go_wp2_with fail
          refine bodyPost_ret (v := .agg #[.int .i64 2, .int .i64 1, .string ⟨#[]⟩, .slice none 0 0]) (by simp [results, Tryd.results28, go_sem, r0, r1, r2, r3]) rfl ?_
          rw [HWX.out, atomR_t]
          exact ⟨rfl, put4 (HSTK.out.drew _) (HOW.out.drew _) hne1 (Nat.le_refl _) _ _ _ _⟩
        · have hb1 : (W.toList == [35, 116]) = false := neS h1
          by_cases h2 : W = ⟨#[35, 102]⟩
          · subst h2
            clear hb1
            go_wp2_with fail
            refine bodyPost_ret (v := .agg #[.int .i64 2, .int .i64 0, .string ⟨#[]⟩, .slice none 0 0]) (by simp [results, Tryd.results28, go_sem, r0, r1, r2, r3]) rfl ?_
            rw [HWX.out, atomR_f]
            exact ⟨rfl, put4 (HSTK.out.drew _) (HOW.out.drew _) hne1 (Nat.le_refl _) _ _ _ _⟩
          · have hb2 : (W.toList == [35, 102]) = false := neS h2
            obtain ⟨nb, hnb⟩ : ∃ nb, nameB W.data.toList = nb := ⟨_, rfl⟩
            have HNB := Lib.hid hnb
            have H1 := Lib.hid h1
            have H2 := Lib.hid h2
            clear h1 h2 hnb
            go_wp2_with fail
            refine (symbol_any W (by unfold maxLen; omega) _).mono ?_
            rintro e w5 ⟨rfl, rfl⟩
            rw [HNB.out]
            cases nb
            · by_cases hok : ∃ v, Lib.atoiAll W.data.toList = .ok v
              · obtain ⟨v, hv⟩ := hok
                obtain ⟨v0, v1⟩ := atoiAll_bd hv
                have HV := Lib.hid hv
                clear hv
                go_wp2_with fail
                refine (atoi_ok W hWs v HV.out _).mono ?_
                rintro e w6 ⟨rfl, hb6⟩
                have HS6 := Lib.hid ((HSTK.out.drew _).new hb6)
                have HO6 := Lib.hid ((HOW.out.drew _).trans (Only.of_below (b := b) hb6))
                have HON6 := Lib.hid ((HON.out.drew _).trans (Only.of_below (b := b) hb6))
                clear hb6
                go_wp2_with fail
                refine (itoa_any v v0 v1 _ (HT.out _ HO6.out).1).mono ?_
                rintro e w7 ⟨rfl, hb7⟩
                have HS7 := Lib.hid (HS6.out.new hb7)
                have HO7 := Lib.hid (HO6.out.trans (Only.of_below (b := b) hb7))
                have HON7 := Lib.hid (HON6.out.trans (Only.of_below (b := b) hb7))
                clear hb7
                by_cases hx : Lib.itoa v = W.data.toList
                · have HN := Lib.hid (show numB W.data.toList = some v by unfold numB; rw [HV.out]; simp only; rw [if_pos hx])
                  have hi1 : (Lib.itoa v == W.toList) = true := by rw [ByteArray.toList_eq, hx]; simp
                  have hi2 : (Lib.itoa v != W.toList) = false := by rw [bne, hi1]; rfl
                  clear hx
                  by_cases hr : v < -1099511627776 ∨ 1099511627776 < v
                  · have HRG := Lib.hid hr
                    rcases hr with hr | hr
                    · have hr2 : ¬ 1099511627776 < v := by omega
                      go_wp2_with fail
                      refine (stop_any _ b s (wordA s k0) k0 cnt 2 HS7.out).mono ?_
                      rintro e w8 ⟨rfl, h8, ho8⟩
                      have HS8 := Lib.hid h8
                      have HO8 := Lib.hid (HO7.out.trans ho8)
                      have HON8 := Lib.hid (HON7.out.trans ho8)
                      clear h8 ho8
                      obtain ⟨⟨x0, x1, x2, x3, z0, z1, z2, z3⟩, zf⟩ := HR0.out.only HON8.out hne1
                      have e0 := zf 0
                      have e1 := zf 1
                      have e2 := zf 2
                      have e3 := zf 3
                      clear zf
                      clear r0 r1 r2 r3 g0 g1 g2 g3
                      go_wp2_with fail
                      refine bodyPost_ret (v := .agg #[.int .i64 0, .int .i64 0, .string ⟨#[]⟩, .slice none 0 0]) (by simp [results, Tryd.results28, go_sem, z0, z1, z2, z3]) rfl ?_
                      rw [HWX.out, atomR_out H1.out H2.out HNB.out HN.out HRG.out]
                      exact ⟨rfl, put4 HS8.out HO8.out hne1 (Nat.le_refl _) _ _ _ _⟩
                    · have hr2 : ¬ v < -1099511627776 := by omega
                      go_wp2_with fail
                      refine (stop_any _ b s (wordA s k0) k0 cnt 2 HS7.out).mono ?_
                      rintro e w8 ⟨rfl, h8, ho8⟩
                      have HS8 := Lib.hid h8
                      have HO8 := Lib.hid (HO7.out.trans ho8)
                      have HON8 := Lib.hid (HON7.out.trans ho8)
                      clear h8 ho8
                      obtain ⟨⟨x0, x1, x2, x3, z0, z1, z2, z3⟩, zf⟩ := HR0.out.only HON8.out hne1
                      have e0 := zf 0
                      have e1 := zf 1
                      have e2 := zf 2
                      have e3 := zf 3
                      clear zf
                      clear r0 r1 r2 r3 g0 g1 g2 g3
                      go_wp2_with fail
                      refine bodyPost_ret (v := .agg #[.int .i64 0, .int .i64 0, .string ⟨#[]⟩, .slice none 0 0]) (by simp [results, Tryd.results28, go_sem, z0, z1, z2, z3]) rfl ?_
                      rw [HWX.out, atomR_out H1.out H2.out HNB.out HN.out HRG.out]
                      exact ⟨rfl, put4 HS8.out HO8.out hne1 (Nat.le_refl _) _ _ _ _⟩
                  · obtain ⟨hr1, hr2⟩ : -1099511627776 ≤ v ∧ v ≤ 1099511627776 := by omega
                    have HRG := Lib.hid hr
                    clear hr
                    obtain ⟨⟨x0, x1, x2, x3, z0, z1, z2, z3⟩, zf⟩ := HR0.out.only HON7.out hne1
                    have e0 := zf 0
                    have e1 := zf 1
                    have e2 := zf 2
                    have e3 := zf 3
                    clear zf
                    clear r0 r1 r2 r3 g0 g1 g2 g3
                    go_wp2_with fail
                    refine bodyPost_ret (v := .agg #[.int .i64 1, .int .i64 v, .string ⟨#[]⟩, .slice none 0 0]) (by simp [results, Tryd.results28, go_sem, z0, z1, z2, z3]) rfl ?_
                    rw [HWX.out, atomR_int H1.out H2.out HNB.out HN.out HRG.out]
                    exact ⟨rfl, put4 HS7.out HO7.out hne1 (Nat.le_refl _) _ _ _ _⟩
                · have HN := Lib.hid (show numB W.data.toList = none by unfold numB; rw [HV.out]; simp only; rw [if_neg hx])
                  have hi1 : (Lib.itoa v == W.toList) = false := by rw [ByteArray.toList_eq]; simpa using hx
                  have hi2 : (Lib.itoa v != W.toList) = true := by rw [bne, hi1]; rfl
                  clear hx
                  go_wp2_with fail
                  refine (stop_any _ b s (wordA s k0) k0 cnt 4 HS7.out).mono ?_
                  rintro e w8 ⟨rfl, h8, ho8⟩
                  have HS8 := Lib.hid h8
                  have HO8 := Lib.hid (HO7.out.trans ho8)
                  have HON8 := Lib.hid (HON7.out.trans ho8)
                  clear h8 ho8
                  obtain ⟨⟨x0, x1, x2, x3, z0, z1, z2, z3⟩, zf⟩ := HR0.out.only HON8.out hne1
                  have e0 := zf 0
                  have e1 := zf 1
                  have e2 := zf 2
                  have e3 := zf 3
                  clear zf
                  clear r0 r1 r2 r3 g0 g1 g2 g3
                  go_wp2_with fail
                  refine bodyPost_ret (v := .agg #[.int .i64 0, .int .i64 0, .string ⟨#[]⟩, .slice none 0 0]) (by simp [results, Tryd.results28, go_sem, z0, z1, z2, z3]) rfl ?_
                  rw [HWX.out, atomR_none H1.out H2.out HNB.out HN.out]
                  exact ⟨rfl, put4 HS8.out HO8.out hne1 (Nat.le_refl _) _ _ _ _⟩
              · have hno : ∀ v, Lib.atoiAll W.data.toList ≠ .ok v := fun v hv => hok ⟨v, hv⟩
                have HNO := Lib.hid hno
                have HN := Lib.hid (show numB W.data.toList = none by
                  unfold numB
                  cases hx : Lib.atoiAll W.data.toList with
                  | ok v => exact absurd hx (hno v)
                  | _ => rfl)
                clear hok hno
                go_wp2_with fail
                refine (atoi_bad W hWs HNO.out _ (HT.out _ (HOW.out.drew _)).2).mono ?_
                rintro e w6 ⟨v, N, rfl, hb6⟩
                have HS6 := Lib.hid ((HSTK.out.drew _).new hb6)
                have HO6 := Lib.hid ((HOW.out.drew _).trans (Only.of_below (b := b) hb6))
                have HON6 := Lib.hid ((HON.out.drew _).trans (Only.of_below (b := b) hb6))
                clear hb6
                go_wp2_with fail
                refine (stop_any _ b s (wordA s k0) k0 cnt 4 HS6.out).mono ?_
                rintro e w8 ⟨rfl, h8, ho8⟩
                have HS8 := Lib.hid h8
                have HO8 := Lib.hid (HO6.out.trans ho8)
                have HON8 := Lib.hid (HON6.out.trans ho8)
                clear h8 ho8
                obtain ⟨⟨x0, x1, x2, x3, z0, z1, z2, z3⟩, zf⟩ := HR0.out.only HON8.out hne1
                have e0 := zf 0
                have e1 := zf 1
                have e2 := zf 2
                have e3 := zf 3
                clear zf
                clear r0 r1 r2 r3 g0 g1 g2 g3
                go_wp2_with fail
                refine bodyPost_ret (v := .agg #[.int .i64 0, .int .i64 0, .string ⟨#[]⟩, .slice none 0 0]) (by simp [results, Tryd.results28, go_sem, z0, z1, z2, z3]) rfl ?_
                rw [HWX.out, atomR_none H1.out H2.out HNB.out HN.out]
                exact ⟨rfl, put4 HS8.out HO8.out hne1 (Nat.le_refl _) _ _ _ _⟩
            · go_wp2_with fail
              refine bodyPost_ret (v := .agg #[.int .i64 3, .int .i64 0, .string W, .slice none 0 0]) (by simp [results, Tryd.results28, go_sem, r0, r1, r2, r3]) rfl ?_
              rw [HWX.out, atomR_sym H1.out H2.out HNB.out]
              exact ⟨rfl, put4 (HSTK.out.drew _) (HOW.out.drew _) hne1 (Nat.le_refl _) _ _ _ _⟩
    · obtain rfl : s.size = k := by omega
      have HN := Lib.hid ((word_end s).symm.trans HEQ.out)
      have y5 : (0 : Int) ≤ (k0 : Int) := Int.natCast_nonneg _
      have y6 : (k0 : Int) ≤ (s.size : Int) := by omega
      have hdf : decide ((s.size : Int) < (s.size : Int)) = false := by simp
      go_wp2_with fail
      go_quiet (fail)
      clear hdf
      go_wp2_with fail
      go_quiet (fail)
      obtain ⟨W, hW⟩ : ∃ W, s.extract k0 s.size = W := ⟨_, rfl⟩
      have hWs : W.size ≤ 3000 := by rw [← hW, ByteArray.size_extract]; omega
      have HWX := Lib.hid (show s.extract k0 (wordA s k0) = W by rw [← HN.out]; exact hW)
      have hre := HR0.out.only HON.out hne1
      obtain ⟨⟨u0, u1, u2, u3, r0, r1, r2, r3⟩, hrf⟩ := hre
      have g0 := hrf 0
      have g1 := hrf 1
      have g2 := hrf 2
      have g3 := hrf 3
      have HOW := Lib.hid ((Only.of_below HB0.out).trans HON.out)
      have hgr : w.heap.size < wr.heap.size := World.block_lt_of_cell? wr _ r0
      have HSTK := Lib.hid (show St wr b s (wordA s k0) [.int .i64 cnt, .int .i64 0] by rw [← HN.out]; exact HST.out)
      rw [hW]
      clear hW hrf p0 p1 f1
      by_cases h1 : W = ⟨#[35, 116]⟩
      · subst h1
        go_wp2_with fail
        refine bodyPost_ret (v := .agg #[.int .i64 2, .int .i64 1, .string ⟨#[]⟩, .slice none 0 0]) (by simp [results, Tryd.results28, go_sem, r0, r1, r2, r3]) rfl ?_
        rw [HWX.out, atomR_t]
        exact ⟨rfl, put4 (HSTK.out.drew _) (HOW.out.drew _) hne1 (Nat.le_refl _) _ _ _ _⟩
      · have hb1 : (W.toList == [35, 116]) = false := neS h1
        by_cases h2 : W = ⟨#[35, 102]⟩
        · subst h2
          clear hb1
          go_wp2_with fail
          refine bodyPost_ret (v := .agg #[.int .i64 2, .int .i64 0, .string ⟨#[]⟩, .slice none 0 0]) (by simp [results, Tryd.results28, go_sem, r0, r1, r2, r3]) rfl ?_
          rw [HWX.out, atomR_f]
          exact ⟨rfl, put4 (HSTK.out.drew _) (HOW.out.drew _) hne1 (Nat.le_refl _) _ _ _ _⟩
        · have hb2 : (W.toList == [35, 102]) = false := neS h2
          obtain ⟨nb, hnb⟩ : ∃ nb, nameB W.data.toList = nb := ⟨_, rfl⟩
          have HNB := Lib.hid hnb
          have H1 := Lib.hid h1
          have H2 := Lib.hid h2
          clear h1 h2 hnb
          go_wp2_with fail
          refine (symbol_any W (by unfold maxLen; omega) _).mono ?_
          rintro e w5 ⟨rfl, rfl⟩
          rw [HNB.out]
          cases nb
          · by_cases hok : ∃ v, Lib.atoiAll W.data.toList = .ok v
            · obtain ⟨v, hv⟩ := hok
              obtain ⟨v0, v1⟩ := atoiAll_bd hv
              have HV := Lib.hid hv
              clear hv
              go_wp2_with fail
              refine (atoi_ok W hWs v HV.out _).mono ?_
              rintro e w6 ⟨rfl, hb6⟩
              have HS6 := Lib.hid ((HSTK.out.drew _).new hb6)
              have HO6 := Lib.hid ((HOW.out.drew _).trans (Only.of_below (b := b) hb6))
              have HON6 := Lib.hid ((HON.out.drew _).trans (Only.of_below (b := b) hb6))
              clear hb6
              go_wp2_with fail
              refine (itoa_any v v0 v1 _ (HT.out _ HO6.out).1).mono ?_
              rintro e w7 ⟨rfl, hb7⟩
              have HS7 := Lib.hid (HS6.out.new hb7)
              have HO7 := Lib.hid (HO6.out.trans (Only.of_below (b := b) hb7))
              have HON7 := Lib.hid (HON6.out.trans (Only.of_below (b := b) hb7))
              clear hb7
              by_cases hx : Lib.itoa v = W.data.toList
              · have HN := Lib.hid (show numB W.data.toList = some v by unfold numB; rw [HV.out]; simp only; rw [if_pos hx])
                have hi1 : (Lib.itoa v == W.toList) = true := by rw [ByteArray.toList_eq, hx]; simp
                have hi2 : (Lib.itoa v != W.toList) = false := by rw [bne, hi1]; rfl
                clear hx
                by_cases hr : v < -1099511627776 ∨ 1099511627776 < v
                · have HRG := Lib.hid hr
                  rcases hr with hr | hr
                  · have hr2 : ¬ 1099511627776 < v := by omega
                    go_wp2_with fail
                    refine (stop_any _ b s (wordA s k0) k0 cnt 2 HS7.out).mono ?_
                    rintro e w8 ⟨rfl, h8, ho8⟩
                    have HS8 := Lib.hid h8
                    have HO8 := Lib.hid (HO7.out.trans ho8)
                    have HON8 := Lib.hid (HON7.out.trans ho8)
                    clear h8 ho8
                    obtain ⟨⟨x0, x1, x2, x3, z0, z1, z2, z3⟩, zf⟩ := HR0.out.only HON8.out hne1
                    have e0 := zf 0
                    have e1 := zf 1
                    have e2 := zf 2
                    have e3 := zf 3
                    clear zf
                    clear r0 r1 r2 r3 g0 g1 g2 g3
                    go_wp2_with fail
                    refine bodyPost_ret (v := .agg #[.int .i64 0, .int .i64 0, .string ⟨#[]⟩, .slice none 0 0]) (by simp [results, Tryd.results28, go_sem, z0, z1, z2, z3]) rfl ?_
                    rw [HWX.out, atomR_out H1.out H2.out HNB.out HN.out HRG.out]
                    exact ⟨rfl, put4 HS8.out HO8.out hne1 (Nat.le_refl _) _ _ _ _⟩
                  · have hr2 : ¬ v < -1099511627776 := by omega
                    go_wp2_with fail
                    refine (stop_any _ b s (wordA s k0) k0 cnt 2 HS7.out).mono ?_
                    rintro e w8 ⟨rfl, h8, ho8⟩
                    have HS8 := Lib.hid h8
                    have HO8 := Lib.hid (HO7.out.trans ho8)
                    have HON8 := Lib.hid (HON7.out.trans ho8)
                    clear h8 ho8
                    obtain ⟨⟨x0, x1, x2, x3, z0, z1, z2, z3⟩, zf⟩ := HR0.out.only HON8.out hne1
                    have e0 := zf 0
                    have e1 := zf 1
                    have e2 := zf 2
                    have e3 := zf 3
                    clear zf
                    clear r0 r1 r2 r3 g0 g1 g2 g3
                    go_wp2_with fail
                    refine bodyPost_ret (v := .agg #[.int .i64 0, .int .i64 0, .string ⟨#[]⟩, .slice none 0 0]) (by simp [results, Tryd.results28, go_sem, z0, z1, z2, z3]) rfl ?_
                    rw [HWX.out, atomR_out H1.out H2.out HNB.out HN.out HRG.out]
                    exact ⟨rfl, put4 HS8.out HO8.out hne1 (Nat.le_refl _) _ _ _ _⟩
                · obtain ⟨hr1, hr2⟩ : -1099511627776 ≤ v ∧ v ≤ 1099511627776 := by omega
                  have HRG := Lib.hid hr
                  clear hr
                  obtain ⟨⟨x0, x1, x2, x3, z0, z1, z2, z3⟩, zf⟩ := HR0.out.only HON7.out hne1
                  have e0 := zf 0
                  have e1 := zf 1
                  have e2 := zf 2
                  have e3 := zf 3
                  clear zf
                  clear r0 r1 r2 r3 g0 g1 g2 g3
                  go_wp2_with fail
                  refine bodyPost_ret (v := .agg #[.int .i64 1, .int .i64 v, .string ⟨#[]⟩, .slice none 0 0]) (by simp [results, Tryd.results28, go_sem, z0, z1, z2, z3]) rfl ?_
                  rw [HWX.out, atomR_int H1.out H2.out HNB.out HN.out HRG.out]
                  exact ⟨rfl, put4 HS7.out HO7.out hne1 (Nat.le_refl _) _ _ _ _⟩
              · have HN := Lib.hid (show numB W.data.toList = none by unfold numB; rw [HV.out]; simp only; rw [if_neg hx])
                have hi1 : (Lib.itoa v == W.toList) = false := by rw [ByteArray.toList_eq]; simpa using hx
                have hi2 : (Lib.itoa v != W.toList) = true := by rw [bne, hi1]; rfl
                clear hx
                go_wp2_with fail
                refine (stop_any _ b s (wordA s k0) k0 cnt 4 HS7.out).mono ?_
                rintro e w8 ⟨rfl, h8, ho8⟩
                have HS8 := Lib.hid h8
                have HO8 := Lib.hid (HO7.out.trans ho8)
                have HON8 := Lib.hid (HON7.out.trans ho8)
                clear h8 ho8
                obtain ⟨⟨x0, x1, x2, x3, z0, z1, z2, z3⟩, zf⟩ := HR0.out.only HON8.out hne1
                have e0 := zf 0
                have e1 := zf 1
                have e2 := zf 2
                have e3 := zf 3
                clear zf
                clear r0 r1 r2 r3 g0 g1 g2 g3
                go_wp2_with fail
                refine bodyPost_ret (v := .agg #[.int .i64 0, .int .i64 0, .string ⟨#[]⟩, .slice none 0 0]) (by simp [results, Tryd.results28, go_sem, z0, z1, z2, z3]) rfl ?_
                rw [HWX.out, atomR_none H1.out H2.out HNB.out HN.out]
                exact ⟨rfl, put4 HS8.out HO8.out hne1 (Nat.le_refl _) _ _ _ _⟩
            · have hno : ∀ v, Lib.atoiAll W.data.toList ≠ .ok v := fun v hv => hok ⟨v, hv⟩
              have HNO := Lib.hid hno
              have HN := Lib.hid (show numB W.data.toList = none by
                unfold numB
                cases hx : Lib.atoiAll W.data.toList with
                | ok v => exact absurd hx (hno v)
                | _ => rfl)
              clear hok hno
              go_wp2_with fail
              refine (atoi_bad W hWs HNO.out _ (HT.out _ (HOW.out.drew _)).2).mono ?_
              rintro e w6 ⟨v, N, rfl, hb6⟩
              have HS6 := Lib.hid ((HSTK.out.drew _).new hb6)
              have HO6 := Lib.hid ((HOW.out.drew _).trans (Only.of_below (b := b) hb6))
              have HON6 := Lib.hid ((HON.out.drew _).trans (Only.of_below (b := b) hb6))
              clear hb6
              go_wp2_with fail
              refine (stop_any _ b s (wordA s k0) k0 cnt 4 HS6.out).mono ?_
              rintro e w8 ⟨rfl, h8, ho8⟩
              have HS8 := Lib.hid h8
              have HO8 := Lib.hid (HO6.out.trans ho8)
              have HON8 := Lib.hid (HON6.out.trans ho8)
              clear h8 ho8
              obtain ⟨⟨x0, x1, x2, x3, z0, z1, z2, z3⟩, zf⟩ := HR0.out.only HON8.out hne1
              have e0 := zf 0
              have e1 := zf 1
              have e2 := zf 2
              have e3 := zf 3
              clear zf
              clear r0 r1 r2 r3 g0 g1 g2 g3
              go_wp2_with fail
              refine bodyPost_ret (v := .agg #[.int .i64 0, .int .i64 0, .string ⟨#[]⟩, .slice none 0 0]) (by simp [results, Tryd.results28, go_sem, z0, z1, z2, z3]) rfl ?_
              rw [HWX.out, atomR_none H1.out H2.out HNB.out HN.out]
              exact ⟨rfl, put4 HS8.out HO8.out hne1 (Nat.le_refl _) _ _ _ _⟩
          · go_wp2_with fail
            refine bodyPost_ret (v := .agg #[.int .i64 3, .int .i64 0, .string W, .slice none 0 0]) (by simp [results, Tryd.results28, go_sem, r0, r1, r2, r3]) rfl ?_
            rw [HWX.out, atomR_sym H1.out H2.out HNB.out]
            exact ⟨rfl, put4 (HSTK.out.drew _) (HOW.out.drew _) hne1 (Nat.le_refl _) _ _ _ _⟩
end Go.Proofs.YtbkagjngckfonaaDoor
