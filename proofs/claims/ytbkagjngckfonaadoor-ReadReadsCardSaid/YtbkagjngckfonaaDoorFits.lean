/- Contract of grafteryref.fits64. -/
import Derived.Test.YtbkagjngckfonaaDoorNum
namespace Go.Proofs.YtbkagjngckfonaaDoor
open Go.RowKit Go.ChangeShapes Go.WideShapes Go.Deep
set_option linter.unusedVariables false

set_option maxHeartbeats 4000000 in
set_option maxRecDepth 20000 in
theorem fits_any (W : ByteArray) (hs : W.size ≤ 3000) (hpos : 0 < W.size) (w : World) : Calls Tryd.prog 33 #[.string W] w fun e w' => e = .returned (.bool (fitsB W.data.toList)) ∧ ∃ n, w' = w.drewN n := by
  have hpi : (0 : Int) < (W.size : Int) := by omega
  have hne := str_empty hpos
  obtain ⟨D, ng, hd, hD, hng⟩ : ∃ D ng, digsOf W.data.toList = D.data.toList ∧ ((ng = true ∧ W[0] = 45 ∧ W.extract 1 W.size = D) ∨ (ng = false ∧ W[0] ≠ 45 ∧ W = D)) ∧ negB W.data.toList = ng := by
    by_cases h45 : W[0] = 45
    · exact ⟨W.extract 1 W.size, true, digs_minus hpos h45 rfl, Or.inl ⟨rfl, h45, rfl⟩, by rw [str_cons hpos, h45]; rfl⟩
    · exact ⟨W, false, digs_plus hpos h45, Or.inr ⟨rfl, h45, rfl⟩, by rw [str_cons hpos]; simp [negB, h45]⟩
  obtain ⟨m, hm⟩ : ∃ m, (if ng then most19n else most19) = m := ⟨_, rfl⟩
  obtain ⟨lt, hlt⟩ : ∃ lt, Op.bytesLess D.toList m = lt := ⟨_, rfl⟩
  obtain ⟨eq, heq⟩ : ∃ eq, (D.toList == m) = eq := ⟨_, rfl⟩
  have HF := Lib.hid (show fitsB W.data.toList = (decide (D.size < 19) || (decide (D.size = 19) && (lt || eq))) by
    unfold fitsB fitB
    rw [hng, hm, hd, ← hlt, ← heq, ByteArray.toList_eq]
    simp)
  rcases hD with ⟨rfl, h45, hD⟩ | ⟨rfl, h45, hD⟩
  · rw [if_pos rfl] at hm
    subst hm
    have c45 : ((W[0].toNat : Int) == 45) = true := by rw [h45]; rfl
    have y1 : (1 : Int) ≤ (W.size : Int) := by omega
    have HDX := Lib.hid hD
    unfold most19n at hlt heq
    clear hd hD hng h45
    go_enter Tryd.func33, Tryd.ntmps33
    go_upto_region 6 with fail
    rw [HDX.out]
    rcases Nat.lt_trichotomy D.size 19 with h | h | h
    · have z1 : (D.size : Int) < 19 := by omega
      have HX := Lib.hid (show fitsB W.data.toList = true by rw [HF.out]; simp [h])
      clear h
      go_wp2_with fail
      go_ret
      exact ⟨ret_bool HX.out.symm, 0, rfl⟩
    · have z1 : ¬ (D.size : Int) < 19 := by omega
      have z2 : (D.size : Int) = 19 := by omega
      have HX := Lib.hid (show fitsB W.data.toList = (lt || eq) by rw [HF.out]; simp [h])
      clear h
      go_wp2_with fail
      go_ret
      exact ⟨ret_bool HX.out.symm, 0, rfl⟩
    · have z1 : ¬ (D.size : Int) < 19 := by omega
      have z2 : ((D.size : Int) == 19) = false := by simp; omega
      have HX := Lib.hid (show fitsB W.data.toList = false by rw [HF.out]; simp; omega)
      clear h
      go_wp2_with fail
      go_ret
      exact ⟨ret_bool HX.out.symm, 0, rfl⟩
  · rw [if_neg (by decide)] at hm
    subst hm
    subst hD
    have c45 : ((W[0].toNat : Int) == 45) = false := by
      cases hx : ((W[0].toNat : Int) == 45)
      · rfl
      · have hi : (W[0].toNat : Int) = 45 := by simpa using hx
        have hz : W[0].toNat = (45 : UInt8).toNat := by
          show W[0].toNat = 45
          omega
        exact absurd (UInt8.toNat_inj.1 hz) h45
    unfold most19 at hlt heq
    clear hd hng h45
    go_enter Tryd.func33, Tryd.ntmps33
    go_upto_region 6 with fail
    rcases Nat.lt_trichotomy W.size 19 with h | h | h
    · have z1 : (W.size : Int) < 19 := by omega
      have HX := Lib.hid (show fitsB W.data.toList = true by rw [HF.out]; simp [h])
      clear h
      go_wp2_with fail
      go_ret
      exact ⟨ret_bool HX.out.symm, 0, rfl⟩
    · have z1 : ¬ (W.size : Int) < 19 := by omega
      have z2 : (W.size : Int) = 19 := by omega
      have HX := Lib.hid (show fitsB W.data.toList = (lt || eq) by rw [HF.out]; simp [h])
      clear h
      go_wp2_with fail
      go_ret
      exact ⟨ret_bool HX.out.symm, 0, rfl⟩
    · have z1 : ¬ (W.size : Int) < 19 := by omega
      have z2 : ((W.size : Int) == 19) = false := by simp; omega
      have HX := Lib.hid (show fitsB W.data.toList = false by rw [HF.out]; simp; omega)
      clear h
      go_wp2_with fail
      go_ret
      exact ⟨ret_bool HX.out.symm, 0, rfl⟩
end Go.Proofs.YtbkagjngckfonaaDoor
