import Derived.Test.YtfhbdlobhjegcaaGreatDoorRc
import Derived.Test.YtfhbdlobhjegcaaGreatDoorGCheck
namespace Go.Proofs.YtfhbdlobhjegcaaGreatDoor
open Go.RowKit Go.ChangeShapes Go.WideShapes Go.Deep Go.ChangeAt
set_option linter.unusedVariables false
set_option maxRecDepth 20000
theorem set4_any {w w' : World} {O : Nat} {a0 a1 a2 a3 b0 b1 b2 b3 : Value} (h : (((w.setCell ⟨O, 0, none⟩ a0).setCell ⟨O, 1, none⟩ a1).setCell ⟨O, 2, none⟩ a2).setCell ⟨O, 3, none⟩ a3 = w') (h0 : w.cell? ⟨O, 0, none⟩ = some b0) (h1 : w.cell? ⟨O, 1, none⟩ = some b1) (h2 : w.cell? ⟨O, 2, none⟩ = some b2) (h3 : w.cell? ⟨O, 3, none⟩ = some b3) :
  (w'.cell? ⟨O, 0, none⟩ = some a0 /\ w'.cell? ⟨O, 1, none⟩ = some a1 /\ w'.cell? ⟨O, 2, none⟩ = some a2 /\ w'.cell? ⟨O, 3, none⟩ = some a3) /\ w.grownBy w' (some O) := by
 subst h
 exact ⟨⟨zg (zg (zg (zh h0) (by decide)) (by decide)) (by decide), zg (zg (zh (zg h1 (by decide))) (by decide)) (by decide), zg (zh (zg (zg h2 (by decide)) (by decide))) (by decide), zh (zg (zg (zg h3 (by decide)) (by decide)) (by decide))⟩,
  (((zd _ _ _ _).trans (zd _ _ _ _)).trans (zd _ _ _ _)).trans (zd _ _ _ _)⟩
def zFunc : Value := .agg #[.int .i64 0, .int .i64 0, .int .i64 0, .slice none 0 0]
def MovePost (w : World) (o : Nat) (x : Px) (e : Ending) (w' : World) : Prop :=
 Below w.heap.size w w' /\ if 6000 < (codeOf x).length then e = .returned (.tuple #[zFunc, .int .i64 1]) else ∃ A cap, e = .returned (.tuple #[.agg #[.int .i64 o, .int .i64 o, .int .i64 0, .slice A (codeOf x).length cap], .int .i64 0]) /\ InsAt w' A (codeOf x).length cap (codeOf x)
section
variable {H : Type} {enc : TypeId × Value -> H}
set_option maxHeartbeats 4000000 in
theorem move_ok {n : Nat} {w : World} {cs : List Value} {t : Tr n} (hx : ExAt enc w n cs t) (hm : CMaps w) {o : Nat} (ho : o <= 6) (hf : exprF n t [] o = 0) {p : Px} {q : Nat} (hin : PxIn w cs p q) (hp : PxW o p) (hc : countX p <= 16777216) :
  Calls Tryz.prog 4 #[.agg cs.toArray, .int .i64 o] w (MovePost w o p) := by
 obtain ⟨k, dk, dn, ds, dA, dl, dc, s, m, nA, nl, nc, aA, al, ac, rfl⟩ := hin.form
 obtain ⟨wb, hwb⟩ : ∃ wb, (w.alloc (.cells #[.int .i64 k, .int .i64 dk, .int .i64 dn, .string ds, .slice dA dl dc, .string s, .int .i64 m, .slice nA nl nc, .slice aA al ac] 28)).alloc (.cells #[.int .i64 0, .int .i64 0, .int .i64 0, .slice none 0 0] 32) = wb := ⟨_, rfl⟩
 have hb : Below w.heap.size w wb := by rw [<- hwb]; exact ((Below.refl _ _).alloc (Nat.le_refl _) _).alloc (by simp) _
 have hsz : wb.heap.size = w.heap.size + 2 := by rw [<- hwb]; simp
 have KZ := Lib.hid (show ∀ W, Below wb.heap.size wb W -> (W.cell? ⟨w.heap.size, 0, none⟩ = some (.int .i64 k) /\ W.cell? ⟨w.heap.size, 1, none⟩ = some (.int .i64 dk) /\ W.cell? ⟨w.heap.size, 2, none⟩ = some (.int .i64 dn) /\ W.cell? ⟨w.heap.size, 3, none⟩ = some (.string ds) /\ W.cell? ⟨w.heap.size, 4, none⟩ = some (.slice dA dl dc) /\ W.cell? ⟨w.heap.size, 5, none⟩ = some (.string s) /\ W.cell? ⟨w.heap.size, 6, none⟩ = some (.int .i64 m) /\ W.cell? ⟨w.heap.size, 7, none⟩ = some (.slice nA nl nc) /\ W.cell? ⟨w.heap.size, 8, none⟩ = some (.slice aA al ac)) ∧
   (W.cell? ⟨w.heap.size + 1, 0, none⟩ = some (.int .i64 0) /\ W.cell? ⟨w.heap.size + 1, 1, none⟩ = some (.int .i64 0) /\ W.cell? ⟨w.heap.size + 1, 2, none⟩ = some (.int .i64 0) /\ W.cell? ⟨w.heap.size + 1, 3, none⟩ = some (.slice none 0 0)) /\ ∀ j, W.frozen? ⟨w.heap.size + 1, j, none⟩ = false from fun W hW => by
  have h0 : w.heap.size < wb.heap.size := by omega
  have h1 : w.heap.size + 1 < wb.heap.size := by omega
  have a : ∀ j, W.cell? ⟨w.heap.size, j, none⟩ = (#[.int .i64 k, .int .i64 dk, .int .i64 dn, .string ds, .slice dA dl dc, .string s, .int .i64 m, .slice nA nl nc, .slice aA al ac] : Array Value)[j]? := fun j => (hW.cell (p := ⟨w.heap.size, j, none⟩) h0).trans (by rw [<- hwb]; exact cell_first _ _ _ _ _ j)
  have b : ∀ j, W.cell? ⟨w.heap.size + 1, j, none⟩ = (#[.int .i64 0, .int .i64 0, .int .i64 0, .slice none 0 0] : Array Value)[j]? := fun j => (hW.cell (p := ⟨w.heap.size + 1, j, none⟩) h1).trans (by rw [<- hwb]; exact cell_second _ _ _ _ _ j)
  exact ⟨⟨a 0, a 1, a 2, a 3, a 4, a 5, a 6, a 7, a 8⟩, ⟨b 0, b 1, b 2, b 3⟩, fun j => (hW.frozen (p := ⟨w.heap.size + 1, j, none⟩) h1).trans (by rw [<- hwb, show w.heap.size + 1 = (w.alloc (.cells #[.int .i64 k, .int .i64 dk, .int .i64 dn, .string ds, .slice dA dl dc, .string s, .int .i64 m, .slice nA nl nc, .slice aA al ac] 28)).heap.size by simp]; exact ze _ _ _ _)⟩)
 have hcheck := codeCheckMove_any (hx.below hb) (hm.below hb) o (by omega)
 rw [if_neg (by omega), hf] at hcheck
 have HCH := Lib.hid hcheck
 have hlen : (codeOf p).length <= 100663296 := by have := codeX_le p true 0; unfold codeOf; omega
 have KE := Lib.hid (show ∀ (W : World) (B M : Nat), Mk w W M o (.slice none 0 0) [] -> Calls Tryz.prog 13 #[.pointer (some ⟨B, 0, none⟩), .pointer (some ⟨M, 0, none⟩), .agg _, .bool true] W (MkPost W M o (.slice none 0 0) (codeOf p) (.tuple #[])) from fun W B M hM => expr_says (countX p) p (Nat.le_refl _) w W B M o (.slice none 0 0) [] _ q true hin hp hM (by have h := hlen; unfold codeOf at h; show 0 + _ <= _; simp only [List.length_nil] at *; omega))
 have HWB := Lib.hid hwb
 have HB := Lib.hid hb
 have HSZ := Lib.hid hsz
 have HLEN := Lib.hid hlen
 clear hx hm hf hin hp hc hwb hb hsz hcheck hlen
 go_enter Tryz.func4, Tryz.ntmps4
 go_upto_region 1 with fail
 rw [HWB.out]
 obtain ⟨⟨a0, a1, a2, a3, a4, a5, a6, a7, a8⟩, _, _⟩ := KZ.out wb (Below.refl _ _)
 go_wp2_with fail
 refine HCH.out.mono ?_
 rintro e w1 ⟨rfl, hb1⟩
 have HB1 := Lib.hid hb1
 have hs1 := hb1.size
 clear hb1 a0 a1 a2 a3 a4 a5 a6 a7 a8
 go_upto_region 6 with fail
 obtain ⟨w2, hw2⟩ : ∃ w2, (w1.alloc (.cells #[.int .i64 0, .slice none 0 0, .slice none 0 0, .int .i64 0, .bool false] 62)).alloc (.cells #[.int .i64 o, .int .i64 o, .int .i64 0, .slice none 0 0, .int .i64 0, .pointer none, .slice none 0 0, .slice none 0 0, .int .i64 0] 65) = w2 := ⟨_, rfl⟩
 have hb2 : Below w1.heap.size w1 w2 := by rw [<- hw2]; exact ((Below.refl _ _).alloc (Nat.le_refl _) _).alloc (by simp) _
 have hs2 : w2.heap.size = w1.heap.size + 2 := by rw [<- hw2]; simp
 have hM : MkAt w2 (w1.heap.size + 1) o (.slice none 0 0) [] := ⟨by omega, by rw [<- hw2]; exact cell_second _ _ _ _ _ 0, by rw [<- hw2]; exact cell_second _ _ _ _ _ 1, by rw [<- hw2]; exact cell_second _ _ _ _ _ 2, by rw [<- hw2]; exact cell_second _ _ _ _ _ 3,
  fun j => by rw [<- hw2, show w1.heap.size + 1 = (w1.alloc (.cells #[.int .i64 0, .slice none 0 0, .slice none 0 0, .int .i64 0, .bool false] 62)).heap.size by simp]; exact ze _ _ _ _, OwnAt.start _ _ _ _⟩
 rw [hw2]
 have hb12 : Below wb.heap.size wb w2 := HB1.out.trans (hb2.mono hs1)
 have hb02 : Below w.heap.size w w2 := HB.out.trans (hb12.mono HB.out.size)
 obtain ⟨⟨a0, a1, a2, a3, a4, a5, a6, a7, a8⟩, _, _⟩ := KZ.out w2 hb12
 have HK : Mk w w2 (w1.heap.size + 1) o (.slice none 0 0) [] := ⟨hM, hb02, by have := HB.out.size; omega⟩
 have HMK := Lib.hid HK
 have HB12 := Lib.hid hb12
 have HS2 := Lib.hid hs2
 clear hw2 hb2 hM hb12 hb02 HK hs2
 go_wp2_with fail
 refine (KE.out w2 w1.heap.size (w1.heap.size + 1) HMK.out).mono ?_
 rintro e w3 ⟨rfl, v3, hm3, hv3⟩
 have hbs : wb.heap.size <= w1.heap.size := hs1
 have hb3 : Below wb.heap.size wb w3 := HB12.out.trans (hv3.below (by have := HS2.out; omega) (by omega) (fun b e => by simp [Value.ownBlock] at e))
 obtain ⟨_, ⟨u0, u1, u2, u3⟩, uf⟩ := KZ.out w3 hb3
 obtain ⟨A, cap, rfl, hins, hA⟩ := hm3.own.ins
 have c0 := hm3.c0
 have c1 := hm3.c1
 have c2 := hm3.c2
 have c3 := hm3.c3
 have f0 := uf 0
 have f1 := uf 1
 have f2 := uf 2
 have f3 := uf 3
 obtain ⟨L, hL⟩ : ∃ L, (codeOf p).length = L := ⟨_, rfl⟩
 have hLl : L <= 100663296 := by rw [<- hL]; exact HLEN.out
 rw [hL] at c3 hins
 have HINS := Lib.hid hins
 have HLL := Lib.hid hL
 have HA := Lib.hid hA
 have HB3 := Lib.hid (HB.out.trans (hb3.mono HB.out.size))
 have hU : w.heap.size + 1 < w3.heap.size := by have := hb3.size; have := HSZ.out; omega
 clear hm3 hv3 hb3 uf hins hL hA a0 a1 a2 a3 a4 a5 a6 a7 a8
 by_cases h6 : (6000 : Int) < (L : Int)
 ·
  have S := Lib.hid (set4_any (a0 := .int .i64 0) (a1 := .int .i64 0) (a2 := .int .i64 0) (a3 := .slice none 0 0) rfl u0 u1 u2 u3)
  go_wp2_with fail
  obtain ⟨⟨s0, s1, s2, s3⟩, hg⟩ := S.out
  refine bodyPost_ret (v := .tuple #[.agg #[.int .i64 0, .int .i64 0, .int .i64 0, .slice none 0 0], .int .i64 1]) (by simp [results, Tryz.results4, go_sem, s0, s1, s2, s3]) rfl ?_
  refine ⟨zp HB3.out (Nat.le_succ _) hg, ?_⟩
  rw [HLL.out, if_pos (by omega)]
  rfl
 have S := Lib.hid (set4_any (a0 := .int .i64 o) (a1 := .int .i64 o) (a2 := .int .i64 0) (a3 := .slice A L cap) rfl u0 u1 u2 u3)
 go_wp2_with fail
 obtain ⟨⟨s0, s1, s2, s3⟩, hg⟩ := S.out
 refine bodyPost_ret (v := .tuple #[.agg #[.int .i64 o, .int .i64 o, .int .i64 0, .slice A L cap], .int .i64 0]) (by simp [results, Tryz.results4, go_sem, s0, s1, s2, s3]) rfl ?_
 refine ⟨zp HB3.out (Nat.le_succ _) hg, ?_⟩
 rw [HLL.out, if_neg (by omega)]
 refine ⟨A, cap, rfl, HINS.out.grown hg ?_⟩
 rintro b ⟨a, ha, _, rfl⟩ e
 have := HA.out a ha
 have := HB1.out.size
 have := HSZ.out
 have := Option.some.inj e
 omega
set_option maxHeartbeats 4000000 in
theorem move_bad {n : Nat} {w : World} {cs : List Value} {t : Tr n} (hx : ExAt enc w n cs t) (hm : CMaps w) (olds : Int) (ho : -9223372036854775808 <= olds /\ olds <= 9223372036854775807) {f : Int} (hf : (if olds < 0 \/ 6 < olds then 2 else exprF n t [] olds) = f) (hf0 : f ≠ 0) :
  Calls Tryz.prog 4 #[.agg cs.toArray, .int .i64 olds] w fun e w' => e = .returned (.tuple #[zFunc, .int .i64 f]) /\ Below w.heap.size w w' := by
 obtain ⟨k, dk, dn, ds, dA, dl, dc, s, m, nA, nl, nc, aA, al, ac, rfl⟩ := hx.cells
 obtain ⟨wb, hwb⟩ : ∃ wb, (w.alloc (.cells #[.int .i64 k, .int .i64 dk, .int .i64 dn, .string ds, .slice dA dl dc, .string s, .int .i64 m, .slice nA nl nc, .slice aA al ac] 28)).alloc (.cells #[.int .i64 0, .int .i64 0, .int .i64 0, .slice none 0 0] 32) = wb := ⟨_, rfl⟩
 have hb : Below w.heap.size w wb := by rw [<- hwb]; exact ((Below.refl _ _).alloc (Nat.le_refl _) _).alloc (by simp) _
 have hsz : wb.heap.size = w.heap.size + 2 := by rw [<- hwb]; simp
 have a : ∀ j, wb.cell? ⟨w.heap.size, j, none⟩ = (#[.int .i64 k, .int .i64 dk, .int .i64 dn, .string ds, .slice dA dl dc, .string s, .int .i64 m, .slice nA nl nc, .slice aA al ac] : Array Value)[j]? := fun j => by rw [<- hwb]; exact cell_first _ _ _ _ _ j
 have a0 := a 0
 have a1 := a 1
 have a2 := a 2
 have a3 := a 3
 have a4 := a 4
 have a5 := a 5
 have a6 := a 6
 have a7 := a 7
 have a8 := a 8
 simp only [List.getElem?_toArray, List.getElem?_cons_zero, List.getElem?_cons_succ] at a0 a1 a2 a3 a4 a5 a6 a7 a8
 have KZ := Lib.hid (show ∀ W, Below wb.heap.size wb W -> (W.cell? ⟨w.heap.size + 1, 0, none⟩ = some (.int .i64 0) /\ W.cell? ⟨w.heap.size + 1, 1, none⟩ = some (.int .i64 0) /\ W.cell? ⟨w.heap.size + 1, 2, none⟩ = some (.int .i64 0) /\ W.cell? ⟨w.heap.size + 1, 3, none⟩ = some (.slice none 0 0)) /\ ∀ j, W.frozen? ⟨w.heap.size + 1, j, none⟩ = false from fun W hW => by
  have h1 : w.heap.size + 1 < wb.heap.size := by omega
  have b : ∀ j, W.cell? ⟨w.heap.size + 1, j, none⟩ = (#[.int .i64 0, .int .i64 0, .int .i64 0, .slice none 0 0] : Array Value)[j]? := fun j => (hW.cell (p := ⟨w.heap.size + 1, j, none⟩) h1).trans (by rw [<- hwb]; exact cell_second _ _ _ _ _ j)
  exact ⟨⟨b 0, b 1, b 2, b 3⟩, fun j => (hW.frozen (p := ⟨w.heap.size + 1, j, none⟩) h1).trans (by rw [<- hwb, show w.heap.size + 1 = (w.alloc (.cells #[.int .i64 k, .int .i64 dk, .int .i64 dn, .string ds, .slice dA dl dc, .string s, .int .i64 m, .slice nA nl nc, .slice aA al ac] 28)).heap.size by simp]; exact ze _ _ _ _)⟩)
 have hcheck := codeCheckMove_any (hx.below hb) (hm.below hb) olds ho
 rw [hf] at hcheck
 have HCH := Lib.hid hcheck
 have HWB := Lib.hid hwb
 have HB := Lib.hid hb
 have HSZ := Lib.hid hsz
 have HF0 := Lib.hid hf0
 have hfb : (f == 0) = false := by simpa using hf0
 clear hx hm hf hwb hb hsz hcheck ho a hf0
 go_enter Tryz.func4, Tryz.ntmps4
 go_upto_region 1 with fail
 rw [HWB.out]
 go_wp2_with fail
 refine HCH.out.mono ?_
 rintro e w1 ⟨rfl, hb1⟩
 obtain ⟨⟨u0, u1, u2, u3⟩, uf⟩ := KZ.out w1 hb1
 have f0 := uf 0
 have f1 := uf 1
 have f2 := uf 2
 have f3 := uf 3
 have HB1 := Lib.hid (HB.out.trans (hb1.mono HB.out.size))
 have S := Lib.hid (set4_any (a0 := .int .i64 0) (a1 := .int .i64 0) (a2 := .int .i64 0) (a3 := .slice none 0 0) rfl u0 u1 u2 u3)
 clear hb1 uf a0 a1 a2 a3 a4 a5 a6 a7 a8
 go_wp2_with fail
 obtain ⟨⟨s0, s1, s2, s3⟩, hg⟩ := S.out
 refine bodyPost_ret (v := .tuple #[.agg #[.int .i64 0, .int .i64 0, .int .i64 0, .slice none 0 0], .int .i64 f]) (by simp [results, Tryz.results4, go_sem, s0, s1, s2, s3]) rfl ?_
 exact ⟨rfl, zp HB1.out (Nat.le_succ _) hg⟩
end
end Go.Proofs.YtfhbdlobhjegcaaGreatDoor
