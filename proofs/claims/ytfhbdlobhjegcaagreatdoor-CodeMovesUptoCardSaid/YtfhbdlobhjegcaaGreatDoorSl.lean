import Derived.Test.YtfhbdlobhjegcaaGreatDoorGSjk
import Derived.Test.YtfhbdlobhjegcaaGreatDoorXfAny3
namespace Go.Proofs.YtfhbdlobhjegcaaGreatDoor
open Go.RowKit Go.ChangeShapes Go.WideShapes Go.Deep Go.ChangeAt
set_option linter.unusedVariables false
set_option maxRecDepth 20000
theorem Row9.below {w w' : World} {A : Option Addr} {cs : List (List Value)} (h : Row9 w A cs) (hb : Below w.heap.size w w') : Row9 w' A cs := fun h0 => by
 obtain ⟨b, o, hA, hl, hr⟩ := h h0
 exact ⟨b, o, hA, Nat.lt_of_lt_of_le hl hb.size, fun i hi j hj => (hb.cell (p := ⟨b, _, none⟩) hl).trans (hr i hi j hj)⟩
theorem DtIn.new {w w' : World} {c : List Value} {t : Dt} (h : DtIn w 0 w.heap.size c t) (hb : Below w.heap.size w w') : DtIn w' 0 w'.heap.size c t := h.mono (zr hb) hb.size (Nat.le_refl _) hb.size
theorem PxIn.later {W W' : World} {c : List Value} {x : Px} {q : Nat} (h : PxIn W c x q) (hb : Below W.heap.size W W') : PxIn W' c x q := by
 induction h with
 | const dk dn ds dA dl dc d hd s n nA nl nc aA ac h2 => exact .const dk dn ds dA dl dc d (hd.new hb) s n nA nl nc aA ac h2
 | was dk dn ds dA dl dc d hd s n i hi nA nl nc aA ac h2 => exact .was dk dn ds dA dl dc d (hd.new hb) s n i hi nA nl nc aA ac h2
 | ite dk dn ds dA dl dc d hd s n nA nl nc aA ac h1 h2 c0 c1 c2 row x0 x1 x2 k0 k1 k2 e0 e1 e2 i0 i1 i2 => exact .ite dk dn ds dA dl dc d (hd.new hb) s n nA nl nc aA ac h1 h2 c0 c1 c2 (row.below hb) x0 x1 x2 k0 k1 k2 i0 i1 i2
 | prim dk dn ds dA dl dc d hd s n nA nl nc aA ac l h1 h2 cs ks hc hk h0 row each ih => exact .prim dk dn ds dA dl dc d (hd.new hb) s n nA nl nc aA ac l h1 h2 cs ks hc hk h0 (row.below hb) ih
def numW (n : Int) : Wd := ⟨1, n, ⟨#[]⟩⟩
theorem path_of {x : Px} {ol : List Int} (hx : PxW ol.length x) : (∀ v, evalX ol x = .ok v -> ∃ y hp, Path (codeOf x) (ol.map numW) ⟨0, [], []⟩ (.ok (y, hp)) /\ HV hp 0 hp.length y v) /\ ∀ e, evalX ol x = .error e -> Path (codeOf x) (ol.map numW) ⟨0, [], []⟩ (.error e) := by
 have h := runX (C := codeOf x) (L := ol.map numW) (olds := ol) (o := ol.length) (fun i hi => by
  rw [List.getElem?_map, List.getElem?_eq_getElem hi, List.getD_eq_getElem?_getD, List.getElem?_eq_getElem hi]
  rfl) x hx.k true 0 [] [] (fun i hi => by rw [Nat.zero_add]; rfl)
 refine ⟨fun v hv => ?_, fun e he => ?_⟩
 ·
  rw [hv] at h
  simp only [if_true] at h
  obtain ⟨r, hr, y, hp, rfl, hE, hV⟩ := h
  exact ⟨y, hp, hr, hV⟩
 rw [he] at h
 obtain ⟨r, hr, rfl⟩ := h
 exact hr
section
variable {H : Type} {enc : TypeId × Value -> H}
def LawSays (w : World) (cs : List Value) (A : Option Addr) (N cap : Nat) : Prop := Calls Tryz.prog 3 #[.agg cs.toArray, .slice A N cap] w fun e w' => e = .returned (.bool true) /\ Below w.heap.size w w'
set_option maxHeartbeats 4000000 in
theorem law_bad {n : Nat} {w : World} {cs : List Value} {t : Tr n} (hx : ExAt enc w n cs t) (hm : CMaps w) {A : Option Addr} {N cap : Nat} (hle : N <= cap) (hcap : cap <= 9223372036854775807) {f : Int} (hf : (if (N : Int) < 0 \/ 6 < (N : Int) then 2 else exprF n t [] N) = f) (hf0 : f ≠ 0) : LawSays w cs A N cap := by
 obtain ⟨k, dk, dn, ds, dA, dl, dc, s, m, nA, nl, nc, aA, al, ac, rfl⟩ := hx.cells
 obtain ⟨wb, hwb⟩ : ∃ wb, w.alloc (.cells #[.int .i64 k, .int .i64 dk, .int .i64 dn, .string ds, .slice dA dl dc, .string s, .int .i64 m, .slice nA nl nc, .slice aA al ac] 28) = wb := ⟨_, rfl⟩
 have hb : Below w.heap.size w wb := by rw [<- hwb]; exact (Below.refl _ _).alloc (Nat.le_refl _) _
 have hbl : w.heap.size < wb.heap.size := by rw [<- hwb]; simp
 have KZ := Lib.hid (show ∀ W, Below wb.heap.size wb W -> (W.cell? ⟨w.heap.size, 0, none⟩ = some (.int .i64 k) /\ W.cell? ⟨w.heap.size, 1, none⟩ = some (.int .i64 dk) /\ W.cell? ⟨w.heap.size, 2, none⟩ = some (.int .i64 dn) /\ W.cell? ⟨w.heap.size, 3, none⟩ = some (.string ds) /\ W.cell? ⟨w.heap.size, 4, none⟩ = some (.slice dA dl dc) /\ W.cell? ⟨w.heap.size, 5, none⟩ = some (.string s) /\ W.cell? ⟨w.heap.size, 6, none⟩ = some (.int .i64 m) /\ W.cell? ⟨w.heap.size, 7, none⟩ = some (.slice nA nl nc) /\ W.cell? ⟨w.heap.size, 8, none⟩ = some (.slice aA al ac)) from fun W hW => by
  have a : ∀ j, W.cell? ⟨w.heap.size, j, none⟩ = (#[.int .i64 k, .int .i64 dk, .int .i64 dn, .string ds, .slice dA dl dc, .string s, .int .i64 m, .slice nA nl nc, .slice aA al ac] : Array Value)[j]? := fun j => (hW.cell (p := ⟨w.heap.size, j, none⟩) hbl).trans (by rw [<- hwb]; exact za _ _ _ j)
  exact ⟨a 0, a 1, a 2, a 3, a 4, a 5, a 6, a 7, a 8⟩)
 have KM := Lib.hid (move_bad (hx.below hb) (hm.below hb) (N : Int) (by omega) hf hf0)
 have KF := Lib.hid (fun (W : World) (hW : Below w.heap.size w W) => by have h := moveFault_any (hx.below hW) (N : Int); rw [hf] at h; exact h)
 have HWB := Lib.hid hwb
 have HB := Lib.hid hb
 have HF0 := Lib.hid hf0
 have hfb : (f == 0) = false := by simpa using hf0
 have hn63 : N <= 9223372036854775807 := by omega
 obtain ⟨a0, a1, a2, a3, a4, a5, a6, a7, a8⟩ := KZ.out wb (Below.refl _ _)
 clear hx hm hf hf0 hwb hb
 unfold LawSays
 go_enter Tryz.func3, Tryz.ntmps3
 go_upto_region 1 with fail
 rw [HWB.out]
 go_wp2_with fail
 refine KM.out.mono ?_
 rintro e w1 ⟨rfl, hb1⟩
 simp only [zFunc]
 obtain ⟨w2, hw2⟩ : ∃ w2, w1.alloc (.cells #[.int .i64 0, .int .i64 0, .int .i64 0, .slice none 0 0] 32) = w2 := ⟨_, rfl⟩
 have hb12 : Below w1.heap.size w1 w2 := by rw [<- hw2]; exact (Below.refl _ _).alloc (Nat.le_refl _) _
 have hb2 := hb1.trans (hb12.mono hb1.size)
 have c3 : w2.cell? ⟨w1.heap.size, 3, none⟩ = some (.slice none 0 0) := by rw [<- hw2]; exact za _ _ _ 3
 have hl2 : w1.heap.size < w2.heap.size := by rw [<- hw2]; simp
 have HW2 := Lib.hid hw2
 have HB2 := Lib.hid hb2
 clear hb1 hb12 hb2 hw2 a0 a1 a2 a3 a4 a5 a6 a7 a8
 obtain ⟨a0, a1, a2, a3, a4, a5, a6, a7, a8⟩ := KZ.out w2 HB2.out
 go_upto_region 3 with fail
 rw [HW2.out]
 go_wp2_with fail
 refine (KF.out w2 (HB.out.trans (HB2.out.mono HB.out.size))).mono ?_
 rintro e w3 ⟨rfl, hb3⟩
 have c3' := (hb3.cell (p := ⟨w1.heap.size, 3, none⟩) hl2).trans c3
 have HB3 := Lib.hid (HB2.out.trans (hb3.mono HB2.out.size))
 clear hb3 a0 a1 a2 a3 a4 a5 a6 a7 a8 c3
 go_wp2_with fail
 go_ret
 exact ⟨rfl, HB.out.trans (HB3.out.mono HB.out.size)⟩
set_option maxHeartbeats 4000000 in
theorem law_size {n : Nat} {w : World} {cs : List Value} {t : Tr n} (hx : ExAt enc w n cs t) (hm : CMaps w) {A : Option Addr} {N cap : Nat} (hle : N <= cap) (hcap : cap <= 9223372036854775807) (hN6 : N <= 6) (hf : exprF n t [] N = 0) {p : Px} {q : Nat} (hin : PxIn w cs p q) (hp : PxW N p) (hcq : countX p <= q) (hq : q <= 16777216) (h6 : 6000 < (codeOf p).length) : LawSays w cs A N cap := by
 obtain ⟨k, dk, dn, ds, dA, dl, dc, s, m, nA, nl, nc, aA, al, ac, rfl⟩ := hx.cells
 obtain ⟨wb, hwb⟩ : ∃ wb, w.alloc (.cells #[.int .i64 k, .int .i64 dk, .int .i64 dn, .string ds, .slice dA dl dc, .string s, .int .i64 m, .slice nA nl nc, .slice aA al ac] 28) = wb := ⟨_, rfl⟩
 have hb : Below w.heap.size w wb := by rw [<- hwb]; exact (Below.refl _ _).alloc (Nat.le_refl _) _
 have hbl : w.heap.size < wb.heap.size := by rw [<- hwb]; simp
 have KZ := Lib.hid (show ∀ W, Below wb.heap.size wb W -> (W.cell? ⟨w.heap.size, 0, none⟩ = some (.int .i64 k) /\ W.cell? ⟨w.heap.size, 1, none⟩ = some (.int .i64 dk) /\ W.cell? ⟨w.heap.size, 2, none⟩ = some (.int .i64 dn) /\ W.cell? ⟨w.heap.size, 3, none⟩ = some (.string ds) /\ W.cell? ⟨w.heap.size, 4, none⟩ = some (.slice dA dl dc) /\ W.cell? ⟨w.heap.size, 5, none⟩ = some (.string s) /\ W.cell? ⟨w.heap.size, 6, none⟩ = some (.int .i64 m) /\ W.cell? ⟨w.heap.size, 7, none⟩ = some (.slice nA nl nc) /\ W.cell? ⟨w.heap.size, 8, none⟩ = some (.slice aA al ac)) from fun W hW => by
  have a : ∀ j, W.cell? ⟨w.heap.size, j, none⟩ = (#[.int .i64 k, .int .i64 dk, .int .i64 dn, .string ds, .slice dA dl dc, .string s, .int .i64 m, .slice nA nl nc, .slice aA al ac] : Array Value)[j]? := fun j => (hW.cell (p := ⟨w.heap.size, j, none⟩) hbl).trans (by rw [<- hwb]; exact za _ _ _ j)
  exact ⟨a 0, a 1, a 2, a 3, a 4, a 5, a 6, a 7, a 8⟩)
 have hf1 : (if (N : Int) < 0 \/ 6 < (N : Int) then 2 else exprF n t [] N) = 0 := by rw [if_neg (by omega)]; exact hf
 have KF := Lib.hid (fun (W : World) (hW : Below w.heap.size w W) => by have h := moveFault_any (hx.below hW) (N : Int); rw [hf1] at h; exact h)
 have hmv := move_ok (hx.below hb) (hm.below hb) hN6 hf (hin.later hb) hp (by omega)
 have KM := Lib.hid (hmv.mono (fun e w' h => by unfold MovePost at h; rw [if_pos h6] at h; exact h))
 have hq40 : (40 : Int) < (q : Int) := by have := codeX_le p true 0; unfold codeOf at h6; omega
 have KX := Lib.hid (fun (W : World) (hW : Below w.heap.size w W) => exprs_any q w W _ p q (Nat.le_refl _) (by omega) hin hW)
 clear hin hp hcq hq h6
 have HWB := Lib.hid hwb
 have HB := Lib.hid hb
 have hn63 : N <= 9223372036854775807 := by omega
 obtain ⟨a0, a1, a2, a3, a4, a5, a6, a7, a8⟩ := KZ.out wb (Below.refl _ _)
 clear hx hm hf hf1 hwb hb hmv
 unfold LawSays
 go_enter Tryz.func3, Tryz.ntmps3
 go_upto_region 1 with fail
 rw [HWB.out]
 go_wp2_with fail
 refine KM.out.mono ?_
 rintro e w1 ⟨hb1, rfl⟩
 simp only [zFunc]
 obtain ⟨w2, hw2⟩ : ∃ w2, w1.alloc (.cells #[.int .i64 0, .int .i64 0, .int .i64 0, .slice none 0 0] 32) = w2 := ⟨_, rfl⟩
 have hb12 : Below w1.heap.size w1 w2 := by rw [<- hw2]; exact (Below.refl _ _).alloc (Nat.le_refl _) _
 have hb2 := hb1.trans (hb12.mono hb1.size)
 have hl2 : w1.heap.size < w2.heap.size := by rw [<- hw2]; simp
 have HW2 := Lib.hid hw2
 have HB12 := Lib.hid hb12
 have HB2 := Lib.hid hb2
 clear hb1 hb12 hb2 hw2 a0 a1 a2 a3 a4 a5 a6 a7 a8
 obtain ⟨a0, a1, a2, a3, a4, a5, a6, a7, a8⟩ := KZ.out w2 HB2.out
 go_upto_region 3 with fail
 rw [HW2.out]
 go_wp2_with fail
 refine (KF.out w2 (HB.out.trans (HB2.out.mono HB.out.size))).mono ?_
 rintro e w3 ⟨rfl, hb3⟩
 have HB3 := Lib.hid (HB2.out.trans (hb3.mono HB2.out.size))
 clear hb3 a0 a1 a2 a3 a4 a5 a6 a7 a8
 obtain ⟨a0, a1, a2, a3, a4, a5, a6, a7, a8⟩ := KZ.out w3 HB3.out
 go_wp2_with fail
 refine (KX.out w3 (HB.out.trans (HB3.out.mono HB.out.size))).mono ?_
 rintro e w4 ⟨rfl, hb4⟩
 have HB4 := Lib.hid (HB3.out.trans (hb4.mono HB3.out.size))
 clear hb4 a0 a1 a2 a3 a4 a5 a6 a7 a8
 go_wp2_with fail
 go_ret
 exact ⟨by simp, HB.out.trans (HB4.out.mono HB.out.size)⟩
theorem codeOf_nil : codeOf nilX = [tickI, constI nilW, retI] := by unfold codeOf nilX; simp [codeX, codeD, codeDs, tailI]
theorem fns_new {w4 w5 : World} {N L cM : Nat} {A2 : Option Addr} {p : Px} (hL : (codeOf p).length = L) (hi : InsAt w4 A2 L cM (codeOf p)) (h5 : (w4.alloc (.cells #[.int .i64 1, .int .i64 0, .int .i64 0, .string ⟨#[]⟩, .string ⟨#[]⟩, .int .i64 0, .int .i64 0, .string ⟨#[]⟩, .int .i64 2, .int .i64 0, .int .i64 0, .string ⟨#[]⟩, .string ⟨#[]⟩, .int .i64 3, .int .i64 0, .string ⟨#[]⟩, .int .i64 14, .int .i64 0, .int .i64 0, .string ⟨#[]⟩, .string ⟨#[]⟩, .int .i64 0, .int .i64 0, .string ⟨#[]⟩] 51)).alloc (.cells #[.int .i64 N, .int .i64 N, .int .i64 0, .slice A2 L cM, .int .i64 0, .int .i64 0, .int .i64 0, .slice (some ⟨w4.heap.size, 0, none⟩) 3 3] 32) = w5) :
  FnsAt w5 (some ⟨w4.heap.size + 1, 0, none⟩) 2 N p /\ Below w4.heap.size w4 w5 := by
 subst h5
 have hb := ((Below.refl w4.heap.size w4).alloc (Nat.le_refl _) (.cells #[.int .i64 1, .int .i64 0, .int .i64 0, .string ⟨#[]⟩, .string ⟨#[]⟩, .int .i64 0, .int .i64 0, .string ⟨#[]⟩, .int .i64 2, .int .i64 0, .int .i64 0, .string ⟨#[]⟩, .string ⟨#[]⟩, .int .i64 3, .int .i64 0, .string ⟨#[]⟩, .int .i64 14, .int .i64 0, .int .i64 0, .string ⟨#[]⟩, .string ⟨#[]⟩, .int .i64 0, .int .i64 0, .string ⟨#[]⟩] 51)).alloc (by simp) (.cells #[.int .i64 N, .int .i64 N, .int .i64 0, .slice A2 L cM, .int .i64 0, .int .i64 0, .int .i64 0, .slice (some ⟨w4.heap.size, 0, none⟩) 3 3] 32)
 refine ⟨⟨Nat.le_refl _, by unfold maxLen; omega, _, 0, A2, L, cM, some ⟨w4.heap.size, 0, none⟩, 3, 3, rfl, by simp, ⟨cell_second _ _ _ _ _ 0, cell_second _ _ _ _ _ 1, cell_second _ _ _ _ _ 2, cell_second _ _ _ _ _ 3⟩, ⟨cell_second _ _ _ _ _ 4, cell_second _ _ _ _ _ 5, cell_second _ _ _ _ _ 6, cell_second _ _ _ _ _ 7⟩, hi.below hb, ?_⟩, hb⟩
 rw [codeOf_nil]
 refine ⟨rfl, Nat.le_refl _, by unfold maxLen; omega, fun _ => ⟨_, 0, rfl, by simp; omega, fun i hi' j hj => ?_⟩⟩
 match i, hi' with
 | 0, _ => match j, hj with
  | 0, _ => exact cell_first _ _ _ _ _ 0
  | 1, _ => exact cell_first _ _ _ _ _ 1
  | 2, _ => exact cell_first _ _ _ _ _ 2
  | 3, _ => exact cell_first _ _ _ _ _ 3
  | 4, _ => exact cell_first _ _ _ _ _ 4
  | 5, _ => exact cell_first _ _ _ _ _ 5
  | 6, _ => exact cell_first _ _ _ _ _ 6
  | 7, _ => exact cell_first _ _ _ _ _ 7
 | 1, _ => match j, hj with
  | 0, _ => exact cell_first _ _ _ _ _ 8
  | 1, _ => exact cell_first _ _ _ _ _ 9
  | 2, _ => exact cell_first _ _ _ _ _ 10
  | 3, _ => exact cell_first _ _ _ _ _ 11
  | 4, _ => exact cell_first _ _ _ _ _ 12
  | 5, _ => exact cell_first _ _ _ _ _ 13
  | 6, _ => exact cell_first _ _ _ _ _ 14
  | 7, _ => exact cell_first _ _ _ _ _ 15
 | 2, _ => match j, hj with
  | 0, _ => exact cell_first _ _ _ _ _ 16
  | 1, _ => exact cell_first _ _ _ _ _ 17
  | 2, _ => exact cell_first _ _ _ _ _ 18
  | 3, _ => exact cell_first _ _ _ _ _ 19
  | 4, _ => exact cell_first _ _ _ _ _ 20
  | 5, _ => exact cell_first _ _ _ _ _ 21
  | 6, _ => exact cell_first _ _ _ _ _ 22
  | 7, _ => exact cell_first _ _ _ _ _ 23
set_option maxHeartbeats 8000000 in
theorem law_ok {n : Nat} {w : World} {cs : List Value} {t : Tr n} (hx : ExAt enc w n cs t) (hm : CMaps w) {A : Option Addr} {N cap : Nat} (hle : N <= cap) (hcap : cap <= 9223372036854775807) (hN6 : N <= 6) (hf : exprF n t [] N = 0) {p : Px} {q : Nat} (hin : PxIn w cs p q) (hp : PxW N p) (hcq : countX p <= q) (hq : q <= 16777216) {ns : List Int} (hA : NsAt w A N cap ns) (h6 : ¬ 6000 < (codeOf p).length) : LawSays w cs A N cap := by
 obtain ⟨k, dk, dn, ds, dA, dl, dc, s, m, nA, nl, nc, aA, al, ac, rfl⟩ := hx.cells
 obtain ⟨wb, hwb⟩ : ∃ wb, w.alloc (.cells #[.int .i64 k, .int .i64 dk, .int .i64 dn, .string ds, .slice dA dl dc, .string s, .int .i64 m, .slice nA nl nc, .slice aA al ac] 28) = wb := ⟨_, rfl⟩
 have hb : Below w.heap.size w wb := by rw [<- hwb]; exact (Below.refl _ _).alloc (Nat.le_refl _) _
 have hbl : w.heap.size < wb.heap.size := by rw [<- hwb]; simp
 have KZ := Lib.hid (show ∀ W, Below wb.heap.size wb W -> (W.cell? ⟨w.heap.size, 0, none⟩ = some (.int .i64 k) /\ W.cell? ⟨w.heap.size, 1, none⟩ = some (.int .i64 dk) /\ W.cell? ⟨w.heap.size, 2, none⟩ = some (.int .i64 dn) /\ W.cell? ⟨w.heap.size, 3, none⟩ = some (.string ds) /\ W.cell? ⟨w.heap.size, 4, none⟩ = some (.slice dA dl dc) /\ W.cell? ⟨w.heap.size, 5, none⟩ = some (.string s) /\ W.cell? ⟨w.heap.size, 6, none⟩ = some (.int .i64 m) /\ W.cell? ⟨w.heap.size, 7, none⟩ = some (.slice nA nl nc) /\ W.cell? ⟨w.heap.size, 8, none⟩ = some (.slice aA al ac)) from fun W hW => by
  have a : ∀ j, W.cell? ⟨w.heap.size, j, none⟩ = (#[.int .i64 k, .int .i64 dk, .int .i64 dn, .string ds, .slice dA dl dc, .string s, .int .i64 m, .slice nA nl nc, .slice aA al ac] : Array Value)[j]? := fun j => (hW.cell (p := ⟨w.heap.size, j, none⟩) hbl).trans (by rw [<- hwb]; exact za _ _ _ j)
  exact ⟨a 0, a 1, a 2, a 3, a 4, a 5, a 6, a 7, a 8⟩)
 have hf1 : (if (N : Int) < 0 \/ 6 < (N : Int) then 2 else exprF n t [] N) = 0 := by rw [if_neg (by omega)]; exact hf
 have KF := Lib.hid (fun (W : World) (hW : Below w.heap.size w W) => by have h := moveFault_any (hx.below hW) (N : Int); rw [hf1] at h; exact h)
 have hmv := move_ok (hx.below hb) (hm.below hb) hN6 hf (hin.later hb) hp (by omega)
 have KM := Lib.hid (hmv.mono (fun e w' h => by unfold MovePost at h; rw [if_neg h6] at h; exact h))
 have KN := Lib.hid (fun (W : World) (hW : Below w.heap.size w W) => nums_any (hA.below hW) (by omega))
 obtain ⟨L, hL⟩ : ∃ L, (codeOf p).length = L := ⟨_, rfl⟩
 rw [hL] at KM
 have HIN := Lib.hid hin
 have HP := Lib.hid hp
 have HL := Lib.hid hL
 have HNS := Lib.hid hA.size
 have HCQ := Lib.hid (And.intro hcq hq)
 have HL6 := Lib.hid (show L <= 6000 by omega)
 clear hin hp hcq hq h6 hA hL
 have HWB := Lib.hid hwb
 have HB := Lib.hid hb
 have hn63 : N <= 9223372036854775807 := by omega
 obtain ⟨a0, a1, a2, a3, a4, a5, a6, a7, a8⟩ := KZ.out wb (Below.refl _ _)
 clear hx hm hf hf1 hwb hb hmv
 unfold LawSays
 go_enter Tryz.func3, Tryz.ntmps3
 go_upto_region 1 with fail
 rw [HWB.out]
 go_wp2_with fail
 refine KM.out.mono ?_
 rintro e w1 ⟨hb1, A2, cM, rfl, hins⟩
 have HINS := Lib.hid hins
 clear hins
 obtain ⟨w2, hw2⟩ : ∃ w2, w1.alloc (.cells #[.int .i64 N, .int .i64 N, .int .i64 0, .slice A2 L cM] 32) = w2 := ⟨_, rfl⟩
 have hb12 : Below w1.heap.size w1 w2 := by rw [<- hw2]; exact (Below.refl _ _).alloc (Nat.le_refl _) _
 have hb2 := hb1.trans (hb12.mono hb1.size)
 have c0 : w2.cell? ⟨w1.heap.size, 0, none⟩ = some (.int .i64 N) := by rw [<- hw2]; exact za _ _ _ 0
 have c1 : w2.cell? ⟨w1.heap.size, 1, none⟩ = some (.int .i64 N) := by rw [<- hw2]; exact za _ _ _ 1
 have c2 : w2.cell? ⟨w1.heap.size, 2, none⟩ = some (.int .i64 0) := by rw [<- hw2]; exact za _ _ _ 2
 have c3 : w2.cell? ⟨w1.heap.size, 3, none⟩ = some (.slice A2 L cM) := by rw [<- hw2]; exact za _ _ _ 3
 have hl2 : w1.heap.size < w2.heap.size := by rw [<- hw2]; simp
 have HW2 := Lib.hid hw2
 have HB12 := Lib.hid hb12
 have HB2 := Lib.hid hb2
 clear hb1 hb12 hb2 hw2 a0 a1 a2 a3 a4 a5 a6 a7 a8
 obtain ⟨a0, a1, a2, a3, a4, a5, a6, a7, a8⟩ := KZ.out w2 HB2.out
 go_upto_region 3 with fail
 rw [HW2.out]
 go_wp2_with fail
 refine (KF.out w2 (HB.out.trans (HB2.out.mono HB.out.size))).mono ?_
 rintro e w3 ⟨rfl, hb3⟩
 have c0 := (hb3.cell (p := ⟨w1.heap.size, 0, none⟩) hl2).trans c0
 have c1 := (hb3.cell (p := ⟨w1.heap.size, 1, none⟩) hl2).trans c1
 have c2 := (hb3.cell (p := ⟨w1.heap.size, 2, none⟩) hl2).trans c2
 have c3 := (hb3.cell (p := ⟨w1.heap.size, 3, none⟩) hl2).trans c3
 have HB23 := Lib.hid hb3
 have HB3 := Lib.hid (HB2.out.trans (hb3.mono HB2.out.size))
 have hl3 : w1.heap.size < w3.heap.size := Nat.lt_of_lt_of_le hl2 hb3.size
 clear hb3 a0 a1 a2 a3 a4 a5 a6 a7 a8
 go_wp2_with fail
 refine (KN.out w3 (HB.out.trans (HB3.out.mono HB.out.size))).mono ?_
 rintro e w4 ⟨AN, rfl, hns, hb4⟩
 have c0 := (hb4.cell (p := ⟨w1.heap.size, 0, none⟩) hl3).trans c0
 have c1 := (hb4.cell (p := ⟨w1.heap.size, 1, none⟩) hl3).trans c1
 have c2 := (hb4.cell (p := ⟨w1.heap.size, 2, none⟩) hl3).trans c2
 have c3 := (hb4.cell (p := ⟨w1.heap.size, 3, none⟩) hl3).trans c3
 have HNM := Lib.hid hns
 have HB34 := Lib.hid hb4
 have HB4 := Lib.hid (HB3.out.trans (hb4.mono HB3.out.size))
 clear hns hb4
 obtain ⟨w5, hw5⟩ : ∃ w5, (w4.alloc (.cells #[.int .i64 1, .int .i64 0, .int .i64 0, .string ⟨#[]⟩, .string ⟨#[]⟩, .int .i64 0, .int .i64 0, .string ⟨#[]⟩, .int .i64 2, .int .i64 0, .int .i64 0, .string ⟨#[]⟩, .string ⟨#[]⟩, .int .i64 3, .int .i64 0, .string ⟨#[]⟩, .int .i64 14, .int .i64 0, .int .i64 0, .string ⟨#[]⟩, .string ⟨#[]⟩, .int .i64 0, .int .i64 0, .string ⟨#[]⟩] 51)).alloc (.cells #[.int .i64 N, .int .i64 N, .int .i64 0, .slice A2 L cM, .int .i64 0, .int .i64 0, .int .i64 0, .slice (some ⟨w4.heap.size, 0, none⟩) 3 3] 32) = w5 := ⟨_, rfl⟩
 obtain ⟨hfn, hb45⟩ := fns_new HL.out (((HINS.out.below HB12.out).below HB23.out).below HB34.out) hw5
 have HFN := Lib.hid hfn
 have HB5 := Lib.hid (HB4.out.trans (hb45.mono HB4.out.size))
 have hl4 : w1.heap.size < w4.heap.size := Nat.lt_of_lt_of_le hl3 HB34.out.size
 have c0 := (hb45.cell (p := ⟨w1.heap.size, 0, none⟩) hl4).trans c0
 have hl5 : w1.heap.size < w5.heap.size := Nat.lt_of_lt_of_le hl4 hb45.size
 have HW5 := Lib.hid hw5
 have HNM5 := Lib.hid (HNM.out.below hb45)
 clear hfn hb45 hw5
 go_wp2_with fail
 rw [HW5.out]
 obtain ⟨FB, hFB⟩ : ∃ FB, w4.heap.size + 1 = FB := ⟨_, rfl⟩
 rw [hFB]
 rw [hFB] at HFN
 clear hFB
 refine (worldWith_any (some ⟨FB, 0, none⟩) 2 w5).mono ?_
 rintro e w6 ⟨rfl, hb6⟩
 have c0 := (hb6.cell (p := ⟨w1.heap.size, 0, none⟩) hl5).trans c0
 have HB6 := Lib.hid (HB5.out.trans (hb6.mono HB5.out.size))
 have HB56 := Lib.hid hb6
 have hl6 : w1.heap.size < w6.heap.size := Nat.lt_of_lt_of_le hl5 hb6.size
 clear hb6
 go_upto_region 12 with fail
 obtain ⟨w7, hw7⟩ : ∃ w7, (w6.alloc (.cells #[.slice (some ⟨FB, 0, none⟩) 2 2, .slice none 0 0, .slice none 0 0, .slice (some ⟨w6.heap.size + 1, 0, none⟩) 2 2, .int .i64 60000] 46)).alloc (.cells #[.int .i64 8, .int .i64 0, .string ⟨#[]⟩, .int .i64 1, .int .i64 0, .string ⟨#[]⟩] 49) = w7 := ⟨_, rfl⟩
 rw [hw7]
 have hb67 : Below w6.heap.size w6 w7 := by rw [<- hw7]; exact ((Below.refl _ _).alloc (Nat.le_refl _) _).alloc (by simp) _
 have hl67 : w6.heap.size < w7.heap.size := by rw [<- hw7]; simp; omega
 have hhp : HpAt w7 (some ⟨w6.heap.size + 1, 0, none⟩) 2 2 [] := ⟨⟨rfl, Nat.le_refl _, by unfold maxLen; omega, fun _ => ⟨_, 0, rfl, by rw [<- hw7]; simp, fun i hi => by
  rw [<- hw7]
  match i, hi with
  | 0, _ => exact ⟨cell_second _ _ _ _ _ 0, cell_second _ _ _ _ _ 1, cell_second _ _ _ _ _ 2⟩
  | 1, _ => exact ⟨cell_second _ _ _ _ _ 3, cell_second _ _ _ _ _ 4, cell_second _ _ _ _ _ 5⟩⟩⟩, (fun _ h => by cases h), by omega⟩
 obtain ⟨HB_, hHB_⟩ : ∃ HB_, w6.heap.size + 1 = HB_ := ⟨_, rfl⟩
 have b0 : w7.cell? ⟨w6.heap.size, 0, none⟩ = some (.slice (some ⟨FB, 0, none⟩) 2 2) := by rw [<- hw7]; exact cell_first _ _ _ _ _ 0
 have b1 : w7.cell? ⟨w6.heap.size, 1, none⟩ = some (.slice none 0 0) := by rw [<- hw7]; exact cell_first _ _ _ _ _ 1
 have b2 : w7.cell? ⟨w6.heap.size, 2, none⟩ = some (.slice none 0 0) := by rw [<- hw7]; exact cell_first _ _ _ _ _ 2
 have b3 : w7.cell? ⟨w6.heap.size, 3, none⟩ = some (.slice (some ⟨w6.heap.size + 1, 0, none⟩) 2 2) := by rw [<- hw7]; exact cell_first _ _ _ _ _ 3
 have b4 : w7.cell? ⟨w6.heap.size, 4, none⟩ = some (.int .i64 60000) := by rw [<- hw7]; exact cell_first _ _ _ _ _ 4
 rw [hHB_] at hhp b3
 have HHP := Lib.hid hhp
 have HFN7 := Lib.hid (HFN.out.below (HB56.out.trans (hb67.mono HB56.out.size)))
 have HNM7 := Lib.hid ((HNM5.out.below HB56.out).below hb67)
 have HB7 := Lib.hid (HB6.out.trans (hb67.mono HB6.out.size))
 have c0 := (hb67.cell (p := ⟨w1.heap.size, 0, none⟩) hl6).trans c0
 have hl7 : w1.heap.size < w7.heap.size := Nat.lt_trans hl6 hl67
 obtain ⟨ol, hol⟩ : ∃ ol, ns.map (fun n => n.tmod 1000) = ol := ⟨_, rfl⟩
 rw [hol] at HNM7
 have HOLN := Lib.hid (show ol.length = N by rw [<- hol, List.length_map]; exact HNS.out)
 have HOLB := Lib.hid (show ∀ n ∈ ol, -1000 < n /\ n < 1000 by
  intro x hx
  rw [<- hol] at hx
  obtain ⟨m, _, rfl⟩ := List.mem_map.1 hx
  have h1 := Int.tmod_lt_of_pos m (by decide : (0 : Int) < 1000)
  have h2 := Int.lt_tmod_of_pos m (by decide : (0 : Int) < 1000)
  omega)
 clear hw7 hb67 hhp hHB_ hol
 go_wp2_with fail
 go_loopg [11, 12] N (fun g v i wr => ∃ j : Nat, g = N - j /\ j <= N /\ i = .int .i64 j /\ OwnAt kitWd 49 w7.heap.size wr v ((ol.take j).map numW) /\ Below w7.heap.size w7 wr)
 case atStart => exact ⟨0, by omega, by omega, rfl, OwnAt.start _ _ _ _, Below.refl _ _⟩
 obtain ⟨j, hg, hj, rfl, hown, hbr⟩ := hrel
 have HG := Lib.hid hg
 have HO := Lib.hid hown
 have HBR := Lib.hid hbr
 have hwr := hbr.size
 clear hg hown hbr
 have hjN : (j : Int) < (N : Int) \/ j = N := by omega
 rcases hjN with hjN | rfl
 ·
  have hjl : j < ol.length := by have := HOLN.out; omega
  obtain ⟨bN, oN, rfl, hbN, hcN⟩ := HNM7.out.at_ (by omega)
  have xj := (HBR.out.cell (p := ⟨bN, oN + j, none⟩) hbN).trans (hcN j hjl)
  obtain ⟨m', hm'⟩ : ∃ m', ol[j] = m' := ⟨_, rfl⟩
  rw [hm'] at xj
  have hj0 : (0 : Int) <= (j : Int) := Int.natCast_nonneg _
  have HM := Lib.hid hm'
  have HLN := Lib.hid (show ((ol.take j).map numW).length + 1 <= 1099511627777 by rw [List.length_map, List.length_take]; omega)
  clear hcN hm'
  go_wp2_with (at_builtin; refine wpList_wd rfl (.tmp 74) (.tmp 80) rfl HO.out (numW m') _ rfl rfl rfl HLN.out hwr ?_; intro v' w8 h8 hg8 _)
  have HB8 := Lib.hid (HBR.out.grown hg8 hwr (fun b hb => HO.out.base_le hb))
  have H8 := Lib.hid h8
  clear h8 hg8
  go_roundg (N - (j + 1))
  case rel => exact ⟨j + 1, rfl, by omega, by go_num, by rw [List.take_succ_eq_append_getElem hjl, List.map_append, HM.out]; exact H8.out, HB8.out⟩
  case measure => have := HG.out; omega
 have htk : ol.take j = ol := List.take_of_length_le (by rw [HOLN.out]; exact Nat.le_refl _)
 have hown := HO.out
 rw [htk] at hown
 obtain ⟨AA, cA, rfl, hL, _⟩ := hown.wds
 have hln : (ol.map numW).length = j := by rw [List.length_map]; exact HOLN.out
 rw [hln] at hL ⊢
 have hpw : PxW ol.length p := by rw [HOLN.out]; exact HP.out
 have hokL : ∀ y ∈ ol.map numW, WOk y := fun y hy => by
  obtain ⟨m', hm', rfl⟩ := List.mem_map.1 hy
  have := HOLB.out m' hm'
  exact Or.inl ⟨rfl, by unfold big; show -1099511627776 <= m'; omega, by unfold big; show m' <= 1099511627776; omega, rfl⟩
 have hokB : ∀ n ∈ ol, -big <= n /\ n <= big := fun n hn => by have := HOLB.out n hn; unfold big; omega
 obtain ⟨hp1, hp2⟩ := path_of hpw
 obtain ⟨he1, he2⟩ := evalX_ok (o := ol.length) hokB rfl p hpw
 have KC := Lib.hid (fun (r : End) (hr : Path (codeOf p) (ol.map numW) ⟨0, [], []⟩ r) => calledOf_any (HFN7.out.below HBR.out) (HHP.out.below HBR.out) HP.out hN6 (by rw [HL.out]; exact HL6.out) hL hokL hr)
 have b0 := (HBR.out.cell (p := ⟨w6.heap.size, 0, none⟩) hl67).trans b0
 have b1 := (HBR.out.cell (p := ⟨w6.heap.size, 1, none⟩) hl67).trans b1
 have b2 := (HBR.out.cell (p := ⟨w6.heap.size, 2, none⟩) hl67).trans b2
 have b3 := (HBR.out.cell (p := ⟨w6.heap.size, 3, none⟩) hl67).trans b3
 have b4 := (HBR.out.cell (p := ⟨w6.heap.size, 4, none⟩) hl67).trans b4
 have c0 := (HBR.out.cell (p := ⟨w1.heap.size, 0, none⟩) hl7).trans c0
 have hlr : w1.heap.size < wr.heap.size := Nat.lt_of_lt_of_le hl7 hwr
 have HBw := Lib.hid (HB7.out.trans (HBR.out.mono HB7.out.size))
 have HOKB := Lib.hid hokB
 have HPW := Lib.hid hpw
 clear htk hown hln hpw hokL hokB hL
 cases hev : evalX ol p with
 | ok v =>
  obtain ⟨⟨yk, yn, ys⟩, hp, hpa, hhv⟩ := hp1 v hev
  have KR := Lib.hid (KC.out _ hpa)
  obtain ⟨hvo, hvs⟩ := he1 v hev
  have HEV := Lib.hid hev
  have HHV := Lib.hid hhv
  have HVO := Lib.hid (And.intro hvo hvs)
  clear hp1 hp2 he1 he2 hpa hev hhv hvo hvs
  go_wp2_with fail
  refine KR.out.mono ?_
  intro e w8 hpost
  obtain ⟨F8, fc8, A8, len8, cap8, rfl, hin8, hf8, ha8, hb8⟩ := hpost
  obtain ⟨w9, hw9⟩ : ∃ w9, (w8.alloc (.cells #[.slice F8 2 fc8, .slice none 0 0, .slice none 0 0, .slice A8 len8 cap8, .int .i64 60000] 46)).alloc (.cells #[.int .i64 yk, .int .i64 yn, .string ys] 49) = w9 := ⟨_, rfl⟩
  have hb89 : Below w8.heap.size w8 w9 := by rw [<- hw9]; exact ((Below.refl _ _).alloc (Nat.le_refl _) _).alloc (by simp) _
  have hBw8 : Below wb.heap.size wb w8 := HBw.out.trans (hb8.mono HBw.out.size)
  have hBw9 : Below wb.heap.size wb w9 := hBw8.trans (hb89.mono hBw8.size)
  have hB9 : Below w.heap.size w w9 := HB.out.trans (hBw9.mono HB.out.size)
  have c0 := (hb8.cell (p := ⟨w1.heap.size, 0, none⟩) hlr).trans c0
  have hl8 : w1.heap.size < w8.heap.size := Nat.lt_of_lt_of_le hlr hb8.size
  have c0 := (hb89.cell (p := ⟨w1.heap.size, 0, none⟩) hl8).trans c0
  have hl9 : w1.heap.size < w9.heap.size := Nat.lt_of_lt_of_le hl8 hb89.size
  have hmb := movedBy_any (w := w9) (HIN.out.later hB9) HPW.out HOKB.out (by have := HOLN.out; omega) (by have := HCQ.out; omega) (by rw [HOLN.out]; exact ((HNM7.out.below HBR.out).below hb8).below hb89)
  rw [HOLN.out, HEV.out] at hmb
  have KMB := Lib.hid hmb
  have d0 : w9.cell? ⟨w8.heap.size, 0, none⟩ = some (.slice F8 2 fc8) := by rw [<- hw9]; exact cell_first _ _ _ _ _ 0
  have d1 : w9.cell? ⟨w8.heap.size, 1, none⟩ = some (.slice none 0 0) := by rw [<- hw9]; exact cell_first _ _ _ _ _ 1
  have d2 : w9.cell? ⟨w8.heap.size, 2, none⟩ = some (.slice none 0 0) := by rw [<- hw9]; exact cell_first _ _ _ _ _ 2
  have d3 : w9.cell? ⟨w8.heap.size, 3, none⟩ = some (.slice A8 len8 cap8) := by rw [<- hw9]; exact cell_first _ _ _ _ _ 3
  have d4 : w9.cell? ⟨w8.heap.size, 4, none⟩ = some (.int .i64 60000) := by rw [<- hw9]; exact cell_first _ _ _ _ _ 4
  have y0 : w9.cell? ⟨w8.heap.size + 1, 0, none⟩ = some (.int .i64 yk) := by rw [<- hw9]; exact cell_second _ _ _ _ _ 0
  have y1 : w9.cell? ⟨w8.heap.size + 1, 1, none⟩ = some (.int .i64 yn) := by rw [<- hw9]; exact cell_second _ _ _ _ _ 1
  have y2 : w9.cell? ⟨w8.heap.size + 1, 2, none⟩ = some (.string ys) := by rw [<- hw9]; exact cell_second _ _ _ _ _ 2
  have hs9 : w8.heap.size < w9.heap.size := by rw [<- hw9]; simp; omega
  have hs9' : w8.heap.size + 1 < w9.heap.size := by rw [<- hw9]; simp
  have KSO := Lib.hid (fun (W : World) (hW : Below w8.heap.size w8 W) => shownOf_any (hf8.below hW) (ha8.below hW) HP.out hN6 (by rw [HL.out]; exact HL6.out) hin8 HHV.out HVO.out.1 (by have h1 := HVO.out.2; have h2 := HCQ.out; omega))
  obtain ⟨S, hS⟩ : ∃ S, shV decB v 1 none = S := ⟨_, rfl⟩
  rw [hS] at KSO
  have HS := Lib.hid hS
  have HB89 := Lib.hid hb89
  have HB9 := Lib.hid hB9
  have HW9 := Lib.hid hw9
  obtain ⟨a0, a1, a2, a3, a4, a5, a6, a7, a8⟩ := KZ.out w9 hBw9
  clear hb89 hBw8 hBw9 hB9 hmb hw9 hf8 ha8 hin8 hb8 hS b0 b1 b2 b3 b4
  simp only [Wd.agg]
  go_upto_region 17 with fail
  rw [HW9.out]
  go_wp2_with fail
  refine KMB.out.mono ?_
  intro e w10 hmb
  obtain ⟨hb10, hmb⟩ := hmb
  simp only at hmb
  rw [HS.out] at hmb
  subst hmb
  have d0 := (hb10.cell (p := ⟨w8.heap.size, 0, none⟩) hs9).trans d0
  have d1 := (hb10.cell (p := ⟨w8.heap.size, 1, none⟩) hs9).trans d1
  have d2 := (hb10.cell (p := ⟨w8.heap.size, 2, none⟩) hs9).trans d2
  have d3 := (hb10.cell (p := ⟨w8.heap.size, 3, none⟩) hs9).trans d3
  have d4 := (hb10.cell (p := ⟨w8.heap.size, 4, none⟩) hs9).trans d4
  have y0 := (hb10.cell (p := ⟨w8.heap.size + 1, 0, none⟩) hs9').trans y0
  have y1 := (hb10.cell (p := ⟨w8.heap.size + 1, 1, none⟩) hs9').trans y1
  have y2 := (hb10.cell (p := ⟨w8.heap.size + 1, 2, none⟩) hs9').trans y2
  have HB10 := Lib.hid (HB9.out.trans (hb10.mono HB9.out.size))
  have HB810 := Lib.hid (HB89.out.trans (hb10.mono HB89.out.size))
  clear hb10 a0 a1 a2 a3 a4 a5 a6 a7 a8 c0
  go_wp2_with fail
  refine (KSO.out w10 HB810.out).mono ?_
  rintro e w11 ⟨⟨F', fc', A', cap', rfl⟩, hb11⟩
  have HB11 := Lib.hid (HB10.out.trans (hb11.mono HB10.out.size))
  clear hb11 d0 d1 d2 d3 d4 y0 y1 y2
  go_wp2_with fail
  go_ret
  exact ⟨rfl, HB11.out.alloc HB11.out.size _⟩
 | error er =>
  have KR := Lib.hid (KC.out _ (hp2 er hev))
  have her := he2 er hev
  have hne : er ≠ 0 := by omega
  have hnb : (er == 0) = false := by simpa using hne
  have hnb2 : (er != 0) = true := by simpa using hne
  have HEV := Lib.hid hev
  clear hp1 hp2 he1 he2 hev her hne
  go_wp2_with fail
  refine KR.out.mono ?_
  intro e w8 hpost
  obtain ⟨rfl, hb8⟩ := hpost
  simp only [zWorld, noW, Wd.agg]
  obtain ⟨w9, hw9⟩ : ∃ w9, (w8.alloc (.cells #[.slice none 0 0, .slice none 0 0, .slice none 0 0, .slice none 0 0, .int .i64 0] 46)).alloc (.cells #[.int .i64 0, .int .i64 0, .string ⟨#[]⟩] 49) = w9 := ⟨_, rfl⟩
  have hb89 : Below w8.heap.size w8 w9 := by rw [<- hw9]; exact ((Below.refl _ _).alloc (Nat.le_refl _) _).alloc (by simp) _
  have hBw8 : Below wb.heap.size wb w8 := HBw.out.trans (hb8.mono HBw.out.size)
  have hBw9 : Below wb.heap.size wb w9 := hBw8.trans (hb89.mono hBw8.size)
  have hB9 : Below w.heap.size w w9 := HB.out.trans (hBw9.mono HB.out.size)
  have c0 := (hb8.cell (p := ⟨w1.heap.size, 0, none⟩) hlr).trans c0
  have hl8 : w1.heap.size < w8.heap.size := Nat.lt_of_lt_of_le hlr hb8.size
  have c0 := (hb89.cell (p := ⟨w1.heap.size, 0, none⟩) hl8).trans c0
  have hl9 : w1.heap.size < w9.heap.size := Nat.lt_of_lt_of_le hl8 hb89.size
  have hmb := movedBy_any (w := w9) (HIN.out.later hB9) HPW.out HOKB.out (by have := HOLN.out; omega) (by have := HCQ.out; omega) (by rw [HOLN.out]; exact ((HNM7.out.below HBR.out).below hb8).below hb89)
  rw [HOLN.out, HEV.out] at hmb
  have KMB := Lib.hid hmb
  have HB9 := Lib.hid hB9
  have HW9 := Lib.hid hw9
  obtain ⟨a0, a1, a2, a3, a4, a5, a6, a7, a8⟩ := KZ.out w9 hBw9
  clear hb89 hBw8 hBw9 hB9 hmb hw9 hb8 b0 b1 b2 b3 b4
  go_upto_region 17 with fail
  rw [HW9.out]
  go_wp2_with fail
  refine KMB.out.mono ?_
  intro e w10 hmb
  obtain ⟨hb10, hmb⟩ := hmb
  simp only at hmb
  subst hmb
  have c0 := (hb10.cell (p := ⟨w1.heap.size, 0, none⟩) hl9).trans c0
  have HB10 := Lib.hid (HB9.out.trans (hb10.mono HB9.out.size))
  clear hb10 a0 a1 a2 a3 a4 a5 a6 a7 a8
  go_wp2_with fail
  go_ret
  exact ⟨rfl, HB10.out⟩
end
end Go.Proofs.YtfhbdlobhjegcaaGreatDoor
