import Derived.Test.YtfhbdlobhjegcaaGreatDoorGRab
namespace Go.Proofs.YtfhbdlobhjegcaaGreatDoor
open Go.RowKit Go.ChangeShapes Go.WideShapes Go.Deep Go.ChangeAt
set_option linter.unusedVariables false
set_option maxRecDepth 20000
def restX : Px -> Bool -> Nat -> List IV
 | .const d, t, n => codeD d ++ tailI t
 | .was i, t, n => localI i :: tailI t
 | .ite a b c, t, n => codeX a false n ++ elseI (n + (codeX a false n).length + 1 + (codeX b t (n + (codeX a false n).length + 1)).length + (if t then 0 else 1)) :: (codeX b t (n + (codeX a false n).length + 1) ++ (if t then [] else [jumpI (n + (codeX a false n).length + 1 + (codeX b t (n + (codeX a false n).length + 1)).length + (if t then 0 else 1) + (codeX c t (n + (codeX a false n).length + 1 + (codeX b t (n + (codeX a false n).length + 1)).length + (if t then 0 else 1))).length)]) ++ codeX c t (n + (codeX a false n).length + 1 + (codeX b t (n + (codeX a false n).length + 1)).length + (if t then 0 else 1)))
 | .prim s l, t, n => codeL l n ++ primI s l.length :: tailI t
theorem codeX_rest (x : Px) (t : Bool) (n : Nat) : codeX x t n = tickI :: restX x t (n + 1) := by cases x <;> (rw [codeX]; rfl)
theorem codeL_snoc (l : List Px) (n k : Nat) (hk : k < l.length) : codeL (l.take (k + 1)) n = codeL (l.take k) n ++ codeX l[k] false (n + (codeL (l.take k) n).length) := by
 induction l generalizing k n with
 | nil => exact absurd hk (by simp)
 | cons a l ih =>
  cases k with
  | zero => simp [codeL]
  | succ k =>
   have hk' : k < l.length := by simpa using hk
   rw [List.take_succ_cons, List.take_succ_cons, codeL, codeL, ih _ k hk', List.append_assoc, List.length_append, Nat.add_assoc]
   rfl
theorem codeL_take (l : List Px) (n k : Nat) : (codeL (l.take k) n).length <= (codeL l n).length := by
 induction l generalizing k n with
 | nil => simp
 | cons a l ih =>
  cases k with
  | zero => simp [codeL]
  | succ k =>
   rw [List.take_succ_cons, codeL, codeL, List.length_append, List.length_append]
   have := ih (n + (codeX a false n).length) k
   omega
theorem codeL_nth (l : List Px) (n k : Nat) (hk : k < l.length) : (codeL (l.take k) n).length + (codeX l[k] false (n + (codeL (l.take k) n).length)).length <= (codeL l n).length := by
 have h2 := congrArg List.length (codeL_snoc l n k hk)
 have h3 := codeL_take l n (k + 1)
 rw [List.length_append] at h2
 omega
theorem countXs_nth (l : List Px) (k : Nat) (hk : k < l.length) : countX l[k] <= countXs l := by
 induction l generalizing k with
 | nil => exact absurd hk (by simp)
 | cons a l ih =>
  cases k with
  | zero => simp [countXs]
  | succ k =>
   have hk' : k < l.length := by simpa using hk
   rw [countXs]
   have := ih k hk'
   simp only [List.getElem_cons_succ]
   omega
theorem PxIn.form {W : World} {c : List Value} {p : Px} {q : Nat} (h : PxIn W c p q) : ∃ k dk dn ds dA dl dc s n nA nl nc aA al ac, c = [.int .i64 k, .int .i64 dk, .int .i64 dn, .string ds, .slice dA dl dc, .string s, .int .i64 n, .slice nA nl nc, .slice aA al ac] := by
 cases h <;> exact ⟨_, _, _, _, _, _, _, _, _, _, _, _, _, _, _, rfl⟩
def ExprSays (x : Px) : Prop := ∀ (W0 w : World) (B M o : Nat) (v : Value) (X : List IV) (cs : List Value) (q : Nat) (t : Bool), PxIn W0 cs x q -> PxW o x -> Mk W0 w M o v X -> X.length + (codeX x t X.length).length <= 1073741824 →
  Calls Tryz.prog 13 #[.pointer (some ⟨B, 0, none⟩), .pointer (some ⟨M, 0, none⟩), .agg cs.toArray, .bool t] w (MkPost w M o v (X ++ codeX x t X.length) (.tuple #[]))
def RestSays (x : Px) : Prop := ∀ (W0 w : World) (B M o : Nat) (v : Value) (X : List IV) (cs : List Value) (q : Nat) (t : Bool), PxIn W0 cs x q -> PxW o x -> Mk W0 w M o v X -> X.length + (restX x t X.length).length <= 1073741824 →
  Calls Tryz.prog 32 #[.pointer (some ⟨B, 0, none⟩), .pointer (some ⟨M, 0, none⟩), .agg cs.toArray, .bool t] w (MkPost w M o v (X ++ restX x t X.length) (.tuple #[]))
set_option maxHeartbeats 8000000 in
theorem rest_const (d : Dt) : RestSays (.const d) := fun W0 w B M o v X cs q t hin hw hm hX => by
 cases hin with
 | const dk dn ds dA dl dc _ hd s n nA nl nc aA ac h2 =>
 cases hw with
 | const _ hdw =>
 obtain ⟨wa, hwa⟩ : ∃ wa, w.alloc (.cells #[.int .i64 1, .int .i64 dk, .int .i64 dn, .string ds, .slice dA dl dc, .string s, .int .i64 n, .slice nA nl nc, .slice aA 0 ac] 28) = wa := ⟨_, rfl⟩
 have hba : Below w.heap.size w wa := by rw [<- hwa]; exact (Below.refl _ _).alloc (Nat.le_refl _) _
 have hla : w.heap.size < wa.heap.size := by rw [<- hwa]; simp
 have z0 : wa.cell? ⟨w.heap.size, 0, none⟩ = some (.int .i64 1) := by rw [<- hwa]; exact za _ _ _ 0
 have z1 : wa.cell? ⟨w.heap.size, 1, none⟩ = some (.int .i64 dk) := by rw [<- hwa]; exact za _ _ _ 1
 have z2 : wa.cell? ⟨w.heap.size, 2, none⟩ = some (.int .i64 dn) := by rw [<- hwa]; exact za _ _ _ 2
 have z3 : wa.cell? ⟨w.heap.size, 3, none⟩ = some (.string ds) := by rw [<- hwa]; exact za _ _ _ 3
 have z4 : wa.cell? ⟨w.heap.size, 4, none⟩ = some (.slice dA dl dc) := by rw [<- hwa]; exact za _ _ _ 4
 have HWA := Lib.hid hwa
 have HBA := Lib.hid hba
 have HM := Lib.hid hm
 have HMA := Lib.hid (hm.new hba)
 have HX := Lib.hid hX
 clear hwa hba hm hX
 have hlen : X.length + (codeD d).length + (tailI t).length <= 1073741824 := by have := HX.out; simp only [restX, List.length_append] at this; omega
 have KD := Lib.hid (datum_any (countD d) W0 wa M o v X _ d (Nat.le_refl _) hd hdw HMA.out (by omega))
 clear hd hdw
 cases t with
 | false =>
  go_enter Tryz.func32, Tryz.ntmps32
  go_upto_region 1 with fail
  rw [HWA.out]
  go_wp2_with fail
  refine KD.out.mono ?_
  rintro e w2 ⟨rfl, v2, hm2, hv2⟩
  have HM2 := Lib.hid hm2
  have HV2 := Lib.hid hv2
  clear hm2 hv2
  go_wp2_with fail
  exact bodyPost_end (v := .tuple #[]) (results_none rfl _ _ _) rfl ⟨rfl, _, by simpa [restX, tailI] using HM2.out, (Mv.new HBA.out).trans HV2.out⟩
 | true =>
  go_enter Tryz.func32, Tryz.ntmps32
  go_upto_region 1 with fail
  rw [HWA.out]
  go_wp2_with fail
  refine KD.out.mono ?_
  rintro e w2 ⟨rfl, v2, hm2, hv2⟩
  have HM2 := Lib.hid hm2
  have HV2 := Lib.hid hv2
  clear hm2 hv2
  go_wp2_with fail
  refine (emit_any HM2.out (by simp [tailI] at hlen ⊢; omega) retI).mono ?_
  rintro e w9 ⟨rfl, v9, hm9, hv9⟩
  go_wp2_with fail
  exact bodyPost_end (v := .tuple #[]) (results_none rfl _ _ _) rfl ⟨rfl, _, by simpa [restX, tailI] using hm9, (Mv.new HBA.out).trans (HV2.out.trans hv9)⟩
set_option maxHeartbeats 8000000 in
theorem rest_was (i : Nat) : RestSays (.was i) := fun W0 w B M o v X cs q t hin hw hm hX => by
 cases hin with
 | was dk dn ds dA dl dc _ hd s n _ hi nA nl nc aA ac h2 =>
 subst hi
 obtain ⟨wa, hwa⟩ : ∃ wa, w.alloc (.cells #[.int .i64 15, .int .i64 dk, .int .i64 dn, .string ds, .slice dA dl dc, .string s, .int .i64 i, .slice nA nl nc, .slice aA 0 ac] 28) = wa := ⟨_, rfl⟩
 have hba : Below w.heap.size w wa := by rw [<- hwa]; exact (Below.refl _ _).alloc (Nat.le_refl _) _
 have hla : w.heap.size < wa.heap.size := by rw [<- hwa]; simp
 have z0 : wa.cell? ⟨w.heap.size, 0, none⟩ = some (.int .i64 15) := by rw [<- hwa]; exact za _ _ _ 0
 have z6 : wa.cell? ⟨w.heap.size, 6, none⟩ = some (.int .i64 i) := by rw [<- hwa]; exact za _ _ _ 6
 have HWA := Lib.hid hwa
 have HBA := Lib.hid hba
 have HM := Lib.hid hm
 have HMA := Lib.hid (hm.new hba)
 have HX := Lib.hid hX
 clear hwa hba hm hX
 have hlen : X.length + 1 + (tailI t).length <= 1073741824 := by have := HX.out; simp only [restX, List.length_cons] at this; omega
 clear hd hw
 cases t with
 | false =>
  go_enter Tryz.func32, Tryz.ntmps32
  go_upto_region 1 with fail
  rw [HWA.out]
  go_wp2_with fail
  refine (emit_any HMA.out.at_ (by omega) (localI i)).mono ?_
  rintro e w2 ⟨rfl, v2, hm2, hv2⟩
  have HM2 := Lib.hid hm2
  have HV2 := Lib.hid hv2
  clear hm2 hv2
  go_wp2_with fail
  exact bodyPost_end (v := .tuple #[]) (results_none rfl _ _ _) rfl ⟨rfl, _, by simpa [restX, tailI] using HM2.out, (Mv.new HBA.out).trans HV2.out⟩
 | true =>
  go_enter Tryz.func32, Tryz.ntmps32
  go_upto_region 1 with fail
  rw [HWA.out]
  go_wp2_with fail
  refine (emit_any HMA.out.at_ (by omega) (localI i)).mono ?_
  rintro e w2 ⟨rfl, v2, hm2, hv2⟩
  have HM2 := Lib.hid hm2
  have HV2 := Lib.hid hv2
  clear hm2 hv2
  go_wp2_with fail
  refine (emit_any HM2.out (by simp [tailI] at hlen ⊢; omega) retI).mono ?_
  rintro e w9 ⟨rfl, v9, hm9, hv9⟩
  go_wp2_with fail
  exact bodyPost_end (v := .tuple #[]) (results_none rfl _ _ _) rfl ⟨rfl, _, by simpa [restX, tailI] using hm9, (Mv.new HBA.out).trans (HV2.out.trans hv9)⟩
set_option maxHeartbeats 8000000 in
theorem more_prim (s : ByteArray) (l : List Px) (ih : ∀ y, countX y < countX (.prim s l) -> ExprSays y) : ∀ (W0 w : World) (B M o : Nat) (v : Value) (X : List IV) (cs : List Value) (q : Nat), PxIn W0 cs (.prim s l) q -> PxW o (.prim s l) -> Mk W0 w M o v X -> X.length + ((codeL l X.length).length + 1) <= 1073741824 →
  Calls Tryz.prog 70 #[.pointer (some ⟨B, 0, none⟩), .pointer (some ⟨M, 0, none⟩), .agg cs.toArray] w (MkPost w M o v (X ++ (codeL l X.length ++ [primI s l.length])) (.tuple #[])) := fun W0 w B M o v X cs q hin hw hm hX => by
 cases hin with
 | prim dk dn ds dA dl dc _ hd _ n nA nl nc aA ac _ h1 h2 cs ks hc hk h0 row each =>
 cases hw with
 | prim _ _ _ _ hlw =>
 have hac : ac <= 9223372036854775807 := by unfold maxLen at h2; omega
 obtain ⟨N, hN⟩ : ∃ N, l.length = N := ⟨_, rfl⟩
 rw [hN] at h1 h0 ⊢
 have HNN := Lib.hid hN
 have HC := Lib.hid hc
 have HK := Lib.hid hk
 have HROW := Lib.hid row
 have HEACH := Lib.hid each
 have HLW := Lib.hid hlw
 have HIH := Lib.hid ih
 clear row each hlw ih hd hc hk
 obtain ⟨wa, hwa⟩ : ∃ wa, w.alloc (.cells #[.int .i64 10, .int .i64 dk, .int .i64 dn, .string ds, .slice dA dl dc, .string s, .int .i64 n, .slice nA nl nc, .slice aA N ac] 28) = wa := ⟨_, rfl⟩
 have hba : Below w.heap.size w wa := by rw [<- hwa]; exact (Below.refl _ _).alloc (Nat.le_refl _) _
 have hla : w.heap.size < wa.heap.size := by rw [<- hwa]; simp
 have z0 : wa.cell? ⟨w.heap.size, 0, none⟩ = some (.int .i64 10) := by rw [<- hwa]; exact za _ _ _ 0
 have z5 : wa.cell? ⟨w.heap.size, 5, none⟩ = some (.string s) := by rw [<- hwa]; exact za _ _ _ 5
 have z8 : wa.cell? ⟨w.heap.size, 8, none⟩ = some (.slice aA N ac) := by rw [<- hwa]; exact za _ _ _ 8
 have HWA := Lib.hid hwa
 have HBA := Lib.hid hba
 have HM := Lib.hid hm
 have HMA := Lib.hid (hm.new hba)
 have hlen := hX
 clear hN hwa hba hm hX
 go_enter Tryz.func70, Tryz.ntmps70
 go_upto_region 1 with fail
 rw [HWA.out]
 go_upto_region 6 with fail
 go_loopg [7, 25] N (fun g p i wr => ∃ (j : Nat) (v' : Value), g = N - j /\ j <= N /\ i = .int .i64 j /\ MkAt wr M o v' (X ++ codeL (l.take j) X.length) /\ Mv M wa v wr v')
 case atStart => exact ⟨0, v, by omega, by omega, rfl, by simpa [codeL] using HMA.out.at_, Mv.refl _ _ _⟩
 obtain ⟨j, v', hg, hj, rfl, hmr, hvr⟩ := hrel
 have HG := Lib.hid hg
 have HMR := Lib.hid (HMA.out.step hmr hvr)
 have HV := Lib.hid hvr
 have z8r := (HM.out.keep HBA.out hvr 8 (Nat.le_refl _) hla).trans z8
 have z5r := (HM.out.keep HBA.out hvr 5 (Nat.le_refl _) hla).trans z5
 have z0r := (HM.out.keep HBA.out hvr 0 (Nat.le_refl _) hla).trans z0
 clear hg hmr hvr
 have hjN : (j : Int) < (N : Int) \/ j = N := by omega
 rcases hjN with hjN | rfl
 ·
  have hjl : j < l.length := by have := HNN.out; omega
  have hjc : j < cs.length := by have := HC.out; omega
  have hjk : j < ks.length := by have := HK.out; omega
  obtain ⟨b, o2, hAb, hbw, hrow⟩ := HROW.out (by omega)
  subst hAb
  have hr := hrow j hjc
  have he := HEACH.out j hjl hjc hjk
  have hyw := HLW.out _ (List.getElem_mem hjl)
  have hco : countX l[j] < countX (.prim s l) := by rw [countX]; have := countXs_nth l j hjl; omega
  have hnt := codeL_nth l X.length j hjl
  have hsn := codeL_snoc l X.length j hjl
  generalize l[j] = y at he hyw hco hnt hsn
  generalize cs[j] = cj at hr he
  generalize ks[j] = kj at he
  obtain ⟨ek, edk, edn, eds, edA, edl, edc, es, en, enA, enl, enc, eaA, eal, eac, rfl⟩ := he.form
  have HSN := Lib.hid hsn
  have HNT := Lib.hid hnt
  have KD := Lib.hid (fun (W : World) (hW : Below wr.heap.size wr W) => HIH.out y hco W0 W B M o v' (X ++ codeL (l.take j) X.length) _ kj false he hyw (HMR.out.new hW) (by have := HNT.out; simp only [List.length_append]; omega))
  have x0 := (HMR.out.old.cell (p := ⟨b, o2 + j * 9 + 0, none⟩) hbw).trans (hr 0 (by simp))
  have x1 := (HMR.out.old.cell (p := ⟨b, o2 + j * 9 + 1, none⟩) hbw).trans (hr 1 (by simp))
  have x2 := (HMR.out.old.cell (p := ⟨b, o2 + j * 9 + 2, none⟩) hbw).trans (hr 2 (by simp))
  have x3 := (HMR.out.old.cell (p := ⟨b, o2 + j * 9 + 3, none⟩) hbw).trans (hr 3 (by simp))
  have x4 := (HMR.out.old.cell (p := ⟨b, o2 + j * 9 + 4, none⟩) hbw).trans (hr 4 (by simp))
  have x5 := (HMR.out.old.cell (p := ⟨b, o2 + j * 9 + 5, none⟩) hbw).trans (hr 5 (by simp))
  have x6 := (HMR.out.old.cell (p := ⟨b, o2 + j * 9 + 6, none⟩) hbw).trans (hr 6 (by simp))
  have x7 := (HMR.out.old.cell (p := ⟨b, o2 + j * 9 + 7, none⟩) hbw).trans (hr 7 (by simp))
  have x8 := (HMR.out.old.cell (p := ⟨b, o2 + j * 9 + 8, none⟩) hbw).trans (hr 8 (by simp))
  simp only [List.getElem?_cons_zero, List.getElem?_cons_succ, Nat.add_zero] at x0 x1 x2 x3 x4 x5 x6 x7 x8
  have hj0 : (0 : Int) <= (j : Int) := Int.natCast_nonneg _
  have hjc2 : (j : Int) < (ac : Int) := by omega
  clear hr hyw hco he hrow hsn hnt
  go_upto_region 8 with fail
  obtain ⟨wd, hwd⟩ : ∃ wd, wr.alloc (.cells #[.int .i64 ek, .int .i64 edk, .int .i64 edn, .string eds, .slice edA edl edc, .string es, .int .i64 en, .slice enA enl enc, .slice eaA eal eac] 28) = wd := ⟨_, rfl⟩
  have hbd : Below wr.heap.size wr wd := by rw [<- hwd]; exact (Below.refl _ _).alloc (Nat.le_refl _) _
  have q0 : wd.cell? ⟨wr.heap.size, 0, none⟩ = some (.int .i64 ek) := by rw [<- hwd]; exact za _ _ _ 0
  have q1 : wd.cell? ⟨wr.heap.size, 1, none⟩ = some (.int .i64 edk) := by rw [<- hwd]; exact za _ _ _ 1
  have q2 : wd.cell? ⟨wr.heap.size, 2, none⟩ = some (.int .i64 edn) := by rw [<- hwd]; exact za _ _ _ 2
  have q3 : wd.cell? ⟨wr.heap.size, 3, none⟩ = some (.string eds) := by rw [<- hwd]; exact za _ _ _ 3
  have q4 : wd.cell? ⟨wr.heap.size, 4, none⟩ = some (.slice edA edl edc) := by rw [<- hwd]; exact za _ _ _ 4
  have q5 : wd.cell? ⟨wr.heap.size, 5, none⟩ = some (.string es) := by rw [<- hwd]; exact za _ _ _ 5
  have q6 : wd.cell? ⟨wr.heap.size, 6, none⟩ = some (.int .i64 en) := by rw [<- hwd]; exact za _ _ _ 6
  have q7 : wd.cell? ⟨wr.heap.size, 7, none⟩ = some (.slice enA enl enc) := by rw [<- hwd]; exact za _ _ _ 7
  have q8 : wd.cell? ⟨wr.heap.size, 8, none⟩ = some (.slice eaA eal eac) := by rw [<- hwd]; exact za _ _ _ 8
  rw [hwd]
  have HBD := Lib.hid hbd
  clear hwd hbd
  go_wp2_with fail
  refine (KD.out wd HBD.out).mono ?_
  rintro e w5 ⟨rfl, v5, hm5, hv5⟩
  have hm6 : MkAt w5 M o v5 (X ++ codeL (l.take (j + 1)) X.length) := by rw [HSN.out, <- List.append_assoc]; rw [List.length_append] at hm5; exact hm5
  have HM6 := Lib.hid hm6
  have HV6 := Lib.hid (HV.out.trans ((Mv.new HBD.out).trans hv5))
  clear hm5 hv5 hm6
  go_wp2_with fail
  go_roundg (N - (j + 1))
  case rel => exact ⟨j + 1, v5, rfl, by omega, by go_num, HM6.out, HV6.out⟩
  case measure => have := HG.out; omega
 have hlt : l.take j = l := List.take_of_length_le (by have := HNN.out; omega)
 have hM1 := HMR.out
 rw [hlt] at hM1
 have HM1 := Lib.hid hM1
 clear hlt hM1
 go_wp2_with fail
 refine (emit_any HM1.out.at_ (by simp only [List.length_append]; omega) (primI s j)).mono ?_
 rintro e w2 ⟨rfl, v2, hm3, hmv⟩
 go_wp2_with fail
 exact bodyPost_end (v := .tuple #[]) (results_none rfl _ _ _) rfl ⟨rfl, _, by rw [<- List.append_assoc]; exact hm3, (Mv.new HBA.out).trans (HV.out.trans hmv)⟩
set_option maxHeartbeats 8000000 in
theorem rest_prim (s : ByteArray) (l : List Px) (ih : ∀ y, countX y < countX (.prim s l) -> ExprSays y) : RestSays (.prim s l) := fun W0 w B M o v X cs q t hin hw hm hX => by
 have KM := Lib.hid (fun (W : World) (hW : Below w.heap.size w W) (hl : X.length + ((codeL l X.length).length + 1) <= 1073741824) => more_prim s l ih W0 W B M o v X cs q hin hw (hm.new hW) hl)
 cases hin with
 | prim dk dn ds dA dl dc _ hd _ n nA nl nc aA ac _ h1 h2 cs ks hc hk h0 row each =>
 obtain ⟨N, hN⟩ : ∃ N, l.length = N := ⟨_, rfl⟩
 rw [hN] at h1 h0 KM
 have HNN := Lib.hid hN
 have hlen : X.length + (codeL l X.length).length + 1 + (tailI t).length <= 1073741824 := by have := hX; simp only [restX, List.length_append, List.length_cons] at this; omega
 rw [show (Value.slice aA l.length ac) = .slice aA N ac by rw [hN]]
 clear row each hw ih hd hc hk hN
 obtain ⟨wa, hwa⟩ : ∃ wa, w.alloc (.cells #[.int .i64 10, .int .i64 dk, .int .i64 dn, .string ds, .slice dA dl dc, .string s, .int .i64 n, .slice nA nl nc, .slice aA N ac] 28) = wa := ⟨_, rfl⟩
 have hba : Below w.heap.size w wa := by rw [<- hwa]; exact (Below.refl _ _).alloc (Nat.le_refl _) _
 have hla : w.heap.size < wa.heap.size := by rw [<- hwa]; simp
 have z0 : wa.cell? ⟨w.heap.size, 0, none⟩ = some (.int .i64 10) := by rw [<- hwa]; exact za _ _ _ 0
 have z1 : wa.cell? ⟨w.heap.size, 1, none⟩ = some (.int .i64 dk) := by rw [<- hwa]; exact za _ _ _ 1
 have z2 : wa.cell? ⟨w.heap.size, 2, none⟩ = some (.int .i64 dn) := by rw [<- hwa]; exact za _ _ _ 2
 have z3 : wa.cell? ⟨w.heap.size, 3, none⟩ = some (.string ds) := by rw [<- hwa]; exact za _ _ _ 3
 have z4 : wa.cell? ⟨w.heap.size, 4, none⟩ = some (.slice dA dl dc) := by rw [<- hwa]; exact za _ _ _ 4
 have z5 : wa.cell? ⟨w.heap.size, 5, none⟩ = some (.string s) := by rw [<- hwa]; exact za _ _ _ 5
 have z6 : wa.cell? ⟨w.heap.size, 6, none⟩ = some (.int .i64 n) := by rw [<- hwa]; exact za _ _ _ 6
 have z7 : wa.cell? ⟨w.heap.size, 7, none⟩ = some (.slice nA nl nc) := by rw [<- hwa]; exact za _ _ _ 7
 have z8 : wa.cell? ⟨w.heap.size, 8, none⟩ = some (.slice aA N ac) := by rw [<- hwa]; exact za _ _ _ 8
 have HWA := Lib.hid hwa
 have HBA := Lib.hid hba
 have HM := Lib.hid hm
 have HMA := Lib.hid (hm.new hba)
 have HX := Lib.hid hX
 clear hwa hba hm hX
 cases t with
 | false =>
  go_enter Tryz.func32, Tryz.ntmps32
  go_upto_region 1 with fail
  rw [HWA.out]
  go_wp2_with fail
  refine (KM.out wa HBA.out (by omega)).mono ?_
  rintro e w2 ⟨rfl, v2, hm2, hv2⟩
  rw [<- HNN.out] at hm2
  have HM2 := Lib.hid hm2
  have HV2 := Lib.hid hv2
  clear hm2 hv2
  go_wp2_with fail
  exact bodyPost_end (v := .tuple #[]) (results_none rfl _ _ _) rfl ⟨rfl, _, by simpa [restX, tailI] using HM2.out, (Mv.new HBA.out).trans HV2.out⟩
 | true =>
  go_enter Tryz.func32, Tryz.ntmps32
  go_upto_region 1 with fail
  rw [HWA.out]
  go_wp2_with fail
  refine (KM.out wa HBA.out (by omega)).mono ?_
  rintro e w2 ⟨rfl, v2, hm2, hv2⟩
  rw [<- HNN.out] at hm2
  have HM2 := Lib.hid hm2
  have HV2 := Lib.hid hv2
  clear hm2 hv2
  go_wp2_with fail
  refine (emit_any HM2.out (by simp [tailI] at hlen ⊢; omega) retI).mono ?_
  rintro e w9 ⟨rfl, v9, hm9, hv9⟩
  go_wp2_with fail
  exact bodyPost_end (v := .tuple #[]) (results_none rfl _ _ _) rfl ⟨rfl, _, by simpa [restX, tailI] using hm9, (Mv.new HBA.out).trans (HV2.out.trans hv9)⟩
set_option maxHeartbeats 8000000 in
theorem rest_ite_true (a1 a2 a3 : Px) (ih : ∀ y, countX y < countX (.ite a1 a2 a3) -> ExprSays y) : ∀ (W0 w : World) (B M o : Nat) (v : Value) (X : List IV) (cs : List Value) (q : Nat), PxIn W0 cs (.ite a1 a2 a3) q -> PxW o (.ite a1 a2 a3) -> Mk W0 w M o v X -> X.length + (restX (.ite a1 a2 a3) true X.length).length <= 1073741824 →
  Calls Tryz.prog 32 #[.pointer (some ⟨B, 0, none⟩), .pointer (some ⟨M, 0, none⟩), .agg cs.toArray, .bool true] w (MkPost w M o v (X ++ restX (.ite a1 a2 a3) true X.length) (.tuple #[])) := fun W0 w B M o v X cs q hin hw hm hX => by
 cases hin with
 | ite dk dn ds dA dl dc _ hd s n nA nl nc aA ac h1 h2 c0 c1 c2 row _ _ _ k0 k1 k2 e0 e1 e2 =>
 cases hw with
 | ite _ _ _ hw1 hw2 hw3 =>
 have hac : ac <= 9223372036854775807 := by unfold maxLen at h2; omega
 have hac0 : (0 : Int) < (ac : Int) := by omega
 have hac1 : (1 : Int) < (ac : Int) := by omega
 have hac2 : (2 : Int) < (ac : Int) := by omega
 have i1 := ih a1 (by rw [countX]; omega)
 have i2 := ih a2 (by rw [countX]; omega)
 have i3 := ih a3 (by rw [countX]; omega)
 obtain ⟨b, o2, hAb, hbw, hrow⟩ := row (by simp)
 subst hAb
 obtain ⟨pk, pdk, pdn, pds, pdA, pdl, pdc, ps, pn, pnA, pnl, pnc, paA, pal, pac, rfl⟩ := e0.form
 obtain ⟨qk, qdk, qdn, qds, qdA, qdl, qdc, qs, qn, qnA, qnl, qnc, qaA, qal, qac, rfl⟩ := e1.form
 obtain ⟨rk, rdk, rdn, rds, rdA, rdl, rdc, rs, rn, rnA, rnl, rnc, raA, ral, rac, rfl⟩ := e2.form
 have KR := Lib.hid (show ∀ W, Below W0.heap.size W0 W -> RowAt W b o2 _ /\ RowAt W b (o2 + 9) _ /\ RowAt W b (o2 + 18) _ from fun W hW => ⟨fun j hj => (hW.cell (p := ⟨b, _, none⟩) hbw).trans (by have := hrow 0 (by simp) j hj; simpa using this), fun j hj => (hW.cell (p := ⟨b, _, none⟩) hbw).trans (by have := hrow 1 (by simp) j hj; simpa using this), fun j hj => (hW.cell (p := ⟨b, _, none⟩) hbw).trans (by have := hrow 2 (by simp) j hj; simpa using this)⟩)
 have I1 := Lib.hid i1
 have I2 := Lib.hid i2
 have I3 := Lib.hid i3
 have E0 := Lib.hid e0
 have E1 := Lib.hid e1
 have E2 := Lib.hid e2
 have HW := Lib.hid (And.intro hw1 (And.intro hw2 hw3))
 obtain ⟨ca, hca⟩ : ∃ ca, codeX a1 false X.length = ca := ⟨_, rfl⟩
 obtain ⟨cb, hcb⟩ : ∃ cb, codeX a2 true (X.length + ca.length + 1) = cb := ⟨_, rfl⟩
 obtain ⟨cc, hcc⟩ : ∃ cc, codeX a3 true (X.length + ca.length + 1 + cb.length + 0) = cc := ⟨_, rfl⟩
 have hlen : X.length + (ca.length + 1 + (cb.length + 0 + cc.length)) <= 1073741824 := by
  have := hX
  simp only [restX, hca] at this
  simp only [hcb, if_true] at this
  simp only [hcc, List.length_append, List.length_cons, List.length_nil] at this
  omega
 have hres : X ++ restX (.ite a1 a2 a3) true X.length = X ++ (ca ++ elseI (X.length + ca.length + 1 + cb.length + 0) :: (cb ++ [] ++ cc)) := by
  simp only [restX, hca]
  simp only [hcb, if_true]
  simp only [hcc]
 rw [hres]
 have HCA := Lib.hid hca
 have HCB := Lib.hid hcb
 have HCC := Lib.hid hcc
 clear hca hcb hcc hres i1 i2 i3 e0 e1 e2 hw1 hw2 hw3 ih row hrow hd
 obtain ⟨wa, hwa⟩ : ∃ wa, w.alloc (.cells #[.int .i64 4, .int .i64 dk, .int .i64 dn, .string ds, .slice dA dl dc, .string s, .int .i64 n, .slice nA nl nc, .slice (some ⟨b, o2, none⟩) 3 ac] 28) = wa := ⟨_, rfl⟩
 have hba : Below w.heap.size w wa := by rw [<- hwa]; exact (Below.refl _ _).alloc (Nat.le_refl _) _
 have hla : w.heap.size < wa.heap.size := by rw [<- hwa]; simp
 have z0 : wa.cell? ⟨w.heap.size, 0, none⟩ = some (.int .i64 4) := by rw [<- hwa]; exact za _ _ _ 0
 have z8 : wa.cell? ⟨w.heap.size, 8, none⟩ = some (.slice (some ⟨b, o2, none⟩) 3 ac) := by rw [<- hwa]; exact za _ _ _ 8
 have HWA := Lib.hid hwa
 have HBA := Lib.hid hba
 have HM := Lib.hid hm
 have HMA := Lib.hid (hm.new hba)
 have HX := Lib.hid hX
 clear hwa hba hm hX
 have hr0 := (KR.out wa HMA.out.old).1
 have x00 := hr0 0 (by simp)
 have x01 := hr0 1 (by simp)
 have x02 := hr0 2 (by simp)
 have x03 := hr0 3 (by simp)
 have x04 := hr0 4 (by simp)
 have x05 := hr0 5 (by simp)
 have x06 := hr0 6 (by simp)
 have x07 := hr0 7 (by simp)
 have x08 := hr0 8 (by simp)
 simp only [List.getElem?_cons_zero, List.getElem?_cons_succ, Nat.add_zero] at x00 x01 x02 x03 x04 x05 x06 x07 x08
 clear hr0
 go_enter Tryz.func32, Tryz.ntmps32
 go_upto_region 1 with fail
 rw [HWA.out]
 go_wp2_with fail
 refine (I1.out W0 wa B M o v X _ k0 false E0.out HW.out.1 HMA.out (by rw [HCA.out]; omega)).mono ?_
 rintro e w2 ⟨rfl, v2, hm2, hv2⟩
 rw [HCA.out] at hm2
 obtain ⟨P, hP⟩ : ∃ P, X ++ ca = P := ⟨_, rfl⟩
 rw [hP] at hm2
 have HPL := Lib.hid (show P.length = X.length + ca.length by rw [<- hP, List.length_append])
 have HPP := Lib.hid hP
 have HM2 := Lib.hid (HMA.out.step hm2 hv2)
 have HV2 := Lib.hid hv2
 clear hm2 hv2 hP
 have z8_2 := (HM.out.keep HBA.out HV2.out 8 (Nat.le_refl _) hla).trans z8
 go_wp2_with fail
 refine (emit_any HM2.out.at_ (by rw [HPL.out]; omega) (elseI 0)).mono ?_
 rintro e w3 ⟨rfl, v3, hm3, hv3⟩
 have HM3 := Lib.hid (HM2.out.step hm3 hv3)
 have HV3 := Lib.hid (HV2.out.trans hv3)
 clear hm3 hv3
 have z8_3 := (HM.out.keep HBA.out HV3.out 8 (Nat.le_refl _) hla).trans z8
 have hr1 := (KR.out w3 HM3.out.old).2.1
 have x10 := hr1 0 (by simp)
 have x11 := hr1 1 (by simp)
 have x12 := hr1 2 (by simp)
 have x13 := hr1 3 (by simp)
 have x14 := hr1 4 (by simp)
 have x15 := hr1 5 (by simp)
 have x16 := hr1 6 (by simp)
 have x17 := hr1 7 (by simp)
 have x18 := hr1 8 (by simp)
 simp only [List.getElem?_cons_zero, List.getElem?_cons_succ, Nat.add_zero, Nat.add_assoc, Nat.reduceAdd] at x10 x11 x12 x13 x14 x15 x16 x17 x18
 clear hr1
 have HL3 := Lib.hid (show (P ++ [elseI 0]).length = X.length + ca.length + 1 by rw [List.length_append, HPL.out]; rfl)
 go_wp2_with fail
 refine (I2.out W0 w3 B M o v3 (P ++ [elseI 0]) _ k1 true E1.out HW.out.2.1 HM3.out (by rw [HL3.out, HCB.out]; omega)).mono ?_
 rintro e w4 ⟨rfl, v4, hm4, hv4⟩
 rw [HL3.out, HCB.out] at hm4
 obtain ⟨Q, hQ⟩ : ∃ Q, P ++ [elseI 0] ++ cb = Q := ⟨_, rfl⟩
 rw [hQ] at hm4
 have HQL := Lib.hid (show Q.length = X.length + ca.length + 1 + cb.length by rw [<- hQ, List.length_append, HL3.out])
 have HQQ := Lib.hid hQ
 have HM4 := Lib.hid (HM3.out.step hm4 hv4)
 have HV4 := Lib.hid (HV3.out.trans hv4)
 clear hm4 hv4 hQ
 have hmh : MkAt w4 M o v4 (P ++ elseI 0 :: cb) := by have := HM4.out.at_; rw [show P ++ elseI 0 :: cb = Q by rw [<- HQQ.out]; simp]; exact this
 have hh := here_any hmh
 rw [show ((P ++ elseI 0 :: cb).length : Int) = ((X.length + ca.length + 1 + cb.length + 0 : Nat) : Int) by rw [List.length_append, HPL.out]; simp only [List.length_cons]; omega] at hh
 have HH := Lib.hid hh
 clear hmh hh
 go_wp2_with fail
 refine HH.out.mono ?_
 rintro e w6 ⟨rfl, v6, hm6, hv6⟩
 have hm6' : MkAt w6 M o v6 (P ++ elseI (X.length + ca.length + 1 + cb.length + 0) :: cb) := hm6
 obtain ⟨T, hT⟩ : ∃ T, P ++ elseI (X.length + ca.length + 1 + cb.length + 0) :: cb = T := ⟨_, rfl⟩
 rw [hT] at hm6'
 have HL6 := Lib.hid (show T.length = X.length + ca.length + 1 + cb.length + 0 by rw [<- hT, List.length_append, HPL.out]; simp only [List.length_cons]; omega)
 have HTT := Lib.hid hT
 have HM6 := Lib.hid (HM4.out.step hm6' hv6)
 have HV6 := Lib.hid (HV4.out.trans hv6)
 clear hm6 hv6 hm6' hT
 have z8_6 := (HM.out.keep HBA.out HV6.out 8 (Nat.le_refl _) hla).trans z8
 have hr2 := (KR.out w6 HM6.out.old).2.2
 have x20 := hr2 0 (by simp)
 have x21 := hr2 1 (by simp)
 have x22 := hr2 2 (by simp)
 have x23 := hr2 3 (by simp)
 have x24 := hr2 4 (by simp)
 have x25 := hr2 5 (by simp)
 have x26 := hr2 6 (by simp)
 have x27 := hr2 7 (by simp)
 have x28 := hr2 8 (by simp)
 simp only [List.getElem?_cons_zero, List.getElem?_cons_succ, Nat.add_zero, Nat.add_assoc, Nat.reduceAdd] at x20 x21 x22 x23 x24 x25 x26 x27 x28
 clear hr2
 go_wp2_with fail
 refine (I3.out W0 w6 B M o v6 T _ k2 true E2.out HW.out.2.2 HM6.out (by rw [HL6.out, HCC.out]; omega)).mono ?_
 rintro e w7 ⟨rfl, v7, hm7, hv7⟩
 rw [HL6.out, HCC.out] at hm7
 have HM7 := Lib.hid (HM6.out.step hm7 hv7)
 have HV7 := Lib.hid (HV6.out.trans hv7)
 clear hm7 hv7
 go_wp2_with fail
 exact bodyPost_ret (v := .tuple #[]) (results_none rfl _ _ _) rfl ⟨rfl, _, by have := HM7.out.at_; rw [<- HTT.out, <- HPP.out] at this; simpa using this, (Mv.new HBA.out).trans HV7.out⟩
set_option maxHeartbeats 8000000 in
theorem rest_ite_false (a1 a2 a3 : Px) (ih : ∀ y, countX y < countX (.ite a1 a2 a3) -> ExprSays y) : ∀ (W0 w : World) (B M o : Nat) (v : Value) (X : List IV) (cs : List Value) (q : Nat), PxIn W0 cs (.ite a1 a2 a3) q -> PxW o (.ite a1 a2 a3) -> Mk W0 w M o v X -> X.length + (restX (.ite a1 a2 a3) false X.length).length <= 1073741824 →
  Calls Tryz.prog 32 #[.pointer (some ⟨B, 0, none⟩), .pointer (some ⟨M, 0, none⟩), .agg cs.toArray, .bool false] w (MkPost w M o v (X ++ restX (.ite a1 a2 a3) false X.length) (.tuple #[])) := fun W0 w B M o v X cs q hin hw hm hX => by
 cases hin with
 | ite dk dn ds dA dl dc _ hd s n nA nl nc aA ac h1 h2 c0 c1 c2 row _ _ _ k0 k1 k2 e0 e1 e2 =>
 cases hw with
 | ite _ _ _ hw1 hw2 hw3 =>
 have hac : ac <= 9223372036854775807 := by unfold maxLen at h2; omega
 have hac0 : (0 : Int) < (ac : Int) := by omega
 have hac1 : (1 : Int) < (ac : Int) := by omega
 have hac2 : (2 : Int) < (ac : Int) := by omega
 have i1 := ih a1 (by rw [countX]; omega)
 have i2 := ih a2 (by rw [countX]; omega)
 have i3 := ih a3 (by rw [countX]; omega)
 obtain ⟨b, o2, hAb, hbw, hrow⟩ := row (by simp)
 subst hAb
 obtain ⟨pk, pdk, pdn, pds, pdA, pdl, pdc, ps, pn, pnA, pnl, pnc, paA, pal, pac, rfl⟩ := e0.form
 obtain ⟨qk, qdk, qdn, qds, qdA, qdl, qdc, qs, qn, qnA, qnl, qnc, qaA, qal, qac, rfl⟩ := e1.form
 obtain ⟨rk, rdk, rdn, rds, rdA, rdl, rdc, rs, rn, rnA, rnl, rnc, raA, ral, rac, rfl⟩ := e2.form
 have KR := Lib.hid (show ∀ W, Below W0.heap.size W0 W -> RowAt W b o2 _ /\ RowAt W b (o2 + 9) _ /\ RowAt W b (o2 + 18) _ from fun W hW => ⟨fun j hj => (hW.cell (p := ⟨b, _, none⟩) hbw).trans (by have := hrow 0 (by simp) j hj; simpa using this), fun j hj => (hW.cell (p := ⟨b, _, none⟩) hbw).trans (by have := hrow 1 (by simp) j hj; simpa using this), fun j hj => (hW.cell (p := ⟨b, _, none⟩) hbw).trans (by have := hrow 2 (by simp) j hj; simpa using this)⟩)
 have I1 := Lib.hid i1
 have I2 := Lib.hid i2
 have I3 := Lib.hid i3
 have E0 := Lib.hid e0
 have E1 := Lib.hid e1
 have E2 := Lib.hid e2
 have HW := Lib.hid (And.intro hw1 (And.intro hw2 hw3))
 obtain ⟨ca, hca⟩ : ∃ ca, codeX a1 false X.length = ca := ⟨_, rfl⟩
 obtain ⟨cb, hcb⟩ : ∃ cb, codeX a2 false (X.length + ca.length + 1) = cb := ⟨_, rfl⟩
 obtain ⟨cc, hcc⟩ : ∃ cc, codeX a3 false (X.length + ca.length + 1 + cb.length + 1) = cc := ⟨_, rfl⟩
 have hlen : X.length + (ca.length + 1 + (cb.length + 1 + cc.length)) <= 1073741824 := by
  have := hX
  simp only [restX, hca] at this
  simp only [hcb, Bool.false_eq_true, if_false] at this
  simp only [hcc, List.length_append, List.length_cons, List.length_nil] at this
  omega
 have hres : X ++ restX (.ite a1 a2 a3) false X.length = X ++ (ca ++ elseI (X.length + ca.length + 1 + cb.length + 1) :: (cb ++ [jumpI (X.length + ca.length + 1 + cb.length + 1 + cc.length)] ++ cc)) := by
  simp only [restX, hca]
  simp only [hcb, Bool.false_eq_true, if_false]
  simp only [hcc]
 rw [hres]
 have HCA := Lib.hid hca
 have HCB := Lib.hid hcb
 have HCC := Lib.hid hcc
 clear hca hcb hcc hres i1 i2 i3 e0 e1 e2 hw1 hw2 hw3 ih row hrow hd
 obtain ⟨wa, hwa⟩ : ∃ wa, w.alloc (.cells #[.int .i64 4, .int .i64 dk, .int .i64 dn, .string ds, .slice dA dl dc, .string s, .int .i64 n, .slice nA nl nc, .slice (some ⟨b, o2, none⟩) 3 ac] 28) = wa := ⟨_, rfl⟩
 have hba : Below w.heap.size w wa := by rw [<- hwa]; exact (Below.refl _ _).alloc (Nat.le_refl _) _
 have hla : w.heap.size < wa.heap.size := by rw [<- hwa]; simp
 have z0 : wa.cell? ⟨w.heap.size, 0, none⟩ = some (.int .i64 4) := by rw [<- hwa]; exact za _ _ _ 0
 have z8 : wa.cell? ⟨w.heap.size, 8, none⟩ = some (.slice (some ⟨b, o2, none⟩) 3 ac) := by rw [<- hwa]; exact za _ _ _ 8
 have HWA := Lib.hid hwa
 have HBA := Lib.hid hba
 have HM := Lib.hid hm
 have HMA := Lib.hid (hm.new hba)
 have HX := Lib.hid hX
 clear hwa hba hm hX
 have hr0 := (KR.out wa HMA.out.old).1
 have x00 := hr0 0 (by simp)
 have x01 := hr0 1 (by simp)
 have x02 := hr0 2 (by simp)
 have x03 := hr0 3 (by simp)
 have x04 := hr0 4 (by simp)
 have x05 := hr0 5 (by simp)
 have x06 := hr0 6 (by simp)
 have x07 := hr0 7 (by simp)
 have x08 := hr0 8 (by simp)
 simp only [List.getElem?_cons_zero, List.getElem?_cons_succ, Nat.add_zero] at x00 x01 x02 x03 x04 x05 x06 x07 x08
 clear hr0
 go_enter Tryz.func32, Tryz.ntmps32
 go_upto_region 1 with fail
 rw [HWA.out]
 go_wp2_with fail
 refine (I1.out W0 wa B M o v X _ k0 false E0.out HW.out.1 HMA.out (by rw [HCA.out]; omega)).mono ?_
 rintro e w2 ⟨rfl, v2, hm2, hv2⟩
 rw [HCA.out] at hm2
 obtain ⟨P, hP⟩ : ∃ P, X ++ ca = P := ⟨_, rfl⟩
 rw [hP] at hm2
 have HPL := Lib.hid (show P.length = X.length + ca.length by rw [<- hP, List.length_append])
 have HPP := Lib.hid hP
 have HM2 := Lib.hid (HMA.out.step hm2 hv2)
 have HV2 := Lib.hid hv2
 clear hm2 hv2 hP
 have z8_2 := (HM.out.keep HBA.out HV2.out 8 (Nat.le_refl _) hla).trans z8
 go_wp2_with fail
 refine (emit_any HM2.out.at_ (by rw [HPL.out]; omega) (elseI 0)).mono ?_
 rintro e w3 ⟨rfl, v3, hm3, hv3⟩
 have HM3 := Lib.hid (HM2.out.step hm3 hv3)
 have HV3 := Lib.hid (HV2.out.trans hv3)
 clear hm3 hv3
 have z8_3 := (HM.out.keep HBA.out HV3.out 8 (Nat.le_refl _) hla).trans z8
 have hr1 := (KR.out w3 HM3.out.old).2.1
 have x10 := hr1 0 (by simp)
 have x11 := hr1 1 (by simp)
 have x12 := hr1 2 (by simp)
 have x13 := hr1 3 (by simp)
 have x14 := hr1 4 (by simp)
 have x15 := hr1 5 (by simp)
 have x16 := hr1 6 (by simp)
 have x17 := hr1 7 (by simp)
 have x18 := hr1 8 (by simp)
 simp only [List.getElem?_cons_zero, List.getElem?_cons_succ, Nat.add_zero, Nat.add_assoc, Nat.reduceAdd] at x10 x11 x12 x13 x14 x15 x16 x17 x18
 clear hr1
 have HL3 := Lib.hid (show (P ++ [elseI 0]).length = X.length + ca.length + 1 by rw [List.length_append, HPL.out]; rfl)
 go_wp2_with fail
 refine (I2.out W0 w3 B M o v3 (P ++ [elseI 0]) _ k1 false E1.out HW.out.2.1 HM3.out (by rw [HL3.out, HCB.out]; omega)).mono ?_
 rintro e w4 ⟨rfl, v4, hm4, hv4⟩
 rw [HL3.out, HCB.out] at hm4
 obtain ⟨Q, hQ⟩ : ∃ Q, P ++ [elseI 0] ++ cb = Q := ⟨_, rfl⟩
 rw [hQ] at hm4
 have HQL := Lib.hid (show Q.length = X.length + ca.length + 1 + cb.length by rw [<- hQ, List.length_append, HL3.out])
 have HQQ := Lib.hid hQ
 have HM4 := Lib.hid (HM3.out.step hm4 hv4)
 have HV4 := Lib.hid (HV3.out.trans hv4)
 clear hm4 hv4 hQ
 go_wp2_with fail
 refine (emit_any HM4.out.at_ (by rw [HQL.out]; omega) (jumpI 0)).mono ?_
 rintro e w5 ⟨rfl, v5, hm5, hv5⟩
 have HM5 := Lib.hid (HM4.out.step hm5 hv5)
 have HV5 := Lib.hid (HV4.out.trans hv5)
 clear hm5 hv5
 have hmh : MkAt w5 M o v5 (P ++ elseI 0 :: (cb ++ [jumpI 0])) := by have := HM5.out.at_; rw [show P ++ elseI 0 :: (cb ++ [jumpI 0]) = Q ++ [jumpI 0] by rw [<- HQQ.out]; simp]; exact this
 have hh := here_any hmh
 rw [show ((P ++ elseI 0 :: (cb ++ [jumpI 0])).length : Int) = ((X.length + ca.length + 1 + cb.length + 1 : Nat) : Int) by rw [List.length_append, HPL.out]; simp only [List.length_append, List.length_cons, List.length_nil]; omega] at hh
 have HH := Lib.hid hh
 clear hmh hh
 go_wp2_with fail
 refine HH.out.mono ?_
 rintro e w6 ⟨rfl, v6, hm6, hv6⟩
 have hm6' : MkAt w6 M o v6 (P ++ elseI (X.length + ca.length + 1 + cb.length + 1) :: (cb ++ [jumpI 0])) := hm6
 obtain ⟨T, hT⟩ : ∃ T, P ++ elseI (X.length + ca.length + 1 + cb.length + 1) :: (cb ++ [jumpI 0]) = T := ⟨_, rfl⟩
 rw [hT] at hm6'
 have HL6 := Lib.hid (show T.length = X.length + ca.length + 1 + cb.length + 1 by rw [<- hT, List.length_append, HPL.out]; simp only [List.length_append, List.length_cons, List.length_nil]; omega)
 have HTT := Lib.hid hT
 have HM6 := Lib.hid (HM5.out.step hm6' hv6)
 have HV6 := Lib.hid (HV5.out.trans hv6)
 clear hm6 hv6 hm6' hT
 have z8_6 := (HM.out.keep HBA.out HV6.out 8 (Nat.le_refl _) hla).trans z8
 have hr2 := (KR.out w6 HM6.out.old).2.2
 have x20 := hr2 0 (by simp)
 have x21 := hr2 1 (by simp)
 have x22 := hr2 2 (by simp)
 have x23 := hr2 3 (by simp)
 have x24 := hr2 4 (by simp)
 have x25 := hr2 5 (by simp)
 have x26 := hr2 6 (by simp)
 have x27 := hr2 7 (by simp)
 have x28 := hr2 8 (by simp)
 simp only [List.getElem?_cons_zero, List.getElem?_cons_succ, Nat.add_zero, Nat.add_assoc, Nat.reduceAdd] at x20 x21 x22 x23 x24 x25 x26 x27 x28
 clear hr2
 go_wp2_with fail
 refine (I3.out W0 w6 B M o v6 T _ k2 false E2.out HW.out.2.2 HM6.out (by rw [HL6.out, HCC.out]; omega)).mono ?_
 rintro e w7 ⟨rfl, v7, hm7, hv7⟩
 rw [HL6.out, HCC.out] at hm7
 have HM7 := Lib.hid (HM6.out.step hm7 hv7)
 have HV7 := Lib.hid (HV6.out.trans hv7)
 clear hm7 hv7
 have hmj : MkAt w7 M o v7 ((P ++ elseI (X.length + ca.length + 1 + cb.length + 1) :: cb) ++ jumpI 0 :: cc) := by have := HM7.out.at_; rw [<- HTT.out] at this; rw [show (P ++ elseI (X.length + ca.length + 1 + cb.length + 1) :: cb) ++ jumpI 0 :: cc = P ++ elseI (X.length + ca.length + 1 + cb.length + 1) :: (cb ++ [jumpI 0]) ++ cc by simp]; exact this
 have hj := here_any hmj
 rw [show ((P ++ elseI (X.length + ca.length + 1 + cb.length + 1) :: cb).length : Int) = (Q.length : Int) by rw [HQL.out, List.length_append, HPL.out]; simp only [List.length_cons]; omega, show (((P ++ elseI (X.length + ca.length + 1 + cb.length + 1) :: cb) ++ jumpI 0 :: cc).length : Int) = ((X.length + ca.length + 1 + cb.length + 1 + cc.length : Nat) : Int) by rw [List.length_append, List.length_append, HPL.out]; simp only [List.length_cons]; omega] at hj
 have HJ := Lib.hid hj
 clear hmj hj
 go_wp2_with fail
 refine HJ.out.mono ?_
 rintro e w8 ⟨rfl, v8, hm8, hv8⟩
 have hm8' : MkAt w8 M o v8 ((P ++ elseI (X.length + ca.length + 1 + cb.length + 1) :: cb) ++ jumpI (X.length + ca.length + 1 + cb.length + 1 + cc.length) :: cc) := hm8
 go_wp2_with fail
 exact bodyPost_ret (v := .tuple #[]) (results_none rfl _ _ _) rfl ⟨rfl, _, by have := hm8'; rw [<- HPP.out] at this; simpa using this, (Mv.new HBA.out).trans (HV7.out.trans hv8)⟩
set_option maxHeartbeats 8000000 in
theorem expr_step (x : Px) (hr : RestSays x) : ExprSays x := fun W0 w B M o v X cs q t hin hw hm hX => by
 have KR := Lib.hid (fun (W : World) (v2 : Value) (hm2 : Mk W0 W M o v2 (X ++ [tickI])) => hr W0 W B M o v2 (X ++ [tickI]) cs q t hin hw hm2 (by rw [codeX_rest] at hX; simp only [List.length_append, List.length_cons, List.length_nil, Nat.zero_add] at hX ⊢; omega))
 obtain ⟨k, dk, dn, ds, dA, dl, dc, s, n, nA, nl, nc, aA, al, ac, rfl⟩ := hin.form
 have hlen : X.length + 1 <= 1073741824 := by rw [codeX_rest] at hX; simp only [List.length_cons] at hX; omega
 have HRES := Lib.hid (show X ++ codeX x t X.length = X ++ [tickI] ++ restX x t (X ++ [tickI]).length by rw [codeX_rest]; simp)
 rw [HRES.out]
 clear hin hr hw
 obtain ⟨wa, hwa⟩ : ∃ wa, w.alloc (.cells #[.int .i64 k, .int .i64 dk, .int .i64 dn, .string ds, .slice dA dl dc, .string s, .int .i64 n, .slice nA nl nc, .slice aA al ac] 28) = wa := ⟨_, rfl⟩
 have hba : Below w.heap.size w wa := by rw [<- hwa]; exact (Below.refl _ _).alloc (Nat.le_refl _) _
 have hla : w.heap.size < wa.heap.size := by rw [<- hwa]; simp
 have z0 : wa.cell? ⟨w.heap.size, 0, none⟩ = some (.int .i64 k) := by rw [<- hwa]; exact za _ _ _ 0
 have z1 : wa.cell? ⟨w.heap.size, 1, none⟩ = some (.int .i64 dk) := by rw [<- hwa]; exact za _ _ _ 1
 have z2 : wa.cell? ⟨w.heap.size, 2, none⟩ = some (.int .i64 dn) := by rw [<- hwa]; exact za _ _ _ 2
 have z3 : wa.cell? ⟨w.heap.size, 3, none⟩ = some (.string ds) := by rw [<- hwa]; exact za _ _ _ 3
 have z4 : wa.cell? ⟨w.heap.size, 4, none⟩ = some (.slice dA dl dc) := by rw [<- hwa]; exact za _ _ _ 4
 have z5 : wa.cell? ⟨w.heap.size, 5, none⟩ = some (.string s) := by rw [<- hwa]; exact za _ _ _ 5
 have z6 : wa.cell? ⟨w.heap.size, 6, none⟩ = some (.int .i64 n) := by rw [<- hwa]; exact za _ _ _ 6
 have z7 : wa.cell? ⟨w.heap.size, 7, none⟩ = some (.slice nA nl nc) := by rw [<- hwa]; exact za _ _ _ 7
 have z8 : wa.cell? ⟨w.heap.size, 8, none⟩ = some (.slice aA al ac) := by rw [<- hwa]; exact za _ _ _ 8
 have HWA := Lib.hid hwa
 have HBA := Lib.hid hba
 have HM := Lib.hid hm
 have HMA := Lib.hid (hm.new hba)
 have HX := Lib.hid hX
 clear hwa hba hm hX
 go_enter Tryz.func13, Tryz.ntmps13
 go_upto_region 1 with fail
 rw [HWA.out]
 go_wp2_with fail
 refine (emit_any HMA.out.at_ (by omega) tickI).mono ?_
 rintro e w2 ⟨rfl, v2, hm2, hv2⟩
 have HM2 := Lib.hid (HMA.out.step hm2 hv2)
 have HV2 := Lib.hid hv2
 clear hm2 hv2
 have z0_2 := (HM.out.keep HBA.out HV2.out 0 (Nat.le_refl _) hla).trans z0
 have z1_2 := (HM.out.keep HBA.out HV2.out 1 (Nat.le_refl _) hla).trans z1
 have z2_2 := (HM.out.keep HBA.out HV2.out 2 (Nat.le_refl _) hla).trans z2
 have z3_2 := (HM.out.keep HBA.out HV2.out 3 (Nat.le_refl _) hla).trans z3
 have z4_2 := (HM.out.keep HBA.out HV2.out 4 (Nat.le_refl _) hla).trans z4
 have z5_2 := (HM.out.keep HBA.out HV2.out 5 (Nat.le_refl _) hla).trans z5
 have z6_2 := (HM.out.keep HBA.out HV2.out 6 (Nat.le_refl _) hla).trans z6
 have z7_2 := (HM.out.keep HBA.out HV2.out 7 (Nat.le_refl _) hla).trans z7
 have z8_2 := (HM.out.keep HBA.out HV2.out 8 (Nat.le_refl _) hla).trans z8
 go_wp2_with fail
 refine (KR.out w2 v2 HM2.out).mono ?_
 rintro e w3 ⟨rfl, v3, hm3, hv3⟩
 go_wp2_with fail
 exact bodyPost_end (v := .tuple #[]) (results_none rfl _ _ _) rfl ⟨rfl, _, hm3, (Mv.new HBA.out).trans (HV2.out.trans hv3)⟩
theorem expr_says : (n : Nat) -> ∀ x, countX x <= n -> ExprSays x
 | 0, x, h => by
  have h1 : 1 <= countX x := by
   cases x with
   | const d => cases d; rw [countX, countD]; omega
   | was i => rw [countX]; omega
   | ite a b c => rw [countX]; omega
   | prim s l => rw [countX]; omega
  omega
 | n + 1, x, h => expr_step x (by
  have ih : ∀ y, countX y < countX x -> ExprSays y := fun y hy => expr_says n y (by omega)
  cases x with
  | const d => exact rest_const d
  | was i => exact rest_was i
  | ite a b c =>
   intro W0 w B M o v X cs q t h1 h2 h3 h4
   cases t
   ·
    exact rest_ite_false a b c ih W0 w B M o v X cs q h1 h2 h3 h4
   exact rest_ite_true a b c ih W0 w B M o v X cs q h1 h2 h3 h4
  | prim s l => exact rest_prim s l ih)
end Go.Proofs.YtfhbdlobhjegcaaGreatDoor
