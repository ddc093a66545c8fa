import Derived.Test.YtfhbdlobhjegcaaGreatDoorSi
import Derived.Test.YtfhbdlobhjegcaaGreatDoorGQno
import Derived.Test.YtfhbdlobhjegcaaGreatDoorSh
namespace Go.Proofs.YtfhbdlobhjegcaaGreatDoor
open Go.RowKit Go.ChangeShapes Go.WideShapes Go.Deep Go.ChangeAt
set_option linter.unusedVariables false
set_option maxRecDepth 20000
theorem set5_any {w w' : World} {O : Nat} {a0 a1 a2 a3 a4 b0 b1 b2 b3 b4 : Value} (h : ((((w.setCell ⟨O, 0, none⟩ a0).setCell ⟨O, 1, none⟩ a1).setCell ⟨O, 2, none⟩ a2).setCell ⟨O, 3, none⟩ a3).setCell ⟨O, 4, none⟩ a4 = w') (h0 : w.cell? ⟨O, 0, none⟩ = some b0) (h1 : w.cell? ⟨O, 1, none⟩ = some b1) (h2 : w.cell? ⟨O, 2, none⟩ = some b2) (h3 : w.cell? ⟨O, 3, none⟩ = some b3) (h4 : w.cell? ⟨O, 4, none⟩ = some b4) :
  (w'.cell? ⟨O, 0, none⟩ = some a0 /\ w'.cell? ⟨O, 1, none⟩ = some a1 /\ w'.cell? ⟨O, 2, none⟩ = some a2 /\ w'.cell? ⟨O, 3, none⟩ = some a3 /\ w'.cell? ⟨O, 4, none⟩ = some a4) /\ w.grownBy w' (some O) := by
 subst h
 exact ⟨⟨zg (zg (zg (zg (zh h0) (by decide)) (by decide)) (by decide)) (by decide), zg (zg (zg (zh (zg h1 (by decide))) (by decide)) (by decide)) (by decide), zg (zg (zh (zg (zg h2 (by decide)) (by decide))) (by decide)) (by decide), zg (zh (zg (zg (zg h3 (by decide)) (by decide)) (by decide))) (by decide), zh (zg (zg (zg (zg h4 (by decide)) (by decide)) (by decide)) (by decide))⟩,
  ((((zd _ _ _ _).trans (zd _ _ _ _)).trans (zd _ _ _ _)).trans (zd _ _ _ _)).trans (zd _ _ _ _)⟩
set_option maxHeartbeats 8000000 in
theorem shownOf_any {w : World} {F : Option Addr} {fc o : Nat} {x : Px} {A : Option Addr} {len cap : Nat} {hp : Hp} {lo hi : Nat} {k n : Int} {s : ByteArray} {v : Vl} (hF : FnsAt w F fc o x) (hA : HpAt w A len cap hp) (hx : PxW o x) (ho : o <= 6) (hlen : (codeOf x).length <= 6000) (hin : WIn hp ⟨k, n, s⟩) (hv : HV hp lo hi ⟨k, n, s⟩ v) (hok : VlOk v) (hsz : szV v <= 1073741824) :
  Calls Tryz.prog 11 #[.agg #[.slice F 2 fc, .slice none 0 0, .slice none 0 0, .slice A len cap, .int .i64 60000], .agg #[.int .i64 k, .int .i64 n, .string s]] w fun e w' => (∃ F' fc' A' cap', e = .returned (.tuple #[.agg #[.slice F' 2 fc', .slice none 0 0, .slice none 0 0, .slice A' len cap', .int .i64 60000], .string (shV decB v 1 none), .int .i64 0])) /\ Below w.heap.size w w' := by
 obtain ⟨S, hS⟩ : ∃ S, shV decB v 1 none = S := ⟨_, rfl⟩
 have KM := Lib.hid (fun (W : World) (hW : Below w.heap.size w W) => worldMay_any (hF.below hW) (hA.below hW) hx ho hlen)
 have KV := Lib.hid (fun (W : World) (hW : Below w.heap.size w W) => valueMay_any (hA.below hW).wds (by have := hA.small; omega) 60000 ⟨k, n, s⟩ (Or.inl hin))
 have KS := Lib.hid (show ∀ W, Below w.heap.size w W -> Calls Tryz.prog 28 #[.agg #[.slice F 2 fc, .slice none 0 0, .slice none 0 0, .slice A len cap, .int .i64 60000], .agg #[.int .i64 k, .int .i64 n, .string s], .int .i64 1] W (SiPost W S) from fun W hW => by
  have h := shownIn_any _ v (Nat.le_refl _) W F fc A len cap hp lo hi k n s 1 (hA.below hW) hv hok (by omega) hsz
  rw [hS] at h
  exact h)
 have KC := Lib.hid (fun (W : World) (hW : Below w.heap.size w W) => worldCopy_any 60000 (hF.below hW) (hA.below hW).wds (by have := hA.small; omega) hlen)
 rw [hS]
 obtain ⟨wb, hwb⟩ : ∃ wb, ((w.alloc (.cells #[.slice F 2 fc, .slice none 0 0, .slice none 0 0, .slice A len cap, .int .i64 60000] 46)).alloc (.cells #[.int .i64 k, .int .i64 n, .string s] 49)).alloc (.cells #[.slice none 0 0, .slice none 0 0, .slice none 0 0, .slice none 0 0, .int .i64 0] 46) = wb := ⟨_, rfl⟩
 obtain ⟨wa, hwa⟩ : ∃ wa, (w.alloc (.cells #[.slice F 2 fc, .slice none 0 0, .slice none 0 0, .slice A len cap, .int .i64 60000] 46)).alloc (.cells #[.int .i64 k, .int .i64 n, .string s] 49) = wa := ⟨_, rfl⟩
 have hxa := siBox_start w F fc A len cap k n s
 rw [hwa] at hxa
 have hsa : wa.heap.size = w.heap.size + 2 := by rw [<- hwa]; simp
 have hwb2 := hwb
 rw [hwa] at hwb2
 have hab : Below wa.heap.size wa wb := by rw [<- hwb2]; exact (Below.refl _ _).alloc (Nat.le_refl _) _
 have hxb := hxa.new hab
 have HXB := Lib.hid hxb
 have hlr : w.heap.size + 2 < wb.heap.size := by rw [<- hwb2]; simp; omega
 have KU := Lib.hid (show ∀ W, Below wb.heap.size wb W -> (W.cell? ⟨w.heap.size + 2, 0, none⟩ = some (.slice none 0 0) /\ W.cell? ⟨w.heap.size + 2, 1, none⟩ = some (.slice none 0 0) /\ W.cell? ⟨w.heap.size + 2, 2, none⟩ = some (.slice none 0 0) /\ W.cell? ⟨w.heap.size + 2, 3, none⟩ = some (.slice none 0 0) /\ W.cell? ⟨w.heap.size + 2, 4, none⟩ = some (.int .i64 0)) /\ ∀ j, W.frozen? ⟨w.heap.size + 2, j, none⟩ = false from fun W hW => by
  have a : ∀ j, W.cell? ⟨w.heap.size + 2, j, none⟩ = (#[.slice none 0 0, .slice none 0 0, .slice none 0 0, .slice none 0 0, .int .i64 0] : Array Value)[j]? := fun j => (hW.cell (p := ⟨w.heap.size + 2, j, none⟩) hlr).trans (by rw [<- hwb2, <- hsa]; exact za _ _ _ j)
  exact ⟨⟨a 0, a 1, a 2, a 3, a 4⟩, fun j => (hW.frozen (p := ⟨w.heap.size + 2, j, none⟩) hlr).trans (by rw [<- hwb2, <- hsa]; exact ze _ _ _ _)⟩)
 obtain ⟨b0, b1, b2, b3, b4⟩ := hxb.bw
 have HWB := Lib.hid hwb
 clear hF hA hx hlen hin hv hok hsz hS hwb hwa hxa hsa hwb2 hab hxb
 go_enter Tryz.func11, Tryz.ntmps11
 go_upto_region 1 with fail
 rw [show w.heap.size + 1 + 1 = w.heap.size + 2 from rfl, HWB.out]
 go_wp2_with fail
 have HX0 := HXB
 refine (KM.out wb HX0.out.below).mono ?_
 rintro e w1 ⟨rfl, hb1⟩
 have HX1 := Lib.hid (HX0.out.new hb1)
 have HB1 := Lib.hid (hb1)
 clear hb1 b0 b1 b2 b3 b4
 obtain ⟨b0, b1, b2, b3, b4⟩ := HX1.out.bw
 obtain ⟨p0, p1, p2⟩ := HX1.out.xr
 go_wp2_with fail
 refine (KV.out w1 HX1.out.below).mono ?_
 rintro e w2 ⟨rfl, hb2⟩
 have HX2 := Lib.hid (HX1.out.new hb2)
 have HB2 := Lib.hid (HB1.out.trans (hb2.mono HB1.out.size))
 clear hb2 b0 b1 b2 b3 b4 p0 p1 p2
 obtain ⟨b0, b1, b2, b3, b4⟩ := HX2.out.bw
 obtain ⟨p0, p1, p2⟩ := HX2.out.xr
 go_wp2_with fail
 refine (KS.out w2 HX2.out.below).mono ?_
 rintro e w3 ⟨rfl, hb3⟩
 have HX3 := Lib.hid (HX2.out.new hb3)
 have HB3 := Lib.hid (HB2.out.trans (hb3.mono HB2.out.size))
 clear hb3 b0 b1 b2 b3 b4 p0 p1 p2
 obtain ⟨b0, b1, b2, b3, b4⟩ := HX3.out.bw
 obtain ⟨p0, p1, p2⟩ := HX3.out.xr
 go_wp2_with fail
 refine (KC.out w3 HX3.out.below).mono ?_
 rintro e w4 ⟨F', fc', A', cap', rfl, _, _, hb4⟩
 have hx4 := HX3.out.new hb4
 have hb04 := HB3.out.trans (hb4.mono HB3.out.size)
 obtain ⟨⟨u0, u1, u2, u3, u4⟩, uf⟩ := KU.out w4 hb04
 have f0 := uf 0
 have f1 := uf 1
 have f2 := uf 2
 have f3 := uf 3
 have f4 := uf 4
 have HBL := Lib.hid hx4.below
 have S5 := Lib.hid (set5_any (a0 := .slice F' 2 fc') (a1 := .slice none 0 0) (a2 := .slice none 0 0) (a3 := .slice A' len cap') (a4 := .int .i64 60000) rfl u0 u1 u2 u3 u4)
 clear hb4 hx4 hb04 uf b0 b1 b2 b3 b4 p0 p1 p2
 go_wp2_with fail
 obtain ⟨⟨s0, s1, s2, s3, s4⟩, hg⟩ := S5.out
 refine bodyPost_ret (v := .tuple #[.agg #[.slice F' 2 fc', .slice none 0 0, .slice none 0 0, .slice A' len cap', .int .i64 60000], .string S, .int .i64 0]) (by simp [results, Tryz.results11, go_sem, s0, s1, s2, s3, s4]) rfl ?_
 exact ⟨⟨F', fc', A', cap', rfl⟩, zp HBL.out (by omega) hg⟩
/- The law's small functions: contracts of data, exprs, nums, worldWith. -/
theorem countDs_take (l : List Dt) (k : Nat) (hk : k < l.length) : countDs (l.take (k + 1)) = countDs (l.take k) + countD l[k] := by
 induction l generalizing k with
 | nil => exact absurd hk (by simp)
 | cons a l ih =>
  cases k with
  | zero => simp [countDs]
  | succ k =>
   have hk' : k < l.length := by simpa using hk
   rw [List.take_succ_cons, List.take_succ_cons, countDs, countDs, ih k hk', Nat.add_assoc]
   rfl
theorem countDs_take_le (l : List Dt) (k : Nat) : countDs (l.take k) <= countDs l := by
 induction l generalizing k with
 | nil => simp
 | cons a l ih =>
  cases k with
  | zero => simp [countDs]
  | succ k =>
   rw [List.take_succ_cons, countDs, countDs]
   have := ih k
   omega
def DaSays (n : Nat) : Prop := ∀ (W0 w : World) (cs : List Value) (d : Dt), countD d <= n -> n <= 1099511627776 -> DtIn W0 0 W0.heap.size cs d -> Below W0.heap.size W0 w →
  Calls Tryz.prog 16 #[.agg cs.toArray] w fun e w' => e = .returned (.int .i64 (countD d)) /\ Below w.heap.size w w'
set_option maxHeartbeats 4000000 in
theorem data_any : (n : Nat) -> DaSays n
 | 0 => fun W0 w cs d hn _ hin hold => by
  cases d
  rw [countD] at hn
  omega
 | r + 1 => fun W0 w cs d hn hr hin hold => by
  have ih := data_any r
  cases hin with
  | mk k n s A cap l cs hl h1 h2 row each =>
  have hcap : cap <= 9223372036854775807 := by unfold maxLen at h2; omega
  obtain ⟨wb, hwb⟩ : ∃ wb, w.alloc (.cells #[.int .i64 k, .int .i64 n, .string s, .slice A l.length cap] 24) = wb := ⟨_, rfl⟩
  have hb : Below w.heap.size w wb := by rw [<- hwb]; exact (Below.refl _ _).alloc (Nat.le_refl _) _
  have hbl : w.heap.size < wb.heap.size := by rw [<- hwb]; simp
  have z3 : wb.cell? ⟨w.heap.size, 3, none⟩ = some (.slice A l.length cap) := by rw [<- hwb]; exact za _ _ _ 3
  have hct : countD (.mk k n s l) = 1 + countDs l := by rw [countD]
  have hcn : countDs l <= r := by rw [countD] at hn; omega
  have HCT := Lib.hid hct
  have HROW := Lib.hid row
  have HEACH := Lib.hid each
  have HIH := Lib.hid ih
  have HOLD := Lib.hid hold
  obtain ⟨N, hN⟩ : ∃ N, l.length = N := ⟨_, rfl⟩
  have HNN := Lib.hid hN
  rw [hN] at hwb z3 h1 ⊢
  have HWB := Lib.hid hwb
  have HB := Lib.hid hb
  have HCN := Lib.hid hcn
  have HLC := Lib.hid hl
  have HR := Lib.hid hr
  clear hwb hb hct row each ih hold hN hcn hl hn hr
  go_enter Tryz.func16, Tryz.ntmps16
  go_upto_region 1 with fail
  rw [HWB.out]
  go_wp2_with fail
  go_loopg [3, 4] N (fun g nv i wr => ∃ (j : Nat) (c : Int), g = N - j /\ j <= N /\ i = .int .i64 j /\ nv = .int .i64 c /\ c = ((1 + countDs (l.take j) : Nat) : Int) /\ Below wb.heap.size wb wr)
  case atStart => exact ⟨0, 1, by omega, by omega, rfl, rfl, by simp [countDs], Below.refl _ _⟩
  obtain ⟨j, c, hg, hj, rfl, rfl, hc, hbr⟩ := hrel
  have HG := Lib.hid hg
  have HC := Lib.hid hc
  have HBR := Lib.hid hbr
  have z3r := (hbr.cell (p := ⟨w.heap.size, 3, none⟩) hbl).trans z3
  have hcl := countDs_take_le l j
  have hc1 : 0 <= c /\ c <= 1099511627777 := by have := HCN.out; have := HR.out; omega
  clear hg hc hbr hcl
  have hjN : (j : Int) < (N : Int) \/ j = N := by omega
  rcases hjN with hjN | rfl
  ·
   have hjl : j < l.length := by have := HNN.out; omega
   have hjc : j < cs.length := by have := HLC.out; omega
   obtain ⟨b, o2, hAb, _, _, hbw, hrow⟩ := HROW.out (by omega)
   subst hAb
   have hr := hrow j hjc
   have he := HEACH.out j hjl hjc
   have hco : countD l[j] <= r := Nat.le_trans (countDs_at l j hjl) HCN.out
   have hts := countDs_take l j hjl
   generalize l[j] = dj at he hco hts
   generalize cs[j] = cj at hr he
   have HTS := Lib.hid hts
   cases he with
   | mk dk dn ds dA dcap dl dcs e1 e2 e3 e4 e5 =>
   have he2 := DtIn.mk dk dn ds dA dcap dl dcs e1 e2 e3 e4 e5
   have hold : Below W0.heap.size W0 wr := HOLD.out.trans ((HB.out.trans (HBR.out.mono HB.out.size)).mono HOLD.out.size)
   have KD := Lib.hid (HIH.out W0 wr _ (.mk dk dn ds dl) hco (by have := HR.out; omega) he2 hold)
   have x0 := (hold.cell (p := ⟨b, o2 + j * 4 + 0, none⟩) hbw).trans (hr 0 (by simp))
   have x1 := (hold.cell (p := ⟨b, o2 + j * 4 + 1, none⟩) hbw).trans (hr 1 (by simp))
   have x2 := (hold.cell (p := ⟨b, o2 + j * 4 + 2, none⟩) hbw).trans (hr 2 (by simp))
   have x4 := (hold.cell (p := ⟨b, o2 + j * 4 + 3, none⟩) hbw).trans (hr 3 (by simp))
   simp only [List.getElem?_cons_zero, List.getElem?_cons_succ, Nat.add_zero] at x0 x1 x2 x4
   have hj0 : (0 : Int) <= (j : Int) := Int.natCast_nonneg _
   have hjc2 : (j : Int) < (cap : Int) := by omega
   obtain ⟨c2, hc2⟩ : ∃ c2 : Nat, countD (.mk dk dn ds dl) = c2 := ⟨_, rfl⟩
   rw [hc2] at KD hco
   have hcc : (c2 : Int) <= 1099511627776 := by have := HR.out; omega
   have HC2 := Lib.hid hc2
   clear hr hco he2 e1 e2 e3 e4 e5 hrow hts hold hc2
   go_wp2_with fail
   refine KD.out.mono ?_
   rintro e w1 ⟨rfl, hb1⟩
   have HB1 := Lib.hid (HBR.out.trans (hb1.mono HBR.out.size))
   clear hb1 x0 x1 x2 x4
   go_wp2_with fail
   go_roundg (N - (j + 1))
   case rel => exact ⟨j + 1, c + c2, rfl, by omega, by go_num, rfl, by rw [HTS.out, HC.out, HC2.out]; omega, HB1.out⟩
   case measure => have := HG.out; omega
  have htk : l.take j = l := List.take_of_length_le (by rw [HNN.out]; exact Nat.le_refl _)
  have HTK := Lib.hid htk
  clear htk
  go_wp2_with fail
  go_ret
  exact ⟨by rw [HCT.out, HC.out, HTK.out]; rfl, HB.out.trans (HBR.out.mono HB.out.size)⟩
theorem PxIn.view {W : World} {c : List Value} {x : Px} {q : Nat} (h : PxIn W c x q) : ∃ (k dk dn : Int) (ds : ByteArray) (dA : Option Addr) (dl dc : Nat) (s : ByteArray) (n : Int) (nA : Option Addr) (nl nc : Nat) (aA : Option Addr) (ac : Nat) (d : Dt) (cs : List (List Value)) (xs : List Px) (ks : List Nat),
  c = [.int .i64 k, .int .i64 dk, .int .i64 dn, .string ds, .slice dA dl dc, .string s, .int .i64 n, .slice nA nl nc, .slice aA cs.length ac] /\ DtIn W 0 W.heap.size [.int .i64 dk, .int .i64 dn, .string ds, .slice dA dl dc] d /\ cs.length <= ac /\ ac <= maxLen /\ Row9 W aA cs /\ xs.length = cs.length /\ ks.length = cs.length /\ q = countD d + ks.sum /\ ∀ i, (i1 : i < cs.length) -> (i2 : i < xs.length) -> (i3 : i < ks.length) -> PxIn W cs[i] xs[i] ks[i] := by
 cases h with
 | const dk dn ds dA dl dc d hd s n nA nl nc aA ac h2 => exact ⟨1, dk, dn, ds, dA, dl, dc, s, n, nA, nl, nc, aA, ac, d, [], [], [], rfl, hd, Nat.zero_le _, h2, fun h0 => absurd h0 (by simp), rfl, rfl, rfl, fun i i1 => absurd i1 (by simp)⟩
 | was dk dn ds dA dl dc d hd s n i hi nA nl nc aA ac h2 => exact ⟨15, dk, dn, ds, dA, dl, dc, s, n, nA, nl, nc, aA, ac, d, [], [], [], rfl, hd, Nat.zero_le _, h2, fun h0 => absurd h0 (by simp), rfl, rfl, rfl, fun i i1 => absurd i1 (by simp)⟩
 | ite dk dn ds dA dl dc d hd s n nA nl nc aA ac h1 h2 c0 c1 c2 row x0 x1 x2 k0 k1 k2 e0 e1 e2 =>
  refine ⟨4, dk, dn, ds, dA, dl, dc, s, n, nA, nl, nc, aA, ac, d, [c0, c1, c2], [x0, x1, x2], [k0, k1, k2], rfl, hd, h1, h2, row, rfl, rfl, rfl, fun i i1 i2 i3 => ?_⟩
  match i, i1 with
  | 0, _ => exact e0
  | 1, _ => exact e1
  | 2, _ => exact e2
 | prim dk dn ds dA dl dc d hd s n nA nl nc aA ac l h1 h2 cs ks hc hk h0 row each => exact ⟨10, dk, dn, ds, dA, dl, dc, s, n, nA, nl, nc, aA, ac, d, cs, l, ks, by rw [hc], hd, by rw [hc]; exact h1, h2, row, by rw [hc], by rw [hc, hk], rfl, fun i i1 i2 i3 => each i i2 i1 i3⟩
theorem sum_take (ks : List Nat) (k : Nat) (hk : k < ks.length) : (ks.take (k + 1)).sum = (ks.take k).sum + ks[k] := by
 rw [List.take_succ_eq_append_getElem hk, List.sum_append]
 simp
theorem sum_take_le (ks : List Nat) (k : Nat) : (ks.take k).sum <= ks.sum := by
 induction ks generalizing k with
 | nil => simp
 | cons a ks ih =>
  cases k with
  | zero => simp
  | succ k =>
   rw [List.take_succ_cons, List.sum_cons, List.sum_cons]
   have := ih k
   omega
theorem sum_nth (ks : List Nat) (k : Nat) (hk : k < ks.length) : ks[k] <= ks.sum := by
 have h1 := sum_take ks k hk
 have h2 := sum_take_le ks (k + 1)
 omega
def ExqSays (n : Nat) : Prop := ∀ (W0 w : World) (cs : List Value) (x : Px) (q : Nat), q <= n -> n <= 1099511627776 -> PxIn W0 cs x q -> Below W0.heap.size W0 w →
  Calls Tryz.prog 6 #[.agg cs.toArray] w fun e w' => e = .returned (.int .i64 q) /\ Below w.heap.size w w'
set_option maxHeartbeats 4000000 in
theorem exprs_any : (n : Nat) -> ExqSays n
 | 0 => fun W0 w cs x q hn _ hin hold => by
  obtain ⟨_, _, _, _, _, _, _, _, _, _, _, _, _, _, d, _, _, ks, _, _, _, _, _, _, _, hq, _⟩ := hin.view
  have : 1 <= countD d := by cases d; rw [countD]; omega
  omega
 | r + 1 => fun W0 w cs x q hn hr hin hold => by
  have ih := exprs_any r
  obtain ⟨k, dk, dn, ds, dA, dl, dc, s, n, nA, nl, nc, aA, ac, d, cs, xs, ks, rfl, hd, h1, h2, row, hx, hk, hq, each⟩ := hin.view
  have hd1 : 1 <= countD d := by cases d; rw [countD]; omega
  have hcap : ac <= 9223372036854775807 := by unfold maxLen at h2; omega
  obtain ⟨wb, hwb⟩ : ∃ wb, w.alloc (.cells #[.int .i64 k, .int .i64 dk, .int .i64 dn, .string ds, .slice dA dl dc, .string s, .int .i64 n, .slice nA nl nc, .slice aA cs.length ac] 28) = wb := ⟨_, rfl⟩
  have hb : Below w.heap.size w wb := by rw [<- hwb]; exact (Below.refl _ _).alloc (Nat.le_refl _) _
  have hbl : w.heap.size < wb.heap.size := by rw [<- hwb]; simp
  have a1 : wb.cell? ⟨w.heap.size, 1, none⟩ = some (.int .i64 dk) := by rw [<- hwb]; exact za _ _ _ 1
  have a2 : wb.cell? ⟨w.heap.size, 2, none⟩ = some (.int .i64 dn) := by rw [<- hwb]; exact za _ _ _ 2
  have a3 : wb.cell? ⟨w.heap.size, 3, none⟩ = some (.string ds) := by rw [<- hwb]; exact za _ _ _ 3
  have a4 : wb.cell? ⟨w.heap.size, 4, none⟩ = some (.slice dA dl dc) := by rw [<- hwb]; exact za _ _ _ 4
  have a8 : wb.cell? ⟨w.heap.size, 8, none⟩ = some (.slice aA cs.length ac) := by rw [<- hwb]; exact za _ _ _ 8
  have KD := Lib.hid (data_any (countD d) W0 wb _ d (Nat.le_refl _) (by omega) hd (hold.trans (hb.mono hold.size)))
  have HQ := Lib.hid hq
  have HROW := Lib.hid row
  have HEACH := Lib.hid each
  have HIH := Lib.hid ih
  have HOLD := Lib.hid hold
  obtain ⟨N, hN⟩ : ∃ N, cs.length = N := ⟨_, rfl⟩
  have HNN := Lib.hid hN
  rw [hN] at hwb a8 h1 hx hk ⊢
  have HWB := Lib.hid hwb
  have HB := Lib.hid hb
  have HKS := Lib.hid hk
  have HXS := Lib.hid hx
  have HR := Lib.hid hr
  have HN2 := Lib.hid hn
  have HD1 := Lib.hid hd1
  obtain ⟨cd, hcd⟩ : ∃ cd, countD d = cd := ⟨_, rfl⟩
  rw [hcd] at KD
  have HCD := Lib.hid hcd
  have hcd2 : (cd : Int) <= 1099511627776 := by omega
  clear hwb hb row each ih hold hN hk hx hr hn hq hin hd hd1 hcd
  go_enter Tryz.func6, Tryz.ntmps6
  go_upto_region 1 with fail
  rw [HWB.out]
  go_wp2_with fail
  refine KD.out.mono ?_
  rintro e w1 ⟨rfl, hb1⟩
  have a8' := (hb1.cell (p := ⟨w.heap.size, 8, none⟩) hbl).trans a8
  have HB1 := Lib.hid hb1
  have hbl1 : w.heap.size < w1.heap.size := Nat.lt_of_lt_of_le hbl hb1.size
  clear hb1 a1 a2 a3 a4 a8
  go_wp2_with fail
  go_loopg [3, 4] N (fun g nv i wr => ∃ (j : Nat) (c : Int), g = N - j /\ j <= N /\ i = .int .i64 j /\ nv = .int .i64 c /\ c = ((cd + (ks.take j).sum : Nat) : Int) /\ Below w1.heap.size w1 wr)
  case atStart => exact ⟨0, cd, by omega, by omega, rfl, rfl, by simp, Below.refl _ _⟩
  obtain ⟨j, c, hg, hj, rfl, rfl, hc, hbr⟩ := hrel
  have HG := Lib.hid hg
  have HC := Lib.hid hc
  have HBR := Lib.hid hbr
  have a8r := (hbr.cell (p := ⟨w.heap.size, 8, none⟩) hbl1).trans a8'
  have hcl := sum_take_le ks j
  have hc1 : 0 <= c /\ c <= 1099511627776 := by have h1 := HQ.out; have h2 := HR.out; have h3 := HN2.out; rw [HCD.out] at h1; omega
  clear hg hc hbr hcl
  have hjN : (j : Int) < (N : Int) \/ j = N := by omega
  rcases hjN with hjN | rfl
  ·
   have hjc : j < cs.length := by have := HNN.out; omega
   have hjk : j < ks.length := by have := HKS.out; omega
   have hjx : j < xs.length := by have := HXS.out; omega
   obtain ⟨b, o2, hAb, hbw, hrow⟩ := HROW.out (by omega)
   subst hAb
   have hr := hrow j hjc
   have he := HEACH.out j hjc hjx hjk
   have hts := sum_take ks j hjk
   have hkr : ks[j] <= r := by have h0 := sum_nth ks j hjk; have h1 := HQ.out; have h2 := HD1.out; have h3 := HN2.out; omega
   generalize ks[j] = kj at he hts hkr
   generalize xs[j] = xj at he
   generalize cs[j] = cj at hr he
   have HTS := Lib.hid hts
   obtain ⟨ek, edk, edn, eds, edA, edl, edc, es, en, enA, enl, enc, eaA, eal, eac, rfl⟩ := he.form
   have hold : Below W0.heap.size W0 wr := HOLD.out.trans ((HB.out.trans ((HB1.out.trans (HBR.out.mono HB1.out.size)).mono HB.out.size)).mono HOLD.out.size)
   have KE := Lib.hid (HIH.out W0 wr _ xj kj hkr (by have := HR.out; omega) he hold)
   have x0 := (hold.cell (p := ⟨b, o2 + j * 9 + 0, none⟩) hbw).trans (hr 0 (by simp))
   have x1 := (hold.cell (p := ⟨b, o2 + j * 9 + 1, none⟩) hbw).trans (hr 1 (by simp))
   have x2 := (hold.cell (p := ⟨b, o2 + j * 9 + 2, none⟩) hbw).trans (hr 2 (by simp))
   have x3 := (hold.cell (p := ⟨b, o2 + j * 9 + 3, none⟩) hbw).trans (hr 3 (by simp))
   have x4 := (hold.cell (p := ⟨b, o2 + j * 9 + 4, none⟩) hbw).trans (hr 4 (by simp))
   have x5 := (hold.cell (p := ⟨b, o2 + j * 9 + 5, none⟩) hbw).trans (hr 5 (by simp))
   have x6 := (hold.cell (p := ⟨b, o2 + j * 9 + 6, none⟩) hbw).trans (hr 6 (by simp))
   have x7 := (hold.cell (p := ⟨b, o2 + j * 9 + 7, none⟩) hbw).trans (hr 7 (by simp))
   have x8 := (hold.cell (p := ⟨b, o2 + j * 9 + 8, none⟩) hbw).trans (hr 8 (by simp))
   simp only [List.getElem?_cons_zero, List.getElem?_cons_succ, Nat.add_zero] at x0 x1 x2 x3 x4 x5 x6 x7 x8
   have hj0 : (0 : Int) <= (j : Int) := Int.natCast_nonneg _
   have hjc2 : (j : Int) < (ac : Int) := by omega
   have hcc : (kj : Int) <= 1099511627776 := by have := HR.out; omega
   clear hr hrow hts hold he hkr
   go_wp2_with fail
   refine KE.out.mono ?_
   rintro e w2 ⟨rfl, hb2⟩
   have HB2 := Lib.hid (HBR.out.trans (hb2.mono HBR.out.size))
   clear hb2 x0 x1 x2 x3 x4 x5 x6 x7 x8
   go_wp2_with fail
   go_roundg (N - (j + 1))
   case rel => exact ⟨j + 1, c + kj, rfl, by omega, by go_num, rfl, by rw [HTS.out, HC.out]; omega, HB2.out⟩
   case measure => have := HG.out; omega
  have htk : ks.take j = ks := List.take_of_length_le (by rw [HKS.out]; exact Nat.le_refl _)
  have HTK := Lib.hid htk
  clear htk
  go_wp2_with fail
  go_ret
  exact ⟨by rw [HQ.out, HC.out, HTK.out, HCD.out]; rfl, HB.out.trans ((HB1.out.trans (HBR.out.mono HB1.out.size)).mono HB.out.size)⟩
structure NmL (w wr : World) (N j : Nat) (ns : List Int) : Prop where
 below : Below w.heap.size w wr
 lt : w.heap.size < wr.heap.size
 cells : ∀ i, i < N -> wr.cell? ⟨w.heap.size, i, none⟩ = some (.int .i64 (if i < j then (ns.getD i 0).tmod 1000 else 0))
 frozen : ∀ i, wr.frozen? ⟨w.heap.size, i, none⟩ = false
theorem NmL.set {w wr : World} {N j : Nat} {ns : List Int} (h : NmL w wr N j ns) (hj : j < N) {m : Int} (hm : (ns.getD j 0).tmod 1000 = m) : NmL w (wr.setCell ⟨w.heap.size, j, none⟩ (.int .i64 m)) N (j + 1) ns := by
 have hg := zd wr w.heap.size j (.int .i64 m)
 refine ⟨zp h.below (Nat.le_refl _) hg, Nat.lt_of_lt_of_le h.lt hg.size, fun i hi => ?_, fun i => ?_⟩
 ·
  by_cases e : i = j
  ·
   subst e
   rw [zh (h.cells i hi), if_pos (by omega), hm]
  rw [zg (h.cells i hi) e]
  by_cases hij : i < j
  ·
   rw [if_pos hij, if_pos (by omega)]
  rw [if_neg hij, if_neg (by omega)]
 rw [World.frozen?_setCell]
 exact h.frozen i
set_option maxHeartbeats 4000000 in
theorem nums_any {w : World} {A : Option Addr} {N cap : Nat} {ns : List Int} (hA : NsAt w A N cap ns) (hN : N <= 1000) :
  Calls Tryz.prog 7 #[.slice A N cap, .int .i64 N] w fun e w' => ∃ A', e = .returned (.slice A' N N) /\ NsAt w' A' N N (ns.map (fun n => n.tmod 1000)) /\ Below w.heap.size w w' := by
 obtain ⟨i0, hi, hz0, hz1, hz2⟩ := info_parts infoInt
 have hmk : ∀ W : World, (Instr.makeSlice 29 (.int .i64 (N : Int)) (.int .i64 (N : Int))).run Tryz.prog W = .ok (.slice (some ⟨W.heap.size, 0, none⟩) N N) (W.alloc (.cells (madeCells #[.int .i64 0] N) 3)) := by
  intro W
  have hr := run_make (P := Tryz.prog) W 29 3 i0 _ Tryz.underlying29 hi hz0 .i64 .i64 N N (by omega) (Int.le_refl _) (by rw [hz2]; omega) (by omega)
  simp only [Int.toNat_natCast, hz1, Nat.mul_one] at hr
  exact hr
 have hcap := hA.cap_
 have hcap2 : cap <= 9223372036854775807 := by unfold maxLen at hcap; omega
 have hle := hA.le
 have hl63 : N <= 9223372036854775807 := by omega
 have HA := Lib.hid hA
 have HN := Lib.hid hA.size
 have HMK := Lib.hid (show NmL w (w.alloc (.cells (madeCells #[.int .i64 0] N) 3)) N 0 ns from ⟨(Below.refl _ _).alloc (Nat.le_refl _) _, by simp, fun j hj => by rw [made_one _ _ _ _ _ hj]; simp, fun j => by simp⟩)
 clear hA hcap
 go_enter Tryz.func7, Tryz.ntmps7
 go_wp2_with fail
 go_loopg [6] N (fun g i wr => ∃ j : Nat, g = N - j /\ j <= N /\ i = .int .i64 j /\ NmL w wr N j ns)
 case atStart => exact ⟨0, by omega, by omega, rfl, HMK.out⟩
 obtain ⟨j, hg, hj, rfl, hL⟩ := hrel
 have HG := Lib.hid hg
 have HL := Lib.hid hL
 clear hg hL
 have hjN : (j : Int) < (N : Int) \/ j = N := by omega
 rcases hjN with hjN | rfl
 ·
  have hjl : j < ns.length := by have := HN.out; omega
  obtain ⟨b, o, rfl, hbw, hc⟩ := HA.out.at_ (by omega)
  have xj := (HL.out.below.cell (p := ⟨b, o + j, none⟩) hbw).trans (hc j hjl)
  obtain ⟨m, hm⟩ : ∃ m, ns[j] = m := ⟨_, rfl⟩
  rw [hm] at xj
  have c0 := HL.out.cells j (by omega)
  rw [if_neg (by omega)] at c0
  have f0 := HL.out.frozen j
  obtain ⟨r, hr⟩ : ∃ r, m.tmod 1000 = r := ⟨_, rfl⟩
  have hrb : -1000 < r /\ r < 1000 := by rw [<- hr]; have h1 := Int.tmod_lt_of_pos m (by decide : (0 : Int) < 1000); have h2 := Int.lt_tmod_of_pos m (by decide : (0 : Int) < 1000); omega
  have hj0 : (0 : Int) <= (j : Int) := Int.natCast_nonneg _
  have hjc : (j : Int) < (cap : Int) := by omega
  have HM := Lib.hid (show (ns.getD j 0).tmod 1000 = r by rw [List.getD_eq_getElem?_getD, List.getElem?_eq_getElem hjl, hm]; exact hr)
  clear hc hm
  go_wp2_with fail
  go_roundg (N - (j + 1))
  case rel => exact ⟨j + 1, rfl, by omega, by go_num, HL.out.set (by omega) HM.out⟩
  case measure => have := HG.out; omega
 go_wp2_with fail
 go_ret
 refine ⟨_, rfl, ⟨by rw [List.length_map]; exact HN.out, Nat.le_refl _, by unfold maxLen; omega, fun h0 => ⟨_, _, rfl, HL.out.lt, fun i hi => ?_⟩⟩, HL.out.below⟩
 have hin : i < ns.length := by simpa using hi
 have hij : i < j := by have := HN.out; omega
 rw [Nat.zero_add, HL.out.cells i hij, if_pos hij, List.getElem_map, List.getD_eq_getElem?_getD, List.getElem?_eq_getElem hin]
 rfl
set_option maxHeartbeats 4000000 in
theorem worldWith_any (F : Option Addr) (fc : Nat) (w : World) :
  Calls Tryz.prog 8 #[.slice F 2 fc, .slice none 0 0, .slice none 0 0, .slice none 0 0] w fun e w' => e = .returned (.agg #[.slice F 2 fc, .slice none 0 0, .slice none 0 0, .slice none 0 0, .int .i64 60000]) /\ Below w.heap.size w w' := by
 obtain ⟨wb, hwb⟩ : ∃ wb, (w.alloc (.cells #[.slice none 0 0, .slice none 0 0, .slice none 0 0, .slice none 0 0, .int .i64 0] 46)).alloc (.cells #[.slice F 2 fc, .slice none 0 0, .slice none 0 0, .slice none 0 0, .int .i64 60000] 46) = wb := ⟨_, rfl⟩
 have hb : Below w.heap.size w wb := by rw [<- hwb]; exact ((Below.refl _ _).alloc (Nat.le_refl _) _).alloc (by simp) _
 have u0 : wb.cell? ⟨w.heap.size, 0, none⟩ = some (.slice none 0 0) := by rw [<- hwb]; exact cell_first _ _ _ _ _ 0
 have u1 : wb.cell? ⟨w.heap.size, 1, none⟩ = some (.slice none 0 0) := by rw [<- hwb]; exact cell_first _ _ _ _ _ 1
 have u2 : wb.cell? ⟨w.heap.size, 2, none⟩ = some (.slice none 0 0) := by rw [<- hwb]; exact cell_first _ _ _ _ _ 2
 have u3 : wb.cell? ⟨w.heap.size, 3, none⟩ = some (.slice none 0 0) := by rw [<- hwb]; exact cell_first _ _ _ _ _ 3
 have u4 : wb.cell? ⟨w.heap.size, 4, none⟩ = some (.int .i64 0) := by rw [<- hwb]; exact cell_first _ _ _ _ _ 4
 have uf : ∀ j, wb.frozen? ⟨w.heap.size, j, none⟩ = false := fun j => by rw [<- hwb]; simp
 have f0 := uf 0
 have f1 := uf 1
 have f2 := uf 2
 have f3 := uf 3
 have f4 := uf 4
 have v0 : wb.cell? ⟨w.heap.size + 1, 0, none⟩ = some (.slice F 2 fc) := by rw [<- hwb]; exact cell_second _ _ _ _ _ 0
 have v1 : wb.cell? ⟨w.heap.size + 1, 1, none⟩ = some (.slice none 0 0) := by rw [<- hwb]; exact cell_second _ _ _ _ _ 1
 have v2 : wb.cell? ⟨w.heap.size + 1, 2, none⟩ = some (.slice none 0 0) := by rw [<- hwb]; exact cell_second _ _ _ _ _ 2
 have v3 : wb.cell? ⟨w.heap.size + 1, 3, none⟩ = some (.slice none 0 0) := by rw [<- hwb]; exact cell_second _ _ _ _ _ 3
 have v4 : wb.cell? ⟨w.heap.size + 1, 4, none⟩ = some (.int .i64 60000) := by rw [<- hwb]; exact cell_second _ _ _ _ _ 4
 have HWB := Lib.hid hwb
 have HB := Lib.hid hb
 have S5 := Lib.hid (set5_any (a0 := .slice F 2 fc) (a1 := .slice none 0 0) (a2 := .slice none 0 0) (a3 := .slice none 0 0) (a4 := .int .i64 60000) rfl u0 u1 u2 u3 u4)
 clear hwb hb uf
 go_enter Tryz.func8, Tryz.ntmps8
 go_upto_region 2 with fail
 rw [HWB.out]
 go_wp2_with fail
 go_loopw [10] (fun i wx => i = .int .i64 0 /\ wb = wx) (fun _ _ => 0)
 case atStart => exact ⟨rfl, rfl⟩
 obtain ⟨rfl, rfl⟩ := hrel
 go_wp2_with fail
 go_loopw [11] (fun i wx => i = .int .i64 0 /\ wb = wx) (fun _ _ => 0)
 case atStart => exact ⟨rfl, rfl⟩
 obtain ⟨rfl, rfl⟩ := hrel
 go_wp2_with fail
 obtain ⟨⟨s0, s1, s2, s3, s4⟩, hg⟩ := S5.out
 refine bodyPost_ret (v := .agg #[.slice F 2 fc, .slice none 0 0, .slice none 0 0, .slice none 0 0, .int .i64 60000]) (by simp [results, Tryz.results8, go_sem, s0, s1, s2, s3, s4]) rfl ?_
 exact ⟨rfl, zp HB.out (Nat.le_refl _) hg⟩
end Go.Proofs.YtfhbdlobhjegcaaGreatDoor
