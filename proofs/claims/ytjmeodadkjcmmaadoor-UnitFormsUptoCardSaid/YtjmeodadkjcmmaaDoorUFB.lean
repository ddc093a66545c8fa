import Derived.Test.YtjmeodadkjcmmaaDoorUFA
namespace Go.Proofs.YtjmeodadkjcmmaaDoor
open Go.RowKit Go.ChangeShapes Go.WideShapes Go.Deep Go.ChangeAt
set_option linter.unusedVariables false
set_option maxRecDepth 20000
def UnitV (W0 w : World) (v : Value) (us : List Sh) (un : Un) : Prop := ∃ A1 c1 X B vD D vP P, v = .agg #[.slice A1 X.length c1, vD, vP] /\ X.length <= c1 /\ c1 <= maxLen /\ zz w A1 X.length X /\ X.map Shp.sh = us ∧
 OwnAt (kitDf W0 True) TDf B w vD D /\ D.map DfV.pr = un.1 /\ OwnAt (kitUp W0 True) TUp B w vP P /\ P.map UpV.pr = un.2
theorem UnitV.below {W0 w w' : World} {v : Value} {us : List Sh} {un : Un} (h : UnitV W0 w v us un) (hb : Below w.heap.size w w') : UnitV W0 w' v us un := by
 obtain ⟨A1, c1, X, B, vD, D, vP, P, e, h1, h2, h3, h4, h5, h6, h7, h8⟩ := h
 exact ⟨A1, c1, X, B, vD, D, vP, P, e, h1, h2, h3.below hb, h4, h5.new hb, h6, h7.new hb, h8⟩
theorem UnitV.zero (W0 w : World) : UnitV W0 w (.agg #[.slice none 0 0, .slice none 0 0, .slice none 0 0]) [] ([], []) :=
 ⟨none, 0, [], w.heap.size, _, [], _, [], rfl, Nat.le_refl _, by unfold maxLen; omega, ⟨rfl, fun h => absurd h (by simp), by simp⟩, rfl, ⟨World.ownsRow_nil _ _ _ _, by simp, by simp, by simp⟩, rfl, ⟨World.ownsRow_nil _ _ _ _, by simp, by simp, by simp⟩, rfl⟩
theorem OwnAt.dfs {W0 w : World} {base : Nat} {v : Value} {X : List DfV} (h : OwnAt (kitDf W0 True) TDf base w v X) :
  ∃ A cap, v = .slice A X.length cap /\ X.length <= cap /\ cap <= maxLen /\ (0 < X.length -> ∃ b o, A = some ⟨b, o, none⟩ /\ b < w.heap.size /\ ∀ i, (hi : i < X.length) -> RowAt w b (o + i * 10) X[i].cells /\ ExIn W0 w X[i].x.lo X[i].x.hi X[i].x.cells X[i].x.t) := by
 obtain ⟨A, cap, rfl, h1, h2, hr, _⟩ := h.form
 refine ⟨A, cap, rfl, h1, h2, fun h0 => ?_⟩
 obtain ⟨b, o, rfl, hl, hc⟩ := hr.at_ (by simpa using h0)
 refine ⟨b, o, rfl, hl, fun i hi => ⟨?_, (h.each _ (List.getElem_mem hi) trivial).1⟩⟩
 have hrow := (hc i (by simpa using hi)).2
 rw [List.getElem_map] at hrow
 exact hrow
theorem OwnAt.ups {W0 w : World} {base : Nat} {v : Value} {X : List UpV} (h : OwnAt (kitUp W0 True) TUp base w v X) :
  ∃ A cap, v = .slice A X.length cap /\ X.length <= cap /\ cap <= maxLen /\ (0 < X.length -> ∃ b o, A = some ⟨b, o, none⟩ /\ b < w.heap.size /\ ∀ i, (hi : i < X.length) -> RowAt w b (o + i * 2) X[i].cells /\ X[i].n = X[i].ts.length /\ ∃ cs, ArgsAt W0 w X[i].lo X[i].hi X[i].A X[i].cap X[i].ts cs) := by
 obtain ⟨A, cap, rfl, h1, h2, hr, _⟩ := h.form
 refine ⟨A, cap, rfl, h1, h2, fun h0 => ?_⟩
 obtain ⟨b, o, rfl, hl, hc⟩ := hr.at_ (by simpa using h0)
 refine ⟨b, o, rfl, hl, fun i hi => ?_⟩
 obtain ⟨hn, hA, _⟩ := h.each _ (List.getElem_mem hi) trivial
 obtain ⟨cs, r1, r2, r3⟩ := hA.row
 have hrow := (hc i (by simpa using hi)).2
 rw [List.getElem_map] at hrow
 exact ⟨hrow, hn, cs, r1, hA.le, hA.cap_, r2, r3⟩
theorem OwnAt.dfs_at {W0 w : World} {base n cap : Nat} {A : Option Addr} {X : List DfV} (h : OwnAt (kitDf W0 True) TDf base w (.slice A n cap) X) (hn : X.length = n) (h0 : 0 < n) :
  ∃ b o, A = some ⟨b, o, none⟩ /\ b < w.heap.size /\ ∀ i, (hi : i < X.length) -> RowAt w b (o + i * 10) X[i].cells /\ ExIn W0 w X[i].x.lo X[i].x.hi X[i].x.cells X[i].x.t := by
 obtain ⟨A', c', e, _, _, hh⟩ := h.dfs
 cases e
 exact hh (by omega)
theorem OwnAt.ups_at {W0 w : World} {base n cap : Nat} {A : Option Addr} {X : List UpV} (h : OwnAt (kitUp W0 True) TUp base w (.slice A n cap) X) (hn : X.length = n) (h0 : 0 < n) :
  ∃ b o, A = some ⟨b, o, none⟩ /\ b < w.heap.size /\ ∀ i, (hi : i < X.length) -> RowAt w b (o + i * 2) X[i].cells /\ X[i].n = X[i].ts.length /\ ∃ cs, ArgsAt W0 w X[i].lo X[i].hi X[i].A X[i].cap X[i].ts cs := by
 obtain ⟨A', c', e, _, _, hh⟩ := h.ups
 cases e
 exact hh (by omega)
theorem pr_at {D1 D2 : List DfV} (h : D1.map DfV.pr = D2.map DfV.pr) (k : Nat) (h1 : k < D1.length) (h2 : k < D2.length) : D1[k].pr = D2[k].pr := by
 have e1 : (D1.map DfV.pr)[k]'(by simpa using h1) = (D2.map DfV.pr)[k]'(by simpa using h2) := by simp only [h]
 simpa using e1
theorem upr_at {D1 D2 : List UpV} (h : D1.map UpV.pr = D2.map UpV.pr) (k : Nat) (h1 : k < D1.length) (h2 : k < D2.length) : D1[k].pr = D2[k].pr := by
 have e1 : (D1.map UpV.pr)[k]'(by simpa using h1) = (D2.map UpV.pr)[k]'(by simpa using h2) := by simp only [h]
 simpa using e1
set_option maxHeartbeats 16000000 in
theorem sameUnit_any (W0 w : World) (v1 v2 : Value) (us : List Sh) (un : Un) (hw : Below W0.heap.size W0 w) (h1 : UnitV W0 w v1 us un) (h2 : UnitV W0 w v2 us un) : Calls Tryd.prog 6 #[v1, v2] w (Alike w) := by
 obtain ⟨A1, c1, X1, B1, vD1, D1, vP1, P1, rfl, l1, m1, hX1, hs1, hD1, hd1, hP1, hp1⟩ := h1
 obtain ⟨A2, c2, X2, B2, vD2, D2, vP2, P2, rfl, l2, m2, hX2, hs2, hD2, hd2, hP2, hp2⟩ := h2
 have hlX : X2.length = X1.length := by have h := congrArg List.length (hs1.trans hs2.symm); simpa using h.symm
 have hlD : D2.length = D1.length := by have h := congrArg List.length (hd1.trans hd2.symm); simpa using h.symm
 have hlP : P2.length = P1.length := by have h := congrArg List.length (hp1.trans hp2.symm); simpa using h.symm
 obtain ⟨AD1, cD1, rfl, kD1, kD1', _⟩ := hD1.dfs
 obtain ⟨AD2, cD2, rfl, kD2, kD2', _⟩ := hD2.dfs
 obtain ⟨AP1, cP1, rfl, kP1, kP1', _⟩ := hP1.ups
 obtain ⟨AP2, cP2, rfl, kP2, kP2', _⟩ := hP2.ups
 obtain ⟨N, hn1⟩ : ∃ N, D1.length = N := ⟨_, rfl⟩
 obtain ⟨M, hm1⟩ : ∃ M, P1.length = M := ⟨_, rfl⟩
 have hn2 : D2.length = N := hlD.trans hn1
 have hm2 : P2.length = M := hlP.trans hm1
 rw [hn1] at hD1 kD1 ⊢
 rw [hn2] at hD2 kD2 ⊢
 rw [hm1] at hP1 kP1 ⊢
 rw [hm2] at hP2 kP2 ⊢
 rw [hlX] at l2 hX2 ⊢
 have KS := Lib.hid (fun (W : World) (hW : Below w.heap.size w W) => sameShapes_any A1 A2 X1.length c1 c2 X1 X2 W l1 l2 m1 m2 (hX1.below hW) (hX2.below hW) (hs1.trans hs2.symm))
 have HDD := Lib.hid (hd1.trans hd2.symm)
 have HPP := Lib.hid (hp1.trans hp2.symm)
 have hNm : N <= 9223372036854775807 := by unfold maxLen at kD1'; omega
 have hMm : M <= 9223372036854775807 := by unfold maxLen at kP1'; omega
 unfold maxLen at kD1' kD2' kP1' kP2'
 obtain ⟨wb, hwb⟩ : ∃ wb, (w.alloc (.cells #[.slice A1 X1.length c1, .slice AD1 N cD1, .slice AP1 M cP1] 30)).alloc (.cells #[.slice A2 X1.length c2, .slice AD2 N cD2, .slice AP2 M cP2] 30) = wb := ⟨_, rfl⟩
 have hb : Below w.heap.size w wb := by rw [<- hwb]; exact ((Below.refl _ _).alloc (Nat.le_refl _) _).alloc (by simp) _
 have hz : w.heap.size + 1 = (w.alloc (.cells #[.slice A1 X1.length c1, .slice AD1 N cD1, .slice AP1 M cP1] 30)).heap.size := by simp
 have hwz : wb.heap.size = w.heap.size + 2 := by rw [<- hwb]; simp
 have HX0 := Lib.hid (show ∀ j, wb.cell? ⟨w.heap.size, j, none⟩ = (#[.slice A1 X1.length c1, .slice AD1 N cD1, .slice AP1 M cP1] : Array Value)[j]? from fun j => by rw [<- hwb]; exact (World.cell?_alloc_lt _ _ ⟨w.heap.size, j, none⟩ (by simp)).trans (za _ _ _ j))
 have HX1 := Lib.hid (show ∀ j, wb.cell? ⟨w.heap.size + 1, j, none⟩ = (#[.slice A2 X1.length c2, .slice AD2 N cD2, .slice AP2 M cP2] : Array Value)[j]? from fun j => by rw [<- hwb, hz]; exact za _ _ _ j)
 have HWB := Lib.hid hwb
 have HB := Lib.hid hb
 have HW := Lib.hid (hw.trans (hb.mono hw.size))
 have HD1 := Lib.hid (hD1.new hb)
 have HD2 := Lib.hid (hD2.new hb)
 have HP1 := Lib.hid (hP1.new hb)
 have HP2 := Lib.hid (hP2.new hb)
 have z10 : wb.cell? ⟨w.heap.size, 0, none⟩ = some (.slice A1 X1.length c1) := HX0.out 0
 have z20 : wb.cell? ⟨w.heap.size + 1, 0, none⟩ = some (.slice A2 X1.length c2) := HX1.out 0
 have z11 : wb.cell? ⟨w.heap.size, 1, none⟩ = some (.slice AD1 N cD1) := HX0.out 1
 have z21 : wb.cell? ⟨w.heap.size + 1, 1, none⟩ = some (.slice AD2 N cD2) := HX1.out 1
 have z12 : wb.cell? ⟨w.heap.size, 2, none⟩ = some (.slice AP1 M cP1) := HX0.out 2
 have z22 : wb.cell? ⟨w.heap.size + 1, 2, none⟩ = some (.slice AP2 M cP2) := HX1.out 2
 clear hX1 hX2 hs1 hs2 hD1 hD2 hP1 hP2 hd1 hd2 hp1 hp2 hwb hb hz l1 l2 m1 m2 hw hlX hlD hlP
 go_enter Tryd.func6, Tryd.ntmps6
 go_upto_region 1 with fail
 rw [HWB.out]
 go_wp2_with fail
 refine (KS.out wb HB.out).mono ?_
 rintro e w5 ⟨rfl, m5, hm5⟩
 have HB5 := Lib.hid (show Below wb.heap.size wb w5 by rw [hm5]; exact below_drewN (Below.refl _ _) _)
 have x11 := (HB5.out.cell (p := ⟨w.heap.size, 1, none⟩) (by show w.heap.size < wb.heap.size; omega)).trans z11
 have x21 := (HB5.out.cell (p := ⟨w.heap.size + 1, 1, none⟩) (by show w.heap.size + 1 < wb.heap.size; omega)).trans z21
 have x12 := (HB5.out.cell (p := ⟨w.heap.size, 2, none⟩) (by show w.heap.size < wb.heap.size; omega)).trans z12
 have x22 := (HB5.out.cell (p := ⟨w.heap.size + 1, 2, none⟩) (by show w.heap.size + 1 < wb.heap.size; omega)).trans z22
 clear hm5
 go_wp2_with fail
 go_loopg [5] N (fun g x wr => ∃ k : Nat, g = N - k /\ k <= N /\ x = .int .i64 k /\ Below wb.heap.size wb wr)
 case atStart => exact ⟨0, rfl, Nat.zero_le _, rfl, HB5.out⟩
 obtain ⟨k, hg, hk, rfl, hbr⟩ := hrel
 have HG := Lib.hid hg
 have HBwr := Lib.hid hbr
 have wr11 := (HBwr.out.cell (p := ⟨w.heap.size, 1, none⟩) (by show w.heap.size < wb.heap.size; omega)).trans z11
 have wr21 := (HBwr.out.cell (p := ⟨w.heap.size + 1, 1, none⟩) (by show w.heap.size + 1 < wb.heap.size; omega)).trans z21
 have wr12 := (HBwr.out.cell (p := ⟨w.heap.size, 2, none⟩) (by show w.heap.size < wb.heap.size; omega)).trans z12
 have wr22 := (HBwr.out.cell (p := ⟨w.heap.size + 1, 2, none⟩) (by show w.heap.size + 1 < wb.heap.size; omega)).trans z22
 have hls1 : w.heap.size < wr.heap.size := by have := hbr.size; omega
 have hls2 : w.heap.size + 1 < wr.heap.size := by have := hbr.size; omega
 clear hg hbr
 by_cases hlt : k < N
 ·
  obtain ⟨b, o, rfl, hbw, hrow⟩ := (HD1.out.new HBwr.out).dfs_at hn1 (by omega)
  obtain ⟨b', o', rfl, hbw', hrow'⟩ := (HD2.out.new HBwr.out).dfs_at hn2 (by omega)
  have hk1 : k < D1.length := by rw [hn1]; exact hlt
  have hk2 : k < D2.length := by rw [hn2]; exact hlt
  obtain ⟨r1, x1⟩ := hrow k hk1
  obtain ⟨r2, x2⟩ := hrow' k hk2
  have hpr := pr_at HDD.out k hk1 hk2
  generalize D1[k] = d1 at r1 x1 hpr
  generalize D2[k] = d2 at r2 x2 hpr
  obtain ⟨n1, e1⟩ := d1
  obtain ⟨n2, e2⟩ := d2
  simp only [DfV.pr, Prod.mk.injEq] at hpr
  obtain ⟨rfl, htt⟩ := hpr
  simp only at x1 x2
  rw [<- htt] at x2
  have HX1 := Lib.hid x1
  have HX2 := Lib.hid x2
  have HWR := Lib.hid (HW.out.trans (HBwr.out.mono HW.out.size))
  have m1n : wr.cell? ⟨b, o + k * 10, none⟩ = some (.string n1) := r1 0 (by simp [DfV.cells, EV.cells])
  have m2n : wr.cell? ⟨b', o' + k * 10, none⟩ = some (.string n1) := r2 0 (by simp [DfV.cells, EV.cells])
  have m10 : wr.cell? ⟨b, o + k * 10 + 1, none⟩ = some (.int .i64 e1.k) := r1 1 (by simp [DfV.cells, EV.cells])
  have m11 : wr.cell? ⟨b, o + k * 10 + 2, none⟩ = some (.int .i64 e1.dk) := r1 2 (by simp [DfV.cells, EV.cells])
  have m12 : wr.cell? ⟨b, o + k * 10 + 3, none⟩ = some (.int .i64 e1.dn) := r1 3 (by simp [DfV.cells, EV.cells])
  have m13 : wr.cell? ⟨b, o + k * 10 + 4, none⟩ = some (.string e1.ds) := r1 4 (by simp [DfV.cells, EV.cells])
  have m14 : wr.cell? ⟨b, o + k * 10 + 5, none⟩ = some (.slice e1.dA e1.dl e1.dc) := r1 5 (by simp [DfV.cells, EV.cells])
  have m15 : wr.cell? ⟨b, o + k * 10 + 6, none⟩ = some (.string e1.S) := r1 6 (by simp [DfV.cells, EV.cells])
  have m16 : wr.cell? ⟨b, o + k * 10 + 7, none⟩ = some (.int .i64 e1.N) := r1 7 (by simp [DfV.cells, EV.cells])
  have m17 : wr.cell? ⟨b, o + k * 10 + 8, none⟩ = some (.slice e1.nA e1.nl e1.nc) := r1 8 (by simp [DfV.cells, EV.cells])
  have m18 : wr.cell? ⟨b, o + k * 10 + 9, none⟩ = some (.slice e1.aA e1.al e1.ac) := r1 9 (by simp [DfV.cells, EV.cells])
  have m20 : wr.cell? ⟨b', o' + k * 10 + 1, none⟩ = some (.int .i64 e2.k) := r2 1 (by simp [DfV.cells, EV.cells])
  have m21 : wr.cell? ⟨b', o' + k * 10 + 2, none⟩ = some (.int .i64 e2.dk) := r2 2 (by simp [DfV.cells, EV.cells])
  have m22 : wr.cell? ⟨b', o' + k * 10 + 3, none⟩ = some (.int .i64 e2.dn) := r2 3 (by simp [DfV.cells, EV.cells])
  have m23 : wr.cell? ⟨b', o' + k * 10 + 4, none⟩ = some (.string e2.ds) := r2 4 (by simp [DfV.cells, EV.cells])
  have m24 : wr.cell? ⟨b', o' + k * 10 + 5, none⟩ = some (.slice e2.dA e2.dl e2.dc) := r2 5 (by simp [DfV.cells, EV.cells])
  have m25 : wr.cell? ⟨b', o' + k * 10 + 6, none⟩ = some (.string e2.S) := r2 6 (by simp [DfV.cells, EV.cells])
  have m26 : wr.cell? ⟨b', o' + k * 10 + 7, none⟩ = some (.int .i64 e2.N) := r2 7 (by simp [DfV.cells, EV.cells])
  have m27 : wr.cell? ⟨b', o' + k * 10 + 8, none⟩ = some (.slice e2.nA e2.nl e2.nc) := r2 8 (by simp [DfV.cells, EV.cells])
  have m28 : wr.cell? ⟨b', o' + k * 10 + 9, none⟩ = some (.slice e2.aA e2.al e2.ac) := r2 9 (by simp [DfV.cells, EV.cells])
  have KX := Lib.hid (fun (W : World) (hW : Below wr.heap.size wr W) => sameExpr_all _ e1.t (Nat.le_refl _) W0 W e1.lo e1.hi e2.lo e2.hi e1.cells e2.cells (HWR.out.trans (hW.mono HWR.out.size)) (HX1.out.keep hW) (HX2.out.keep hW))
  have y0 : (0 : Int) <= (k : Int) := Int.natCast_nonneg _
  have y1 : (k : Int) < (N : Int) := by omega
  clear r1 r2 x1 x2 hrow hrow' hk1 hk2 htt
  go_upto_region 6 with fail
  refine zq (fun w' => Below wr.heap.size wr w') (by kernel_rfl) (by kernel_rfl) (Below.refl _ _).drew ?_
  go_big_quiet_want; refine zc (.pointer (some ⟨w.heap.size, 1, none⟩)) (fun w1 hw1 => ?_) ?_
  ·
   go_simp
  go_simp; go_big_quiet_on
  go_big_quiet_want; refine zc (.slice (some ⟨b, o, none⟩) N cD1) (fun w1 hw1 => ?_) ?_
  ·
   have wr11q := (hw1.cell (p := ⟨w.heap.size, 1, none⟩) hls1).trans wr11
   go_simp
  go_simp; go_big_quiet_on
  go_big_quiet_want; go_big_quiet_op; go_big_quiet_on
  go_big_quiet_want; refine zc (.pointer (some ⟨b, o + k * 10, none⟩)) (fun w1 hw1 => ?_) ?_
  ·
   go_simp
  go_simp; go_big_quiet_on
  go_big_quiet_want; refine zc (.pointer (some ⟨b, o + k * 10, none⟩)) (fun w1 hw1 => ?_) ?_
  ·
   go_simp
  go_simp; go_big_quiet_on
  go_big_quiet_want; refine zc (.string n1) (fun w1 hw1 => ?_) ?_
  ·
   have m1nq := (hw1.cell (p := ⟨b, o + k * 10, none⟩) hbw).trans m1n
   go_simp
  go_simp; go_big_quiet_on
  go_big_quiet_want; refine zc (.pointer (some ⟨w.heap.size + 1, 1, none⟩)) (fun w1 hw1 => ?_) ?_
  ·
   go_simp
  go_simp; go_big_quiet_on
  go_big_quiet_want; refine zc (.slice (some ⟨b', o', none⟩) N cD2) (fun w1 hw1 => ?_) ?_
  ·
   have wr21q := (hw1.cell (p := ⟨w.heap.size + 1, 1, none⟩) hls2).trans wr21
   go_simp
  go_simp; go_big_quiet_on
  go_big_quiet_want; go_big_quiet_op; go_big_quiet_on
  go_big_quiet_want; refine zc (.pointer (some ⟨b', o' + k * 10, none⟩)) (fun w1 hw1 => ?_) ?_
  ·
   go_simp
  go_simp; go_big_quiet_on
  go_big_quiet_want; refine zc (.pointer (some ⟨b', o' + k * 10, none⟩)) (fun w1 hw1 => ?_) ?_
  ·
   go_simp
  go_simp; go_big_quiet_on
  go_big_quiet_want; refine zc (.string n1) (fun w1 hw1 => ?_) ?_
  ·
   have m2nq := (hw1.cell (p := ⟨b', o' + k * 10, none⟩) hbw').trans m2n
   go_simp
  go_simp; go_big_quiet_on
  go_big_quiet_want; refine zc (.bool false) (fun w1 hw1 => ?_) ?_
  ·
   go_simp
  go_simp; go_big_quiet_on
  go_big_quiet_want; go_big_quiet_op; go_big_quiet_on
  go_big_quiet_want; refine zc (.pointer (some ⟨w.heap.size, 1, none⟩)) (fun w1 hw1 => ?_) ?_
  ·
   go_simp
  go_simp; go_big_quiet_on
  go_big_quiet_want; refine zc (.slice (some ⟨b, o, none⟩) N cD1) (fun w1 hw1 => ?_) ?_
  ·
   have wr11q := (hw1.cell (p := ⟨w.heap.size, 1, none⟩) hls1).trans wr11
   go_simp
  go_simp; go_big_quiet_on
  go_big_quiet_want; go_big_quiet_op; go_big_quiet_on
  go_big_quiet_want; refine zc (.pointer (some ⟨b, o + k * 10, none⟩)) (fun w1 hw1 => ?_) ?_
  ·
   go_simp
  go_simp; go_big_quiet_on
  go_big_quiet_want; refine zc (.pointer (some ⟨b, o + k * 10 + 1, none⟩)) (fun w1 hw1 => ?_) ?_
  ·
   go_simp
  go_simp; go_big_quiet_on
  go_big_quiet_want; refine zc (.agg #[.int .i64 e1.k, .int .i64 e1.dk, .int .i64 e1.dn, .string e1.ds, .slice e1.dA e1.dl e1.dc, .string e1.S, .int .i64 e1.N, .slice e1.nA e1.nl e1.nc, .slice e1.aA e1.al e1.ac]) (fun w1 hw1 => ?_) ?_
  ·
   have m10q := (hw1.cell (p := ⟨b, o + k * 10 + 1, none⟩) hbw).trans m10
   have m11q := (hw1.cell (p := ⟨b, o + k * 10 + 2, none⟩) hbw).trans m11
   have m12q := (hw1.cell (p := ⟨b, o + k * 10 + 3, none⟩) hbw).trans m12
   have m13q := (hw1.cell (p := ⟨b, o + k * 10 + 4, none⟩) hbw).trans m13
   have m14q := (hw1.cell (p := ⟨b, o + k * 10 + 5, none⟩) hbw).trans m14
   have m15q := (hw1.cell (p := ⟨b, o + k * 10 + 6, none⟩) hbw).trans m15
   have m16q := (hw1.cell (p := ⟨b, o + k * 10 + 7, none⟩) hbw).trans m16
   have m17q := (hw1.cell (p := ⟨b, o + k * 10 + 8, none⟩) hbw).trans m17
   have m18q := (hw1.cell (p := ⟨b, o + k * 10 + 9, none⟩) hbw).trans m18
   go_simp
  go_simp; go_big_quiet_on
  go_big_quiet_want; refine zc (.pointer (some ⟨w.heap.size + 1, 1, none⟩)) (fun w1 hw1 => ?_) ?_
  ·
   go_simp
  go_simp; go_big_quiet_on
  go_big_quiet_want; refine zc (.slice (some ⟨b', o', none⟩) N cD2) (fun w1 hw1 => ?_) ?_
  ·
   have wr21q := (hw1.cell (p := ⟨w.heap.size + 1, 1, none⟩) hls2).trans wr21
   go_simp
  go_simp; go_big_quiet_on
  go_big_quiet_want; go_big_quiet_op; go_big_quiet_on
  go_big_quiet_want; refine zc (.pointer (some ⟨b', o' + k * 10, none⟩)) (fun w1 hw1 => ?_) ?_
  ·
   go_simp
  go_simp; go_big_quiet_on
  go_big_quiet_want; refine zc (.pointer (some ⟨b', o' + k * 10 + 1, none⟩)) (fun w1 hw1 => ?_) ?_
  ·
   go_simp
  go_simp; go_big_quiet_on
  go_big_quiet_want; refine zc (.agg #[.int .i64 e2.k, .int .i64 e2.dk, .int .i64 e2.dn, .string e2.ds, .slice e2.dA e2.dl e2.dc, .string e2.S, .int .i64 e2.N, .slice e2.nA e2.nl e2.nc, .slice e2.aA e2.al e2.ac]) (fun w1 hw1 => ?_) ?_
  ·
   have m20q := (hw1.cell (p := ⟨b', o' + k * 10 + 1, none⟩) hbw').trans m20
   have m21q := (hw1.cell (p := ⟨b', o' + k * 10 + 2, none⟩) hbw').trans m21
   have m22q := (hw1.cell (p := ⟨b', o' + k * 10 + 3, none⟩) hbw').trans m22
   have m23q := (hw1.cell (p := ⟨b', o' + k * 10 + 4, none⟩) hbw').trans m23
   have m24q := (hw1.cell (p := ⟨b', o' + k * 10 + 5, none⟩) hbw').trans m24
   have m25q := (hw1.cell (p := ⟨b', o' + k * 10 + 6, none⟩) hbw').trans m25
   have m26q := (hw1.cell (p := ⟨b', o' + k * 10 + 7, none⟩) hbw').trans m26
   have m27q := (hw1.cell (p := ⟨b', o' + k * 10 + 8, none⟩) hbw').trans m27
   have m28q := (hw1.cell (p := ⟨b', o' + k * 10 + 9, none⟩) hbw').trans m28
   go_simp
  go_simp; go_big_quiet_on
  go_big_quiet_want; refine zs (.bool true) 29 #[.agg #[.int .i64 e1.k, .int .i64 e1.dk, .int .i64 e1.dn, .string e1.ds, .slice e1.dA e1.dl e1.dc, .string e1.S, .int .i64 e1.N, .slice e1.nA e1.nl e1.nc, .slice e1.aA e1.al e1.ac], .agg #[.int .i64 e2.k, .int .i64 e2.dk, .int .i64 e2.dn, .string e2.ds, .slice e2.dA e2.dl e2.dc, .string e2.S, .int .i64 e2.N, .slice e2.nA e2.nl e2.nc, .slice e2.aA e2.al e2.ac]] (fun w1 hw1 => ?_) (fun w1 hw1 => (KX.out w1 hw1).mono ?_) ?_
  ·
   go_simp
  ·
   rintro e w2 ⟨rfl, hb2⟩; exact ⟨rfl, Below.trans hw1 (hb2.mono hw1.size)⟩
  go_simp; go_big_quiet_on
  go_big_quiet_want; refine zc (.bool false) (fun w1 hw1 => ?_) ?_
  ·
   go_simp
  go_simp; go_big_quiet_on
  go_big_quiet_want; refine zc (.bool false) (fun w1 hw1 => ?_) ?_
  ·
   go_simp
  go_simp; go_big_quiet_on
  refine wpQuiet_nil ?_
  intro w5 hw5
  have HB5 := Lib.hid (HBwr.out.trans (hw5.mono HBwr.out.size))
  clear hw5
  go_wp2_with fail
  go_roundg (N - (k + 1))
  case measure => have := HG.out; omega
  case rel => exact ⟨k + 1, rfl, by omega, by go_num, HB5.out⟩
 have hkN : k = N := by omega
 subst k
 go_wp2_with fail
 go_loopg [6] M (fun g x wr => ∃ k : Nat, g = M - k /\ k <= M /\ x = .int .i64 k /\ Below wb.heap.size wb wr)
 case atStart => exact ⟨0, rfl, Nat.zero_le _, rfl, HBwr.out⟩
 obtain ⟨k, hg, hk, rfl, hbr⟩ := hrel
 have HG := Lib.hid hg
 have HBwr := Lib.hid hbr
 have wr11 := (HBwr.out.cell (p := ⟨w.heap.size, 1, none⟩) (by show w.heap.size < wb.heap.size; omega)).trans z11
 have wr21 := (HBwr.out.cell (p := ⟨w.heap.size + 1, 1, none⟩) (by show w.heap.size + 1 < wb.heap.size; omega)).trans z21
 have wr12 := (HBwr.out.cell (p := ⟨w.heap.size, 2, none⟩) (by show w.heap.size < wb.heap.size; omega)).trans z12
 have wr22 := (HBwr.out.cell (p := ⟨w.heap.size + 1, 2, none⟩) (by show w.heap.size + 1 < wb.heap.size; omega)).trans z22
 have hls1 : w.heap.size < wr.heap.size := by have := hbr.size; omega
 have hls2 : w.heap.size + 1 < wr.heap.size := by have := hbr.size; omega
 clear hg hbr
 by_cases hlt : k < M
 ·
  obtain ⟨b, o, rfl, hbw, hrow⟩ := (HP1.out.new HBwr.out).ups_at hm1 (by omega)
  obtain ⟨b', o', rfl, hbw', hrow'⟩ := (HP2.out.new HBwr.out).ups_at hm2 (by omega)
  have hk1 : k < P1.length := by rw [hm1]; exact hlt
  have hk2 : k < P2.length := by rw [hm2]; exact hlt
  obtain ⟨r1, q1, cs1, x1⟩ := hrow k hk1
  obtain ⟨r2, q2, cs2, x2⟩ := hrow' k hk2
  have hpr := upr_at HPP.out k hk1 hk2
  generalize P1[k] = d1 at r1 q1 x1 hpr
  generalize P2[k] = d2 at r2 q2 x2 hpr
  obtain ⟨n1, a1, z1, p1, t1, lo1, hi1⟩ := d1
  obtain ⟨n2, a2, z2, p2, t2, lo2, hi2⟩ := d2
  simp only [UpV.pr, Prod.mk.injEq] at hpr
  obtain ⟨rfl, rfl⟩ := hpr
  simp only at x1 x2 q1 q2
  obtain ⟨J, hJ⟩ : ∃ J, t1.length = J := ⟨_, rfl⟩
  rw [hJ] at q1 q2
  subst q1 q2
  have HX1 := Lib.hid x1
  have HX2 := Lib.hid x2
  have HJ := Lib.hid hJ
  have HWR := Lib.hid (HW.out.trans (HBwr.out.mono HW.out.size))
  have m1n : wr.cell? ⟨b, o + k * 2, none⟩ = some (.string n1) := r1 0 (by simp [UpV.cells])
  have m2n : wr.cell? ⟨b', o' + k * 2, none⟩ = some (.string n1) := r2 0 (by simp [UpV.cells])
  have m10 : wr.cell? ⟨b, o + k * 2 + 1, none⟩ = some (.slice a1 z2 p1) := r1 1 (by simp [UpV.cells])
  have m20 : wr.cell? ⟨b', o' + k * 2 + 1, none⟩ = some (.slice a2 z2 p2) := r2 1 (by simp [UpV.cells])
  have KX := Lib.hid (show ∀ W : World, Below wr.heap.size wr W -> Calls Tryd.prog 30 #[.slice a1 z2 p1, .slice a2 z2 p2] W (Alike W) from fun W hW => by
   have := sameExprs_of t1 (fun t _ => sameExpr_all _ t (Nat.le_refl _)) W0 W lo1 hi1 lo2 hi2 a1 a2 p1 p2 cs1 cs2 (HWR.out.trans (hW.mono HWR.out.size)) (HX1.out.below hW) (HX2.out.below hW)
   rw [HJ.out] at this
   exact this)
  have y0 : (0 : Int) <= (k : Int) := Int.natCast_nonneg _
  have y1 : (k : Int) < (M : Int) := by omega
  clear r1 r2 x1 x2 hrow hrow' hk1 hk2 hJ
  go_upto_region 11 with fail
  refine zq (fun w' => Below wr.heap.size wr w') (by kernel_rfl) (by kernel_rfl) (Below.refl _ _).drew ?_
  go_big_quiet_want; refine zc (.pointer (some ⟨w.heap.size, 2, none⟩)) (fun w1 hw1 => ?_) ?_
  ·
   go_simp
  go_simp; go_big_quiet_on
  go_big_quiet_want; refine zc (.slice (some ⟨b, o, none⟩) M cP1) (fun w1 hw1 => ?_) ?_
  ·
   have wr12q := (hw1.cell (p := ⟨w.heap.size, 2, none⟩) hls1).trans wr12
   go_simp
  go_simp; go_big_quiet_on
  go_big_quiet_want; go_big_quiet_op; go_big_quiet_on
  go_big_quiet_want; refine zc (.pointer (some ⟨b, o + k * 2, none⟩)) (fun w1 hw1 => ?_) ?_
  ·
   go_simp
  go_simp; go_big_quiet_on
  go_big_quiet_want; refine zc (.pointer (some ⟨b, o + k * 2, none⟩)) (fun w1 hw1 => ?_) ?_
  ·
   go_simp
  go_simp; go_big_quiet_on
  go_big_quiet_want; refine zc (.string n1) (fun w1 hw1 => ?_) ?_
  ·
   have m1nq := (hw1.cell (p := ⟨b, o + k * 2, none⟩) hbw).trans m1n
   go_simp
  go_simp; go_big_quiet_on
  go_big_quiet_want; refine zc (.pointer (some ⟨w.heap.size + 1, 2, none⟩)) (fun w1 hw1 => ?_) ?_
  ·
   go_simp
  go_simp; go_big_quiet_on
  go_big_quiet_want; refine zc (.slice (some ⟨b', o', none⟩) M cP2) (fun w1 hw1 => ?_) ?_
  ·
   have wr22q := (hw1.cell (p := ⟨w.heap.size + 1, 2, none⟩) hls2).trans wr22
   go_simp
  go_simp; go_big_quiet_on
  go_big_quiet_want; go_big_quiet_op; go_big_quiet_on
  go_big_quiet_want; refine zc (.pointer (some ⟨b', o' + k * 2, none⟩)) (fun w1 hw1 => ?_) ?_
  ·
   go_simp
  go_simp; go_big_quiet_on
  go_big_quiet_want; refine zc (.pointer (some ⟨b', o' + k * 2, none⟩)) (fun w1 hw1 => ?_) ?_
  ·
   go_simp
  go_simp; go_big_quiet_on
  go_big_quiet_want; refine zc (.string n1) (fun w1 hw1 => ?_) ?_
  ·
   have m2nq := (hw1.cell (p := ⟨b', o' + k * 2, none⟩) hbw').trans m2n
   go_simp
  go_simp; go_big_quiet_on
  go_big_quiet_want; refine zc (.bool false) (fun w1 hw1 => ?_) ?_
  ·
   go_simp
  go_simp; go_big_quiet_on
  go_big_quiet_want; go_big_quiet_op; go_big_quiet_on
  go_big_quiet_want; refine zc (.pointer (some ⟨w.heap.size, 2, none⟩)) (fun w1 hw1 => ?_) ?_
  ·
   go_simp
  go_simp; go_big_quiet_on
  go_big_quiet_want; refine zc (.slice (some ⟨b, o, none⟩) M cP1) (fun w1 hw1 => ?_) ?_
  ·
   have wr12q := (hw1.cell (p := ⟨w.heap.size, 2, none⟩) hls1).trans wr12
   go_simp
  go_simp; go_big_quiet_on
  go_big_quiet_want; go_big_quiet_op; go_big_quiet_on
  go_big_quiet_want; refine zc (.pointer (some ⟨b, o + k * 2, none⟩)) (fun w1 hw1 => ?_) ?_
  ·
   go_simp
  go_simp; go_big_quiet_on
  go_big_quiet_want; refine zc (.pointer (some ⟨b, o + k * 2 + 1, none⟩)) (fun w1 hw1 => ?_) ?_
  ·
   go_simp
  go_simp; go_big_quiet_on
  go_big_quiet_want; refine zc (.slice a1 z2 p1) (fun w1 hw1 => ?_) ?_
  ·
   have m10q := (hw1.cell (p := ⟨b, o + k * 2 + 1, none⟩) hbw).trans m10
   go_simp
  go_simp; go_big_quiet_on
  go_big_quiet_want; refine zc (.pointer (some ⟨w.heap.size + 1, 2, none⟩)) (fun w1 hw1 => ?_) ?_
  ·
   go_simp
  go_simp; go_big_quiet_on
  go_big_quiet_want; refine zc (.slice (some ⟨b', o', none⟩) M cP2) (fun w1 hw1 => ?_) ?_
  ·
   have wr22q := (hw1.cell (p := ⟨w.heap.size + 1, 2, none⟩) hls2).trans wr22
   go_simp
  go_simp; go_big_quiet_on
  go_big_quiet_want; go_big_quiet_op; go_big_quiet_on
  go_big_quiet_want; refine zc (.pointer (some ⟨b', o' + k * 2, none⟩)) (fun w1 hw1 => ?_) ?_
  ·
   go_simp
  go_simp; go_big_quiet_on
  go_big_quiet_want; refine zc (.pointer (some ⟨b', o' + k * 2 + 1, none⟩)) (fun w1 hw1 => ?_) ?_
  ·
   go_simp
  go_simp; go_big_quiet_on
  go_big_quiet_want; refine zc (.slice a2 z2 p2) (fun w1 hw1 => ?_) ?_
  ·
   have m20q := (hw1.cell (p := ⟨b', o' + k * 2 + 1, none⟩) hbw').trans m20
   go_simp
  go_simp; go_big_quiet_on
  go_big_quiet_want; refine zs (.bool true) 30 #[.slice a1 z2 p1, .slice a2 z2 p2] (fun w1 hw1 => ?_) (fun w1 hw1 => (KX.out w1 hw1).mono ?_) ?_
  ·
   go_simp
  ·
   rintro e w2 ⟨rfl, hb2⟩; exact ⟨rfl, Below.trans hw1 (hb2.mono hw1.size)⟩
  go_simp; go_big_quiet_on
  go_big_quiet_want; refine zc (.bool false) (fun w1 hw1 => ?_) ?_
  ·
   go_simp
  go_simp; go_big_quiet_on
  go_big_quiet_want; refine zc (.bool false) (fun w1 hw1 => ?_) ?_
  ·
   go_simp
  go_simp; go_big_quiet_on
  refine wpQuiet_nil ?_
  intro w5 hw5
  have HB5 := Lib.hid (HBwr.out.trans (hw5.mono HBwr.out.size))
  clear hw5
  go_wp2_with fail
  go_roundg (M - (k + 1))
  case measure => have := HG.out; omega
  case rel => exact ⟨k + 1, rfl, by omega, by go_num, HB5.out⟩
 have hkM : k = M := by omega
 subst k
 go_wp2_with fail
 go_ret
 exact ⟨rfl, HB.out.trans (HBwr.out.mono HB.out.size)⟩
end Go.Proofs.YtjmeodadkjcmmaaDoor
