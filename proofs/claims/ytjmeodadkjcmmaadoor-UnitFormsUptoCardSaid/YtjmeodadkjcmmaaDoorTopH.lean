import Derived.Test.YtjmeodadkjcmmaaDoorGTopHPQ
namespace Go.Proofs.YtjmeodadkjcmmaaDoor
open Go.RowKit Go.ChangeShapes Go.WideShapes Go.Deep Go.ChangeAt
set_option linter.unusedVariables false
set_option maxRecDepth 20000
set_option maxHeartbeats 8000000 in
theorem unitForm_any (W0 w : World) (hb : Below W0.heap.size W0 w) (hm : UMaps W0) (G S : Option Addr) (gl gc sl sc : Nat) (gs : List ByteArray) (L : List Shp) (hE : EnvAt W0 G gl gc gs S sl sc L) (A : Option Addr) (N cap : Nat) (css : List (List Value)) (fs : List Int) (ts : List Dt) (hD : RowD W0 w A N cap css fs ts) (hN : N <= 1048576) :
  Calls Tryd.prog 4 #[.slice A N cap, .agg #[.slice G gl gc, .slice S sl sc]] w (fun e w' => UFin W0 w e w' (unitAll gs (L.map Shp.sh) (envF gs L) fs ts)) := by
 have HB := Lib.hid hb
 have HM := Lib.hid hm
 have HE := Lib.hid hE
 have HD := Lib.hid hD
 have HNN := Lib.hid hN
 have hN1 : N <= 9223372036854775807 := by omega
 have HIN := Lib.hid (FmIn.start w G S gl gc sl sc 26 30)
 have HW0 := Lib.hid (hb.trans (HIN.out.below.mono hb.size))
 obtain ⟨r, hr⟩ : ∃ r, unitAll gs (L.map Shp.sh) (envF gs L) fs ts = r := ⟨_, rfl⟩
 rw [hr]
 obtain ⟨ef, hef⟩ : ∃ ef, envF gs L = ef := ⟨_, rfl⟩
 rw [hef] at hr
 have HR := Lib.hid hr
 have HEF := Lib.hid hef
 have KE := Lib.hid (envCheck_any _ G S gl gc sl sc gs L (HE.out.below HW0.out) (HM.out.below HW0.out))
 rw [hef] at KE
 clear hb hm hE hD hr hef hN
 by_cases he : ef = 0
 case neg =>
  obtain rfl : r = .bad 0 ef := by rw [<- HR.out]; exact unit_env he
  go_enter Tryd.func4, Tryd.ntmps4
  go_wp2_with fail
  refine KE.out.mono ?_
  rintro e w1 ⟨rfl, hb1⟩
  have HI1 := Lib.hid (HIN.out.next hb1)
  have R := HI1.out.r
  have RF := HI1.out.rf
  clear hb1
  go_wp2_with fail
  exact bodyPost_ret (v := .tuple #[.agg #[.slice none 0 0, .slice none 0 0, .slice none 0 0], .int .i64 0, .int .i64 ef]) (by simp [results, Tryd.results4, go_sem, R]) rfl ⟨rfl, below3 (by omega) HI1.out.below _ _ _⟩
 subst he
 go_enter Tryd.func4, Tryd.ntmps4
 go_wp2_with fail
 refine KE.out.mono ?_
 rintro e w1 ⟨rfl, hb1⟩
 have HI1 := Lib.hid (HIN.out.next hb1)
 clear hb1
 go_wp2_with fail
 go_loopg [29] N (fun g i wr => ∃ k : Nat, g = N - k /\ k <= N /\ i = .int .i64 k /\ FmIn w wr G gl gc S sl sc /\ ∀ j, j < k -> (hj : j < fs.length) -> fs[j] = 0)
 case atStart => exact ⟨0, by omega, by omega, rfl, HI1.out, fun j h => absurd h (by omega)⟩
 case round =>
  obtain ⟨k, hg, hk, rfl, hin, hall⟩ := hrel
  have HG := Lib.hid hg
  have HALL := Lib.hid hall
  have HI := Lib.hid hin
  have HBW := Lib.hid (HB.out.trans (hin.below.mono HB.out.size))
  clear hg hall hin
  by_cases hlt : k < N
  ·
   have hkc : k < css.length := by rw [HD.out.size]; exact hlt
   have hkf : k < fs.length := by rw [HD.out.fsz]; exact hlt
   obtain ⟨b, o, dk, dn, ds, A', l', c', rfl, hbw, q0, q1, q2, q3, hc⟩ := (HD.out.below HI.out.below).nth k hlt
   have kc := HD.out.chk k hkc hkf _ (HBW.out.alloc HBW.out.size (.cells #[.int .i64 dk, .int .i64 dn, .string ds, .slice A' l' c'] 38))
   rw [hc] at kc
   have KC := Lib.hid kc
   clear kc hc
   go_wp2_with fail
   refine KC.out.mono ?_
   rintro e w2 ⟨rfl, hb2⟩
   have HI2 := Lib.hid (HI.out.next (((Below.refl wr.heap.size wr).alloc (Nat.le_refl _) (.cells #[.int .i64 dk, .int .i64 dn, .string ds, .slice A' l' c'] 38)).trans (hb2.mono (by simp))))
   have R := HI2.out.r
   have RF := HI2.out.rf
   clear hb2 KC
   by_cases hf : fs[k] = 0
   ·
    have HF := Lib.hid hf
    rw [hf]
    clear hf R RF
    go_wp2_with fail
    go_roundg (N - (k + 1))
    case rel =>
     refine ⟨k + 1, rfl, by omega, by go_num, HI2.out, fun j hj hj' => ?_⟩
     by_cases hjk : j = k
     ·
      subst hjk; exact HF.out
     exact HALL.out j (by omega) hj'
    case measure => have := HG.out; omega
   obtain ⟨fk, hfk⟩ : ∃ fk, fs[k] = fk := ⟨_, rfl⟩
   obtain rfl : r = .bad k fk := by rw [<- HR.out, <- hfk]; exact unit_datum rfl hkf HALL.out hf
   rw [hfk] at hf ⊢
   clear hfk
   go_wp2_with fail
   exact bodyPost_ret (v := .tuple #[.agg #[.slice none 0 0, .slice none 0 0, .slice none 0 0], .int .i64 k, .int .i64 fk]) (by simp [results, Tryd.results4, go_sem, R]) rfl ⟨rfl, below3 (by omega) HI2.out.below _ _ _⟩
  have hkN : k = N := by omega
  subst k
  have HZ := Lib.hid (show ∀ j, (hj : j < fs.length) -> fs[j] = 0 from fun j hj => HALL.out j (by rw [<- HD.out.fsz]; exact hj) hj)
  have HRR := Lib.hid (show unitR gs (L.map Shp.sh) ts = r from by rw [<- HR.out]; exact (unit_run rfl HZ.out).symm)
  clear HALL hk hlt
  go_wp2_with fail
  obtain ⟨F, hF⟩ : ∃ F, wr.heap.size = F := ⟨_, rfl⟩
  have hltF : w.heap.size + 1 < F := by rw [<- hF]; exact HI.out.lt
  have hw0F : W0.heap.size <= w.heap.size := HB.out.size
  rw [hF]
  obtain ⟨w3, hw3⟩ : ∃ w3, (((wr.alloc (.cells #[.slice none 0 0, .slice none 0 0, .slice none 0 0, .bool false, .int .i64 0] 42)).alloc (.cells #[.slice none 0 0, .slice none 0 0, .slice none 0 0] 30)).alloc (.cells #[.slice none 0 0] 23)) = w3 := ⟨_, rfl⟩
  rw [hw3]
  obtain ⟨hC0, hb3, hz3, hf3⟩ := col_world HBW.out HM.out hF hw3
  have HI3 := Lib.hid (HI.out.next hb3)
  have HC0 := Lib.hid hC0
  have HZ3 := Lib.hid hz3
  have HF3 := Lib.hid hf3
  have hlt3 : F < w3.heap.size := by rw [<- hw3]; simp; omega
  clear hw3 hC0 hb3 hz3 hf3 HI HBW hF
  go_loopg [46] N (fun g i wr => ∃ (k : Nat) (vS vN : Value) (X : List SV) (nm : List ByteArray), g = N - k /\ k <= N /\ i = .int .i64 k /\ ColAt W0 wr (F + 3) (F + 1) (F + 1 + 1) vS vN X nm /\ zy (F + 3) (F + 1) (F + 1 + 1) w3 wr /\ runT zt ([], []) 0 (ts.take k) = .ok (X.map SV.sh, nm) /\ X.length <= k /\ nm.length <= k)
  case atStart => exact ⟨0, _, _, [], [], by omega, by omega, rfl, HC0.out, zy.refl _ _ _ _, rfl, by simp, by simp⟩
  obtain ⟨k, vS, vN, X, nm, hg, hk, rfl, hC, hG, hrun, hX, hnm⟩ := hrel
  have HG := Lib.hid hg
  have HC := Lib.hid hC
  have HGR := Lib.hid hG
  have HRUN := Lib.hid hrun
  have HXL := Lib.hid hX
  have HNL := Lib.hid hnm
  have HI := Lib.hid (HI3.out.grown hG (by omega) (by omega) (by omega))
  clear hg hC hG hrun hX hnm
  by_cases hlt : k < N
  ·
   have hkt : k < ts.length := by rw [HD.out.tsz]; exact hlt
   obtain ⟨b, o, A', c', rfl, hbw, hgd, hd, q0, q1, q2, q3⟩ := (HD.out.below HI.out.below).nthT HZ.out k hlt
   have HCE := Lib.hid (fun (e : Int) (hc : zt (X.map SV.sh, nm) ts[k] = .err e) => unit_collect (gs := gs) (vsh := L.map Shp.sh) hkt HRUN.out hc)
   have HCO := Lib.hid (fun (st : List Sh × List ByteArray) (hc : zt (X.map SV.sh, nm) ts[k] = .ok st) => runT_on hkt HRUN.out hc)
   generalize ts[k] = d at hgd hd q0 q1 q2 q3 HCE HCO
   have KC := Lib.hid (collect_any (HC.out.next ((Below.refl wr.heap.size wr).alloc (Nat.le_refl _) (.cells #[.int .i64 d.k, .int .i64 d.n, .string d.s, .slice A' d.l.length c'] 38))) (.pointer (some ⟨F, 0, none⟩)) d A' c' hd hgd (by have := HXL.out; have := HNN.out; omega) (by have := HNL.out; have := HNN.out; omega))
   clear hgd hd
   go_wp2_with fail
   refine KC.out.mono ?_
   intro e w5 hp
   have HGB := Lib.hid (zy.below (base := F + 3) (U := F + 1) (N := F + 1 + 1) ((Below.refl wr.heap.size wr).alloc (Nat.le_refl _) (.cells #[.int .i64 d.k, .int .i64 d.n, .string d.s, .slice A' d.l.length c'] 38)) HC.out.bs)
   cases hcr : zt (X.map SV.sh, nm) d with
   | ok st =>
    rw [hcr] at hp
    obtain ⟨rfl, hG5, vS5, vN5, X5, hC5, hX5⟩ := hp
    have HC5 := Lib.hid hC5
    have HG5 := Lib.hid (HGR.out.trans (HGB.out.trans hG5))
    have HX5 := Lib.hid hX5
    have HRN := Lib.hid (HCO.out st hcr)
    have HLN := Lib.hid (collectT_len hcr)
    clear hC5 hG5 hX5 hcr KC
    go_wp2_with fail
    go_roundg (N - (k + 1))
    case rel =>
     have h1 := HLN.out
     have h2 : X5.length = st.1.length := by rw [<- HX5.out]; simp
     have h3 := HXL.out
     have h4 := HNL.out
     simp only [List.length_map] at h1
     exact ⟨k + 1, vS5, vN5, X5, st.2, rfl, by omega, by go_num, HC5.out, HG5.out, by rw [HX5.out]; exact HRN.out, by omega, by omega⟩
    case measure => have := HG.out; omega
   | err c =>
    rw [hcr] at hp
    obtain ⟨rfl, hc0, hG5⟩ := hp
    obtain rfl : r = .bad k c := by rw [<- HRR.out]; exact HCE.out c hcr
    have HI5 := Lib.hid (HI.out.grown (HGB.out.trans hG5) (by omega) (by omega) (by omega))
    have R := HI5.out.r
    have RF := HI5.out.rf
    clear hG5 hcr KC
    go_wp2_with fail
    exact bodyPost_ret (v := .tuple #[.agg #[.slice none 0 0, .slice none 0 0, .slice none 0 0], .int .i64 k, .int .i64 c]) (by simp [results, Tryd.results4, go_sem, R]) rfl ⟨rfl, below3 (by omega) HI5.out.below _ _ _⟩
  have hkN : k = N := by omega
  subst k
  have HCOL := Lib.hid (show runT zt ([], []) 0 ts = .ok (X.map SV.sh, nm) from by have := HRUN.out; rwa [<- HD.out.tsz, List.take_length] at this)
  clear HRUN hk hlt
  obtain ⟨M, hM⟩ : ∃ M, nm.length = M := ⟨_, rfl⟩
  have hMM : M <= 1048576 := by have := HNL.out; have := HNN.out; omega
  obtain ⟨An, cn, rfl, hscN, hnN⟩ := own_names (lo := F + 3) HC.out.oN (show F < F + 3 by omega) (Nat.le_refl _)
  obtain ⟨AS, cS, rfl, _, _, _⟩ := HC.out.oS.shps
  have HNR := Lib.hid hnN
  have hgs := envF_zero HEF.out
  have HGS := Lib.hid hgs
  have hgl : gl = gs.length := HE.out.globs.size.symm
  have HBW := Lib.hid (HB.out.trans (HI.out.below.mono HB.out.size))
  have c0 := HI.out.c0
  have hFw : F < wr.heap.size := by have := HC.out.bs; omega
  have hzz : ∀ j, wr.cell? ⟨F, j, none⟩ = (#[.slice none 0 0, .slice none 0 0, .slice none 0 0, .bool false, .int .i64 0] : Array Value)[j]? := fun j => (HGR.out.cell (by omega) (by omega) (by omega) j).trans (HZ3.out j)
  have hzf : ∀ j, wr.frozen? ⟨F, j, none⟩ = false := fun j => (HGR.out.frozen (by omega) (by omega) (by omega) j).trans (HF3.out j)
  have HZZ := Lib.hid hzz
  have HZF := Lib.hid hzf
  have n0 := HC.out.n0
  have KCL := Lib.hid (Sh.clone_any G gl gc gs wr (HE.out.globs.below HBW.out) (by omega))
  rw [hM] at n0
  have HGN := Lib.hid hgl
  clear hscN hnN hgs hzz hzf hgl
  go_wp2_with fail
  refine KCL.out.mono ?_
  rintro e w6 ⟨v6, rfl, hrow6, hb6⟩
  have ho6 := own_of_strs hrow6 HGN.out.symm
  obtain ⟨A6, c6, rfl, _, _⟩ := ho6.form
  have HO6 := Lib.hid ho6
  clear ho6
  have HB6 := Lib.hid hb6
  have z0 : w6.cell? ⟨F, 0, none⟩ = some (.slice none 0 0) := (hb6.cell (p := ⟨F, 0, none⟩) hFw).trans (HZZ.out 0)
  have zf : w6.frozen? ⟨F, 0, none⟩ = false := (hb6.frozen (p := ⟨F, 0, none⟩) hFw).trans (HZF.out 0)
  have n6 : w6.cell? ⟨F + 1 + 1, 0, none⟩ = some (.slice An M cn) := (hb6.cell (p := ⟨F + 1 + 1, 0, none⟩) (by show F + 1 + 1 < _; have := HC.out.bs; omega)).trans n0
  clear n0 c0 hrow6 hb6 KCL
  go_wp2_with fail
  obtain ⟨w7, hw7⟩ : ∃ w7, w6.setCell ⟨F, 0, none⟩ (.slice A6 gs.length c6) = w7 := ⟨_, rfl⟩
  rw [hw7]
  obtain ⟨wa, B2, hB2, hFB2, hCa, hIa, hNa, hGa⟩ : ∃ wa B2, wa.heap.size = B2 /\ F + 3 <= B2 /\ ColAt W0 wa (F + 3) (F + 1) (F + 1 + 1) (.slice AS X.length cS) (.slice An nm.length cn) X nm /\ FmIn w wa G gl gc S sl sc /\ NmIn wa (F + 3) wa.heap.size An cn nm /\ GlAt B2 F wa w7 (.slice A6 gs.length c6) gs := ⟨wr, wr.heap.size, rfl, HC.out.bs, HC.out, HI.out, HNR.out, by rw [<- hw7]; exact GlAt.start HZZ.out HZF.out hFw HB6.out HO6.out⟩
  have HB2 := Lib.hid hB2
  have HCA := Lib.hid hCa
  have HIA := Lib.hid hIa
  have HNA := Lib.hid hNa
  have HGA := Lib.hid hGa
  have HM2 := Lib.hid hM
  clear hw7 hCa hIa hNa hGa HZZ HZF HO6 HB6 HNR HBW HI HC HGR z0 zf n6 hFw hM hB2
  go_loopg [68] M (fun g i wr => ∃ (k : Nat) (v : Value) (X3 : List ByteArray), g = M - k /\ k <= M /\ i = .int .i64 k /\ (nm.take k).foldl addNew gs = X3 /\ GlAt B2 F wa wr v X3)
  case atStart => exact ⟨0, _, gs, by omega, by omega, rfl, rfl, HGA.out⟩
  obtain ⟨k, v, X3, hg, hk, rfl, hX3, hG⟩ := hrel
  have HG := Lib.hid hg
  have HX3 := Lib.hid hX3
  have HGL := Lib.hid hG
  clear hg hX3 hG
  obtain ⟨A3, c3, rfl, hsc3, hn3⟩ := own_names (lo := B2) HGL.out.own (show F < B2 by omega) (Nat.le_refl _)
  have HN3 := Lib.hid hn3
  have z0 := HGL.out.c0
  have zf := HGL.out.fz 0
  have hbs : B2 <= wr.heap.size := by have := HGL.out.grown.size; have := HB2.out; omega
  have hX3l : X3.length <= 40 + 1048576 := by
   have h1 := addNew_len (nm.take k) gs
   rw [HX3.out, List.length_take] at h1
   have := HGS.out.1
   omega
  clear hsc3 hn3
  by_cases hlt : k < M
  ·
   have hkn : k < nm.length := by rw [HM2.out]; exact hlt
   obtain ⟨b, o, rfl, l1, l2, l3, hrow⟩ := HNA.out.at_ (by omega)
   have hq : wr.cell? ⟨b, o + k, none⟩ = some (.string nm[k]) := (HGL.out.grown.cell (by have := HB2.out; omega) (by omega) (by omega) (o + k)).trans (hrow k hkn)
   have hxc : X3.length <= c3 := HN3.out.le
   have HAN := Lib.hid (show (nm.take (k + 1)).foldl addNew gs = addNew X3 nm[k] from by rw [addNew_take hkn, HX3.out])
   generalize nm[k] = n at hq HAN
   clear hrow
   go_wp2_with fail
   refine (contains_any n A3 X3.length c3 X3 _ HN3.out.cap_ HN3.out.le HN3.out.strs).mono ?_
   rintro e w5 ⟨rfl, rfl⟩
   cases hin : inL X3 n
   case true =>
    have HIN := Lib.hid hin
    clear hin
    go_wp2_with fail
    go_roundg (M - (k + 1))
    case rel => exact ⟨k + 1, _, X3, rfl, by omega, by go_num, by rw [HAN.out]; unfold addNew; rw [if_pos HIN.out], HGL.out⟩
    case measure => have := HG.out; omega
   have HIN := Lib.hid hin
   clear hin
   go_wp2_with (at_builtin; refine wpList_s2 rfl (.tmp 83) (.tmp 85) rfl HGL.out.own n _ rfl rfl rfl (by omega) hbs ?_; intro v5 w5 h5 h6; obtain ⟨A5, c5, rfl, _, _⟩ := h5.form; obtain ⟨hG5, z5, f5⟩ := HGL.out.put (show F < B2 by omega) hbs h5 h6; have HG5 := Lib.hid hG5; clear h5 h6 hG5 z0 zf)
   go_wp2_with fail
   go_roundg (M - (k + 1))
   case rel =>
    have h := HG5.out
    rw [show (X3 ++ [n]).length = X3.length + 1 from by simp] at h
    exact ⟨k + 1, _, X3 ++ [n], rfl, by omega, by go_num, by rw [HAN.out]; unfold addNew; rw [if_neg (by rw [HIN.out]; simp)], h⟩
   case measure => have := HG.out; omega
  have hkM : k = M := by omega
  subst k
  have HXX := Lib.hid (show nm.foldl addNew gs = X3 from by have := HX3.out; rwa [<- HM2.out, List.take_length] at this)
  clear HX3 hk hlt
  have hFB : F < B2 := by omega
  have HIW := Lib.hid (HIA.out.grown HGL.out.grown (by omega) (by omega) (by omega))
  have c0 := HIW.out.c0
  have c1 := HIW.out.c1
  have u0 := (HGL.out.grown.cell (show F + 1 < B2 by omega) (by omega) (by omega) 0).trans HCA.out.u0
  have u1 := (HGL.out.grown.cell (show F + 1 < B2 by omega) (by omega) (by omega) 1).trans HCA.out.u1
  have u2 := (HGL.out.grown.cell (show F + 1 < B2 by omega) (by omega) (by omega) 2).trans HCA.out.u2
  have HBW := Lib.hid (HB.out.trans (HIW.out.below.mono HB.out.size))
  have hB2 := HB2.out
  obtain ⟨A', cap', e, hle2, hcm2, hS2, _, _, _⟩ := HCA.out.oS.shpsC HGL.out.grown (by omega) (show F < F + 3 by omega) (show F < F + 3 by omega)
  cases e
  have hSL := HE.out.shapes.below HBW.out
  have hslN : sl + X.length <= 1099511627776 := by have h1 := HGS.out.2.1; have h2 := hSL.size; have h3 := HXL.out; have h4 := HNN.out; omega
  have KS := Lib.hid (Sh.shapes_any wr G S AS none none gl gc sl sc X.length cS 0 0 0 0 L (X.map SV.shp) hSL hS2 hslN (lens_ok HCA.out.oS HGS.out.2.2 hSL hS2))
  clear hSL hS2 hle2 hcm2 hslN hB2
  go_wp2_with fail
  refine KS.out.mono ?_
  rintro e w8 ⟨A8, n8, c8, X8, rfl, h81, h82, hS8, hX8, hb8, hfr8, hfx8⟩
  obtain rfl : n8 = X8.length := hS8.size.symm
  obtain ⟨hG8, z1, z90, z91, hz9, hO9, hG9⟩ := former_world (u := .slice A8 X8.length c8) HGL.out hFB hbs hb8
  have f1 := hG8.fz 1
  have HS9 := Lib.hid (shapes_set (F := F) (u := .slice A8 X8.length c8) hS8 (show F < wr.heap.size by omega) hfr8 hfx8 1)
  have HI9 := Lib.hid ((HIW.out.next hb8).row (zd w8 F 1 (.slice A8 X8.length c8)) hltF)
  have hs9 : (w8.setCell ⟨F, 1, none⟩ (.slice A8 X8.length c8)).heap.size = w8.heap.size := by simp [World.setCell]
  have hs8 : wr.heap.size <= w8.heap.size := hb8.size
  have HX8 := Lib.hid hX8
  have HFR8 := Lib.hid hfr8
  have HFX8 := Lib.hid (show ∀ x ∈ X8, ∀ a, x.A = some a -> 0 < x.len -> wr.heap.size <= a.block from hfx8)
  have HBND := Lib.hid (show (X3.length = (nm.foldl addNew gs).length /\ X8.length = (Sh.behindC (L.map Shp.sh ++ X.map SV.sh)).length) from ⟨by rw [HXX.out], by
   have h1 := congrArg List.length hX8
   rw [List.length_map, List.map_append, List.map_map] at h1
   exact h1⟩)
  clear hX8 hfr8 hfx8 hS8 hb8 hG8 KS u0 u1 u2 c0 c1
  go_upto_region 29 with fail
  generalize hw9 : w8.setCell ⟨F, 1, none⟩ (.slice A8 X8.length c8) = w9 at z90 z91 hz9 hO9 hG9 HS9 HI9 hs9
  obtain ⟨BR, hBR, hBR2⟩ : ∃ BR, BR = wr.heap.size /\ BR <= w9.heap.size := ⟨_, rfl, by omega⟩
  rw [<- hBR] at HFR8 HFX8
  have hBRF : B2 <= BR := by omega
  have HZ9 := Lib.hid hz9
  have HO9 := Lib.hid hO9
  have HG9 := Lib.hid hG9
  have HZ90 := Lib.hid z90
  have HZ91 := Lib.hid z91
  have HSZ9 := Lib.hid hBR2
  have R := HI9.out.r
  have RF := HI9.out.rf
  clear hz9 hO9 hG9 z1 f1 hs9 hs8 hBR hbs hw9 z0 zf hBR2 HGL HN3 HIW HBW
  have htl := HD.out.tsz
  by_cases h40 : 40 < X3.length
  ·
   obtain rfl : r = .bad N 1 := by rw [<- HRR.out, unit_size HCOL.out (Or.inl (by have := HBND.out.1; simp only; omega)), htl]
   have h40' : (40 : Int) < (X3.length : Int) := by omega
   clear htl
   go_wp2_with fail
   exact bodyPost_ret (v := .tuple #[.agg #[.slice none 0 0, .slice none 0 0, .slice none 0 0], .int .i64 N, .int .i64 1]) (by simp [results, Tryd.results4, go_sem, R]) rfl ⟨rfl, below3 (by omega) HI9.out.below _ _ _⟩
  by_cases h8 : 8 < X8.length
  ·
   obtain rfl : r = .bad N 1 := by rw [<- HRR.out, unit_size HCOL.out (Or.inr (by have := HBND.out.2; simp only; omega)), htl]
   have h8' : (8 : Int) < (X8.length : Int) := by omega
   clear htl
   go_wp2_with fail
   exact bodyPost_ret (v := .tuple #[.agg #[.slice none 0 0, .slice none 0 0, .slice none 0 0], .int .i64 N, .int .i64 1]) (by simp [results, Tryd.results4, go_sem, R]) rfl ⟨rfl, below3 (by omega) HI9.out.below _ _ _⟩
  have HNB := Lib.hid (show ¬ (40 < (nm.foldl addNew gs).length \/ 8 < (Sh.behindC (L.map Shp.sh ++ X.map SV.sh)).length) from by have h1 := HBND.out.1; have h2 := HBND.out.2; omega)
  clear htl R RF
  go_wp2_with fail
  have hFW : F < w9.heap.size := by have := HSZ9.out; omega
  have HFM := Lib.hid (former_start (W0 := W0) (base2 := B2) (B8 := BR) (HB.out.trans (HI9.out.below.mono HB.out.size)) HM.out (by omega) hFW HZ90.out HZ91.out HZ9.out HO9.out hFB HS9.out h81 h82 HFR8.out HFX8.out (by omega))
  have hfo := fmOff_start (F := F) (U := F + 1) (sc := c8) HO9.out (by omega) HS9.out HFR8.out HFX8.out (by omega)
  obtain ⟨A', cap', e, hle2, hcm2, _, hNE, hA2, _⟩ := HCA.out.oS.shpsC HG9.out (by have := HB2.out; omega) (show F < F + 3 by omega) (show F < F + 3 by omega)
  cases e
  have HUN := Lib.hid (show UnAt W0 w9 w9.heap.size (fmOf F A3 c3 X3 A8 c8 X8) (F + 1) (.slice AS X.length cS) (.slice none 0 0) (.slice none 0 0) (X.map SV.ne) True [] [] from by
   have hl : (X.map SV.ne).length = X.length := by simp
   have h1 : F + 1 < B2 := by omega
   have h2 : F + 1 ≠ F := by omega
   have h3 := HSZ9.out
   have := un_start (W0 := W0) (w := w9) (m := (fmOf F A3 c3 X3 A8 c8 X8)) (base := w9.heap.size) (U := F + 1) (A := AS) (cap := cS) (S := X.map SV.ne) (by omega) (by omega) h2 hFW (Nat.le_refl _) hfo (by rw [hl]; exact (HG9.out.cell h1 h2 h2 0).trans HCA.out.u0) ((HG9.out.cell h1 h2 h2 1).trans HCA.out.u1) ((HG9.out.cell h1 h2 h2 2).trans HCA.out.u2) (fun j => (HG9.out.frozen h1 h2 h2 j).trans (HCA.out.fu j)) (by rw [hl]; exact hle2) hcm2 (by rw [hl]; exact hNE) (fun h0 a ha => by
    obtain ⟨l1, l2⟩ := hA2 (by rw [<- hl]; exact h0) a ha
    have h4 := HB2.out
    refine ⟨by omega, by omega, ?_⟩
    show a.block ≠ F
    omega)
   rwa [hl] at this)
  have HPL := Lib.hid (show ((fmOf F A3 c3 X3 A8 c8 X8)).pl = ⟨nm.foldl addNew gs, Sh.behindC (L.map Shp.sh ++ X.map SV.sh), [], false⟩ from by
   unfold fmOf Fm.pl
   simp only
   rw [HXX.out, HX8.out, List.map_append, List.map_map]
   rfl)
  have HFD := Lib.hid (fields_ok HCA.out.oS HGS.out.2.2 HX8.out)
  have HENV := Lib.hid (show EnvIn W0 S sl sc L from ⟨HE.out.shapes, HE.out.sle, HE.out.scap⟩)
  have HUS := Lib.hid (show (X.map SV.ne).map (fun x => (x.name, x.n)) = (X.map SV.sh).map (fun s => (s.1, s.2.length)) from by rw [List.map_map, List.map_map]; rfl)
  obtain ⟨B3, hB3⟩ : ∃ B3, w9.heap.size = B3 := ⟨_, rfl⟩
  have hB39 : F + 3 <= B3 := by have := HSZ9.out; omega
  have HB3 := Lib.hid hB3
  rw [hB3] at HUN
  clear hfo hNE hA2 hle2 hcm2 hB3 z90 z91
  go_loopg [115] N (fun g i wr => ∃ (k : Nat) (un : Un) (vD vP : Value) (D : List DfV) (P : List UpV), g = N - k /\ k <= N /\ i = .int .i64 k /\ runT (topT ⟨nm.foldl addNew gs, Sh.behindC (L.map Shp.sh ++ X.map SV.sh), [], false⟩ (L.map Shp.sh) (X.map SV.sh)) ([], []) 0 (ts.take k) = .ok un /\ zy B3 (F + 1) F w9 wr /\ zx W0 wr (fmOf F A3 c3 X3 A8 c8 X8) 0 /\ UnAt W0 wr B3 (fmOf F A3 c3 X3 A8 c8 X8) (F + 1) (.slice AS X.length cS) vD vP (X.map SV.ne) True D P /\ D.map DfV.pr = un.1 /\ P.map UpV.pr = un.2 /\ D.length <= k /\ P.length <= k)
  case atStart => exact ⟨0, _, _, _, [], [], by omega, by omega, rfl, rfl, zy.refl _ _ _ _, HFM.out, HUN.out, rfl, rfl, by simp, by simp⟩
  obtain ⟨k, un, vD, vP, D, P, hg, hk, rfl, hrun, hG, hF, hU, hDm, hPm, hDl, hPl⟩ := hrel
  have HG := Lib.hid hg
  have HRUN := Lib.hid hrun
  have HGR := Lib.hid hG
  have HF := Lib.hid hF
  have HU := Lib.hid hU
  have HDM := Lib.hid (And.intro hDm hPm)
  have HDL := Lib.hid (And.intro hDl hPl)
  have HI := Lib.hid (HI9.out.grown hG (by omega) (by omega) (by omega))
  clear hg hrun hG hF hU hDm hPm hDl hPl
  have c0 := HI.out.c0
  have c1 := HI.out.c1
  have hltW : w.heap.size < wr.heap.size := by have := HI.out.lt; omega
  by_cases hlt : k < N
  ·
   have hkt : k < ts.length := by rw [HD.out.tsz]; exact hlt
   obtain ⟨b, o, A', c', rfl, hbw, hgd, hd, q0, q1, q2, q3⟩ := (HD.out.below HI.out.below).nthT HZ.out k hlt
   have hcol := runT_each ts _ _ _ HCOL.out k hkt
   have HCE := Lib.hid (fun (e : Int) (hc : topT ⟨nm.foldl addNew gs, Sh.behindC (L.map Shp.sh ++ X.map SV.sh), [], false⟩ (L.map Shp.sh) (X.map SV.sh) un ts[k] = .err e) => unit_form HCOL.out HNB.out hkt HRUN.out hc)
   have HCO := Lib.hid (fun (st : Un) (hc : topT ⟨nm.foldl addNew gs, Sh.behindC (L.map Shp.sh ++ X.map SV.sh), [], false⟩ (L.map Shp.sh) (X.map SV.sh) un ts[k] = .ok st) => runT_on hkt HRUN.out hc)
   generalize ts[k] = d at hgd hd q0 q1 q2 q3 HCE HCO hcol
   have hab : Below wr.heap.size wr (wr.alloc (.cells #[.int .i64 d.k, .int .i64 d.n, .string d.s, .slice A' d.l.length c'] 38)) := (Below.refl _ _).alloc (Nat.le_refl _) _
   have kf := form_any (HU.out.next hab) (HF.out.next hab) HFD.out G gl gc HENV.out HUS.out d A' c' hd hgd (by have := HDL.out.1; have := HNN.out; omega) (by have := HDL.out.2; have := HNN.out; omega) hcol
   rw [HPL.out, HDM.out.1, HDM.out.2] at kf
   have KF := Lib.hid kf
   have HAB := Lib.hid hab
   clear hgd hd hcol kf hab
   go_wp2_with fail
   refine KF.out.mono ?_
   intro e w5 hp
   obtain ⟨rt, hrt⟩ : ∃ rt, topT ⟨nm.foldl addNew gs, Sh.behindC (L.map Shp.sh ++ X.map SV.sh), [], false⟩ (L.map Shp.sh) (X.map SV.sh) un d = rt := ⟨_, rfl⟩
   have hrt' : topT ⟨nm.foldl addNew gs, Sh.behindC (L.map Shp.sh ++ X.map SV.sh), [], false⟩ (L.map Shp.sh) (X.map SV.sh) (un.1, un.2) d = rt := hrt
   rw [hrt'] at hp
   cases rt with
   | ok st =>
    obtain ⟨he, hG5, hF5, vD5, vP5, D5, P5, hU5, hD5, hP5⟩ := hp
    obtain rfl : e = .returned (.tuple #[]) := he
    have z4 : w5.cell? ⟨F, 4, none⟩ = some (.int .i64 0) := hF5.c4
    have HG5 := Lib.hid (HGR.out.trans ((zy.below HAB.out HU.out.bs).trans hG5))
    have HF5 := Lib.hid hF5
    have HU5 := Lib.hid hU5
    have HDM5 := Lib.hid (And.intro hD5 hP5)
    have HRN := Lib.hid (HCO.out st hrt)
    have HLN := Lib.hid (topT_len hrt)
    clear hG5 hF5 hU5 hD5 hP5 hrt hrt' KF
    go_wp2_with fail
    go_roundg (N - (k + 1))
    case rel =>
     have h1 := HLN.out
     rw [<- HDM5.out.1, <- HDM5.out.2, <- HDM.out.1, <- HDM.out.2] at h1
     simp only [List.length_map] at h1
     have h3 := HDL.out
     exact ⟨k + 1, st, vD5, vP5, D5, P5, rfl, by omega, by go_num, HRN.out, HG5.out, HF5.out, HU5.out, HDM5.out.1, HDM5.out.2, by omega, by omega⟩
    case measure => have := HG.out; omega
   | err c =>
    obtain ⟨he, hG5, hF5, hc1⟩ := hp
    obtain rfl : e = .returned (.tuple #[]) := he
    obtain rfl : r = .bad k c := by rw [<- HRR.out]; exact HCE.out c hrt
    have z4 : w5.cell? ⟨F, 4, none⟩ = some (.int .i64 c) := hF5.c4
    have hcne : ¬ c = 0 := by omega
    have HI5 := Lib.hid (HI.out.grown ((zy.below HAB.out HU.out.bs).trans hG5) (by omega) (by omega) (show w.heap.size + 1 < F by omega))
    have R := HI5.out.r
    have RF := HI5.out.rf
    have hneF : F ≠ w.heap.size + 1 := by omega
    clear hG5 hF5 hrt hrt' KF
    go_upto_region 36 with fail
    go_region
    go_wp2_with fail
    exact bodyPost_ret (v := .tuple #[.agg #[.slice none 0 0, .slice none 0 0, .slice none 0 0], .int .i64 k, .int .i64 c]) (by simp [results, Tryd.results4, go_sem, R]) rfl ⟨rfl, (below3 (by omega) HI5.out.below _ _ _).drew⟩
  have hkN : k = N := by omega
  subst k
  have HT := Lib.hid (show runT (topT ⟨nm.foldl addNew gs, Sh.behindC (L.map Shp.sh ++ X.map SV.sh), [], false⟩ (L.map Shp.sh) (X.map SV.sh)) ([], []) 0 ts = .ok un from by have := HRUN.out; rwa [<- HD.out.tsz, List.take_length] at this)
  obtain rfl : r = .ok (X.map SV.sh, un) := by rw [<- HRR.out]; exact unit_ok HCOL.out HNB.out HT.out
  obtain ⟨AD, cD, rfl, _, _⟩ := HU.out.oD.form
  obtain ⟨AP, cP, rfl, _, _⟩ := HU.out.oP.form
  have u0 := HU.out.u0
  have u1 := HU.out.u1
  have u2 := HU.out.u2
  have R := HI.out.r
  have RF := HI.out.rf
  clear c0 c1 hk hlt
  go_wp2_with fail
  exact bodyPost_ret (v := .tuple #[.agg #[.slice AS X.length cS, .slice AD D.length cD, .slice AP P.length cP], .int .i64 0, .int .i64 0]) (by simp [results, Tryd.results4, go_sem, R]) rfl (uf_ok (m := (fmOf F A3 c3 X3 A8 c8 X8)) (base := B3) (base2 := B2) (B := F + 3) (U := F + 1) HI.out.below HU.out HCA.out.oS (HG9.out.both.trans (HGR.out.low (by have := HB3.out; have := HSZ9.out; omega))) (by have := HB2.out; omega) (by have := HB2.out; have := HB3.out; have := HSZ9.out; omega) (by omega) (show F < F + 3 by omega) (by omega) (by omega) HDM.out.1 HDM.out.2 rfl (grown3 _ _ _ _ _))
end Go.Proofs.YtjmeodadkjcmmaaDoor
