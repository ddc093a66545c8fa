import Derived.Test.YtjmeodadkjcmmaaDoorUnS
import Derived.Test.YtjmeodadkjcmmaaDoorGEnv
namespace Go.Proofs.YtjmeodadkjcmmaaDoor
open Go.RowKit Go.ChangeShapes Go.WideShapes Go.Deep Go.ChangeAt
set_option linter.unusedVariables false
set_option maxRecDepth 20000
set_option maxHeartbeats 64000000 in
theorem unitOf_any (W0 w : World) (hb : Below W0.heap.size W0 w) (G S : Option Addr) (gl gc sl sc : Nat) (gs : List ByteArray) (L : List Shp) (hE : EnvAt W0 G gl gc gs S sl sc L) (A : Option Addr) (N cap : Nat) (css : List (List Value)) (fs : List Int) (ts : List Dt) (hD : RowD W0 w A N cap css fs ts) (hN : N <= 1048576)
  (hck : ∀ i, (h : i < css.length) -> (h' : i < fs.length) -> ∀ w', Below W0.heap.size W0 w' -> Calls Tryd.prog 15 #[.agg css[i].toArray] w' (fun e w'' => e = .returned (.int .i64 fs[i]) /\ Below w'.heap.size w' w'')) :
  Calls Tryd.prog 5 #[.slice A N cap, .agg #[.slice G gl gc, .slice S sl sc]] w (fun e w' => UFin W0 w e w' (unitAll gs (L.map Shp.sh) (envF gs L) fs ts)) := by
 have HB := Lib.hid hb
 have HE := Lib.hid hE
 have HD := Lib.hid hD
 have HNN := Lib.hid hN
 have HCK := Lib.hid hck
 have hN1 : N <= 9223372036854775807 := by omega
 have HIN := Lib.hid (FmIn.start w G S gl gc sl sc 26 30)
 have HW0 := Lib.hid (hb.trans (HIN.out.below.mono hb.size))
 obtain ⟨r, hr⟩ : ∃ r, unitAll gs (L.map Shp.sh) (envF gs L) fs ts = r := ⟨_, rfl⟩
 rw [hr]
 obtain ⟨ef, hef⟩ : ∃ ef, envF gs L = ef := ⟨_, rfl⟩
 rw [hef] at hr
 have HR := Lib.hid hr
 have HEF := Lib.hid hef
 have KE := Lib.hid (envFault_any _ G S gl gc sl sc gs L (HE.out.below HW0.out))
 rw [hef] at KE
 clear hb hE hD hr hef hN hck
 by_cases he : ef = 0
 case neg =>
  obtain rfl : r = .bad 0 ef := by rw [<- HR.out]; exact unit_env he
  have heb : (ef != 0) = true := by rw [bne_iff_ne]; exact he
  go_enter Tryd.func5, Tryd.ntmps5
  go_wp2_with fail
  refine KE.out.mono ?_
  rintro e w1 ⟨rfl, hb1⟩
  have HI1 := Lib.hid (HIN.out.next hb1)
  have R := HI1.out.r
  have RF := HI1.out.rf
  have hltR := HI1.out.lt
  clear hb1
  go_wp2_with fail
  exact bodyPost_ret (v := .tuple #[.agg #[.slice none 0 0, .slice none 0 0, .slice none 0 0], .int .i64 0, .int .i64 ef]) (by simp [results, Tryd.results5, go_sem, R]) rfl ⟨rfl, below3 (by omega) HI1.out.below _ _ _⟩
 subst he
 go_enter Tryd.func5, Tryd.ntmps5
 go_wp2_with fail
 refine KE.out.mono ?_
 rintro e w1 ⟨rfl, hb1⟩
 have HI1 := Lib.hid (HIN.out.next hb1)
 clear hb1
 go_wp2_with fail
 go_loopg [8] N (fun g i wr => ∃ k : Nat, g = N - k /\ k <= N /\ i = .int .i64 k /\ FmIn w wr G gl gc S sl sc /\ ∀ j, j < k -> (hj : j < fs.length) -> fs[j] = 0)
 case atStart => exact ⟨0, by omega, by omega, rfl, HI1.out, fun j h => absurd h (by omega)⟩
 case round =>
  obtain ⟨k, hg, hk, rfl, hin, hall⟩ := hrel
  have HG := Lib.hid hg
  have HALL := Lib.hid hall
  have HI := Lib.hid hin
  have HBW := Lib.hid (HB.out.trans (hin.below.mono HB.out.size))
  clear hg hall hin
  by_cases hlt : k < N
  ·
   have hkc : k < css.length := by rw [HD.out.size]; exact hlt
   have hkf : k < fs.length := by rw [HD.out.fsz]; exact hlt
   have hki : (k : Int) < (N : Int) := by omega
   have hk0 : (0 : Int) <= (k : Int) := Int.natCast_nonneg _
   obtain ⟨b, o, dk, dn, ds, A', l', c', rfl, hbw, q0, q1, q2, q3, hc⟩ := (HD.out.below HI.out.below).nth k hlt
   have kc := HCK.out k hkc hkf _ HBW.out
   rw [hc] at kc
   have KC := Lib.hid kc
   clear kc hc
   go_wp2_with fail
   refine KC.out.mono ?_
   rintro e w2 ⟨rfl, hb2⟩
   have HI2 := Lib.hid (HI.out.next hb2)
   have R := HI2.out.r
   have RF := HI2.out.rf
   have hltR := HI2.out.lt
   clear hb2 KC
   by_cases hf : fs[k] = 0
   ·
    have HF := Lib.hid hf
    rw [hf]
    clear hf R RF
    go_wp2_with fail
    go_roundg (N - (k + 1))
    case rel =>
     refine ⟨k + 1, rfl, by omega, by go_num, HI2.out, fun j hj hj' => ?_⟩
     by_cases hjk : j = k
     ·
      subst hjk; exact HF.out
     exact HALL.out j (by omega) hj'
    case measure => have := HG.out; omega
   obtain ⟨fk, hfk⟩ : ∃ fk, fs[k] = fk := ⟨_, rfl⟩
   obtain rfl : r = .bad k fk := by rw [<- HR.out, <- hfk]; exact unit_datum rfl hkf HALL.out hf
   rw [hfk] at hf ⊢
   have hfb : (fk != 0) = true := by rw [bne_iff_ne]; exact hf
   clear hfk
   go_wp2_with fail
   exact bodyPost_ret (v := .tuple #[.agg #[.slice none 0 0, .slice none 0 0, .slice none 0 0], .int .i64 k, .int .i64 fk]) (by simp [results, Tryd.results5, go_sem, R]) rfl ⟨rfl, below3 (by omega) HI2.out.below _ _ _⟩
  have hkN : k = N := by omega
  subst k
  have HZ := Lib.hid (show ∀ j, (hj : j < fs.length) -> fs[j] = 0 from fun j hj => HALL.out j (by rw [<- HD.out.fsz]; exact hj) hj)
  have HRR := Lib.hid (show unitR gs (L.map Shp.sh) ts = r from by rw [<- HR.out]; exact (unit_run rfl HZ.out).symm)
  clear HALL hk hlt
  go_wp2_with fail
  obtain ⟨U, hU⟩ : ∃ U, wr.heap.size = U := ⟨_, rfl⟩
  have hltU : w.heap.size + 1 < U := by rw [<- hU]; exact HI.out.lt
  have hw0F : W0.heap.size <= w.heap.size := HB.out.size
  obtain ⟨w3, hw3⟩ : ∃ w3, wr.alloc (.cells #[.slice none 0 0, .slice none 0 0, .slice none 0 0] 30) = w3 := ⟨_, rfl⟩
  have hb3 : Below wr.heap.size wr w3 := by rw [<- hw3]; exact (Below.refl _ _).alloc (Nat.le_refl _) _
  have hC0 : ColR W0 w3 (U + 1) U (.slice none 0 0) (.slice none 0 0) [] [] := by rw [<- hw3, <- hU]; exact ColR.start HBW.out _
  rw [hw3, hU]
  have HI3 := Lib.hid (HI.out.next hb3)
  have HC0 := Lib.hid hC0
  have HSU := Lib.hid hU
  clear hw3 hC0 hb3 HI HBW hU
  go_loopg [10, 11] N (fun g vN i wr => ∃ (k : Nat) (vS vM : Value) (X : List SV) (nm : List ByteArray), vM = vN /\ g = N - k /\ k <= N /\ i = .int .i64 k /\ ColR W0 wr (U + 1) U vS vM X nm /\ zy (U + 1) U U w3 wr /\ runT zt ([], []) 0 (ts.take k) = .ok (X.map SV.sh, nm) /\ X.length <= k /\ nm.length <= k)
  case atStart => exact ⟨0, _, _, [], [], rfl, by omega, by omega, rfl, HC0.out, zy.refl _ _ _ _, rfl, by simp, by simp⟩
  obtain ⟨k, vS, vN, X, nm, rfl, hg, hk, rfl, hC, hG, hrun, hX, hnm⟩ := hrel
  have HG := Lib.hid hg
  have HC := Lib.hid hC
  have HGR := Lib.hid hG
  have HRUN := Lib.hid hrun
  have HXL := Lib.hid hX
  have HNL := Lib.hid hnm
  have HI := Lib.hid (HI3.out.grown hG (by omega) (by omega) (by omega))
  have hbs := hC.bs
  have hk0 : (0 : Int) <= (k : Int) := Int.natCast_nonneg _
  clear hg hC hG hrun hX hnm
  by_cases hlt : k < N
  ·
   have hkt : k < ts.length := by rw [HD.out.tsz]; exact hlt
   have hki : (k : Int) < (N : Int) := by omega
   obtain ⟨b, o, A', c', rfl, hbw, hgd, hd, q0, q1, q2, q3⟩ := (HD.out.below HI.out.below).nthT HZ.out k hlt
   have HCE := Lib.hid (fun (e : Int) (hc : zt (X.map SV.sh, nm) ts[k] = .err e) => unit_collect (gs := gs) (vsh := L.map Shp.sh) hkt HRUN.out hc)
   have HCO := Lib.hid (fun (st : List Sh × List ByteArray) (hc : zt (X.map SV.sh, nm) ts[k] = .ok st) => runT_on hkt HRUN.out hc)
   generalize ts[k] = d at hgd hd q0 q1 q2 q3 HCE HCO
   have HGDD := Lib.hid hgd
   have KP := Lib.hid (topParts_any (F := U) HC.out.below HC.out.geU d A' c' hd hgd.len)
   clear hgd hd
   go_wp2_with fail
   refine KP.out.mono ?_
   intro e w5 hp
   cases hh : headF d with
   | none =>
    rw [hh] at hp
    obtain ⟨rfl, hb5⟩ := hp
    obtain rfl : r = .bad k 4 := by rw [<- HRR.out]; exact HCE.out 4 (col_none hh)
    have HI5 := Lib.hid (HI.out.next hb5)
    have R := HI5.out.r
    have RF := HI5.out.rf
    have hltR := HI5.out.lt
    clear hb5 hh KP
    go_wp2_with fail
    exact bodyPost_ret (v := .tuple #[.agg #[.slice none 0 0, .slice none 0 0, .slice none 0 0], .int .i64 k, .int .i64 4]) (by simp [results, Tryd.results5, go_sem, R]) rfl ⟨rfl, below3 (by omega) HI5.out.below _ _ _⟩
   | some q =>
    obtain ⟨s, rest⟩ := q
    rw [hh] at hp
    obtain ⟨A1, c1, rfl, hds, hb5⟩ := hp
    obtain ⟨g, gs1, rfl, hsub, hlen⟩ := head_some hh
    have HGS := Lib.hid (show ∀ x ∈ g :: gs1, Good 40 x from fun x hx => HGDD.out.low (hsub x hx))
    have hln : (g :: gs1).length <= 1048576 := Nat.le_trans hlen HGDD.out.len
    have HH := Lib.hid hh
    have HC5 := Lib.hid (HC.out.next hb5)
    have HI5 := Lib.hid (HI.out.next hb5)
    have HG5 := Lib.hid (HGR.out.trans (zy.below hb5 HC.out.bs))
    have HDS := Lib.hid hds
    obtain ⟨M, hM⟩ : ∃ M, (g :: gs1).length = M := ⟨_, rfl⟩
    have HMM := Lib.hid hM
    rw [hM]
    have hs5 := hb5.size
    clear hh hsub hlen hb5 hds KP q0 q1 q2 q3
    by_cases h1 : s.toList = wRecord
    case pos =>
     have b1 : (s.toList == [114, 101, 99, 111, 114, 100]) = true := by rw [h1]; rfl
     have HRC := Lib.hid (col_rec (st := (X.map SV.sh, nm)) HH.out h1)
     have KS := Lib.hid (topShape_any HC5.out.below HC5.out.geU A1 c1 g gs1 HDS.out HGS.out hln)
     rw [hM] at KS
     clear h1 hM
     as_aux_lemma =>
      go_wp2_with fail
      refine KS.out.mono ?_
      intro e w6 hp
      cases hsh : shapeT (g :: gs1) with
      | err c2 =>
       rw [hsh] at hp
       obtain ⟨nn, A2, n2, cap2, rfl, hc2, hb6⟩ := hp
       obtain rfl : r = .bad k c2 := by rw [<- HRR.out]; exact HCE.out c2 (by rw [HRC.out, hsh])
       have hc2b : (c2 != 0) = true := by simpa using hc2
       have hc2e : (c2 == 0) = false := by simpa using hc2
       have hb6' := hb6.alloc hb6.size (.cells #[.string nn, .slice A2 n2 cap2] 53)
       have HI6 := Lib.hid (HI5.out.next hb6')
       have R := HI6.out.r
       have RF := HI6.out.rf
       have hltR := HI6.out.lt
       clear hb6 hb6' hc2 hsh KS
       go_wp2_with fail
       exact bodyPost_ret (v := .tuple #[.agg #[.slice none 0 0, .slice none 0 0, .slice none 0 0], .int .i64 k, .int .i64 c2]) (by simp [results, Tryd.results5, go_sem, R]) rfl ⟨rfl, below3 (by omega) HI6.out.below _ _ _⟩
      | ok sh =>
       obtain ⟨nn, fl⟩ := sh
       rw [hsh] at hp
       obtain ⟨A2, cap2, rfl, hnm, hb6⟩ := hp
       obtain ⟨hgood, g0, gs0, hgg, hn0, hf0⟩ := shapeT_ok hsh
       have hok : SV.Ok ⟨nn, A2, cap2, fl, w5.heap.size, w6.heap.size⟩ := ⟨by rw [hn0]; exact (HGS.out g0 (by rw [hgg]; simp)).wide, fun x hx => by
        rw [show (SV.mk nn A2 cap2 fl w5.heap.size w6.heap.size).ss = gs0.map Dt.s from hf0] at hx
        obtain ⟨y, hy, rfl⟩ := List.mem_map.1 hx
        exact (HGS.out y (by rw [hgg]; exact List.mem_cons_of_mem _ hy)).wide, hgood⟩
       obtain ⟨w7, hw7⟩ : ∃ w7, w6.alloc (.cells #[.string nn, .slice A2 fl.length cap2] 53) = w7 := ⟨_, rfl⟩
       have hb67 : Below w6.heap.size w6 w7 := by rw [<- hw7]; exact (Below.refl _ _).alloc (Nat.le_refl _) _
       have hs67 : w6.heap.size + 1 <= w7.heap.size := by rw [<- hw7]; simp
       have m0 : w7.cell? ⟨w6.heap.size, 0, none⟩ = some (.string nn) := by rw [<- hw7]; exact za _ _ _ 0
       have m1 : w7.cell? ⟨w6.heap.size, 1, none⟩ = some (.slice A2 fl.length cap2) := by rw [<- hw7]; exact za _ _ _ 1
       have hb7 := hb6.trans (hb67.mono hb6.size)
       have HI7 := Lib.hid (HI5.out.next hb7)
       have HC7 := Lib.hid (HC5.out.next hb7)
       have HG7 := Lib.hid (HG5.out.trans (zy.below hb7 HC5.out.bs))
       have HXO := Lib.hid (show kitSh.ok w7 ⟨nn, A2, cap2, fl, w5.heap.size, w6.heap.size⟩ from ⟨hnm.mono (zw hb67) hb67.size (Nat.le_refl _) (Nat.le_refl _), hb67.size, hok⟩)
       have HRD := Lib.hid (show zt (X.map SV.sh, nm) d = if inL ((X.map SV.sh).map (·.1)) nn = true then .err 7 else .ok (X.map SV.sh ++ [(nn, fl)], nm) from by rw [HRC.out, hsh])
       have HW7 := Lib.hid hw7
       have hs6 := hb6.size
       obtain ⟨Av, cv, hvS, hv1, hv2, hshp⟩ := HC7.out.oS.shps
       subst hvS
       have KI := Lib.hid (shapeAt_any nn Av X.length cv (X.map SV.shp) w7 hv2 hv1 hshp)
       have nmS : names (X.map SV.shp) = (X.map SV.sh).map (·.1) := by unfold names; rw [List.map_map, List.map_map]; rfl
       rw [nmS] at KI
       have u0 := HC7.out.u0
       have R := HI7.out.r
       have RF := HI7.out.rf
       have hltR := HI7.out.lt
       have hUw : U < w7.heap.size := by have := HC7.out.bs; omega
       clear hnm hb6 hb67 hb7 hgood hgg hn0 hf0 hok hsh hw7 hshp nmS KS
       go_upto_region 20 with fail
       rw [HW7.out]
       go_wp2_with fail
       refine KI.out.mono ?_
       rintro e w7' ⟨rfl, rfl⟩
       rcases idxL_range2 ((X.map SV.sh).map (·.1)) nn with ⟨hin, i, hiX, hil⟩ | ⟨hin, hiX⟩
       case inl =>
        obtain rfl : r = .bad k 7 := by rw [<- HRR.out]; exact HCE.out 7 (by rw [HRD.out, if_pos hin])
        rw [hiX]
        have hi0 : (0 : Int) <= (i : Int) := Int.natCast_nonneg _
        clear hin hiX hil
        go_wp2_with fail
        exact bodyPost_ret (v := .tuple #[.agg #[.slice none 0 0, .slice none 0 0, .slice none 0 0], .int .i64 k, .int .i64 7]) (by simp [results, Tryd.results5, go_sem, R]) rfl ⟨rfl, below3 (by omega) HI7.out.below _ _ _⟩
       rw [hiX]
       have HCF := Lib.hid (HCO.out _ (show zt (X.map SV.sh, nm) d = .ok (X.map SV.sh ++ [(nn, fl)], nm) from by rw [HRD.out, if_neg (by rw [hin]; simp)]))
       have hXl : X.length + 1 <= 1048580 := by have := HXL.out; have := HNN.out; omega
       have hbs7 := HC7.out.bs
       have hbs5 := HC5.out.bs
       have HVS := Lib.hid (show ∀ b, (Value.slice Av X.length cv).ownBlock = some b -> b < w5.heap.size from fun b hb => (HC5.out.oS.row.lt b hb).2)
       have HVN := Lib.hid (show ∀ b, vN.ownBlock = some b -> b < w5.heap.size from fun b hb => (HC5.out.oN.row.lt b hb).2)
       clear hin hiX R RF
       go_wp2_with (at_builtin; refine wpList_sh rfl (.tmp 89) (.tmp 91) rfl HC7.out.oS ⟨nn, A2, cap2, fl, w5.heap.size, w6.heap.size⟩ _ rfl HXO.out (fun b hb => Nat.le_trans hbs5 hb.1) (fun b hb e => Nat.lt_irrefl _ (Nat.lt_of_lt_of_le (HVS.out b e) hb.1)) rfl rfl hXl hbs7 ?_; intro v8 w8 h5 h6 h7; obtain ⟨k8, f8, s8⟩ := row_keep (g := U) h6 hUw (fun b hb => Nat.lt_of_succ_le (HC7.out.oS.row.lt b hb).1); have k80 := (k8 0).trans u0; have f80 := (f8 0).trans (HC7.out.fu 0); have HS8 := Lib.hid (HC7.out.shape h5 h6 h7 (fun b hb e => Nat.lt_irrefl _ (Nat.lt_of_lt_of_le (HVN.out b e) hb.1))); obtain ⟨A8, c8, h8, _⟩ := h5.form; rw [show (X ++ [SV.mk nn A2 cap2 fl w5.heap.size w6.heap.size]).length = X.length + 1 by simp] at h8; subst h8; clear h5 h6 h7 k8 f8)
       go_wp2_with fail
       go_roundg (N - (k + 1))
       case rel => exact ⟨k + 1, _, _, X ++ [⟨nn, A2, cap2, fl, w5.heap.size, w6.heap.size⟩], nm, rfl, rfl, by omega, by go_num, HS8.out.1, HG7.out.trans HS8.out.2, by have := HCF.out; simpa [SV.sh] using this, by have := HXL.out; simp; omega, by have := HNL.out; omega⟩
       case measure => have := HG.out; omega
    have b1 : (s.toList == [114, 101, 99, 111, 114, 100]) = false := by simpa [wRecord] using h1
    by_cases h2 : s.toList = wDefine
    case pos =>
     have b2 : (s.toList == [100, 101, 102, 105, 110, 101]) = true := by rw [h2]; rfl
     have HRC := Lib.hid (col_def (st := (X.map SV.sh, nm)) HH.out h2)
     have KS := Lib.hid (topName_any HC5.out.below HC5.out.geU A1 c1 g gs1 HDS.out (HGS.out g (by simp)) hln)
     rw [hM] at KS
     clear h1 h2 hM
     as_aux_lemma =>
      go_wp2_with fail
      refine KS.out.mono ?_
      rintro e w6 ⟨rfl, hb6⟩
      have HI6 := Lib.hid (HI5.out.next hb6)
      have HC6 := Lib.hid (HC5.out.next hb6)
      have HG6 := Lib.hid (HG5.out.trans (zy.below hb6 HC5.out.bs))
      have hs6 := hb6.size
      have R := HI6.out.r
      have RF := HI6.out.rf
      have hltR := HI6.out.lt
      clear hb6 KS
      cases hdf : defT (g :: gs1) with
      | none =>
       obtain rfl : r = .bad k 4 := by rw [<- HRR.out]; exact HCE.out 4 (by rw [HRC.out, hdf])
       have hem : ((⟨#[]⟩ : ByteArray).toList == []) = true := by rw [ByteArray.toList_eq]; rfl
       clear hdf
       (try simp only [Option.getD_none])
       go_wp2_with fail
       exact bodyPost_ret (v := .tuple #[.agg #[.slice none 0 0, .slice none 0 0, .slice none 0 0], .int .i64 k, .int .i64 4]) (by simp [results, Tryd.results5, go_sem, R]) rfl ⟨rfl, below3 (by omega) HI6.out.below _ _ _⟩
      | some n2 =>
       have hem := defT_ne hdf HGS.out
       have HRD := Lib.hid (show zt (X.map SV.sh, nm) d = if inL nm n2 = true then .err 7 else .ok (X.map SV.sh, nm ++ [n2]) from by rw [HRC.out, hdf])
       obtain ⟨Av, cv, rfl, hv1, hv2, _⟩ := HC6.out.oN.form
       obtain ⟨A9, c9, hv9, hsc9, hnm9⟩ := own_names (lo := U + 1) (F := U) HC6.out.oN (by omega) (Nat.le_refl _)
       obtain ⟨rfl, rfl⟩ : Av = A9 /\ cv = c9 := by simpa using hv9
       have KI := Lib.hid (isIn_any n2 Av nm.length cv nm w6 hv2 hv1 hsc9.strs)
       clear hdf hv9 hsc9 hnm9
       (try simp only [Option.getD_some])
       go_wp2_with fail
       refine KI.out.mono ?_
       rintro e w6' ⟨rfl, rfl⟩
       cases hin : inL nm n2
       case true =>
        obtain rfl : r = .bad k 7 := by rw [<- HRR.out]; exact HCE.out 7 (by rw [HRD.out, if_pos hin])
        clear hin
        go_wp2_with fail
        exact bodyPost_ret (v := .tuple #[.agg #[.slice none 0 0, .slice none 0 0, .slice none 0 0], .int .i64 k, .int .i64 7]) (by simp [results, Tryd.results5, go_sem, R]) rfl ⟨rfl, below3 (by omega) HI6.out.below _ _ _⟩
       have HCF := Lib.hid (HCO.out _ (show zt (X.map SV.sh, nm) d = .ok (X.map SV.sh, nm ++ [n2]) from by rw [HRD.out, if_neg (by rw [hin]; simp)]))
       have hnml : nm.length + 1 <= 1048577 := by have := HNL.out; have := HNN.out; omega
       have hbs6 := HC6.out.bs
       clear hin R RF
       go_wp2_with (at_builtin; refine wpList_sV rfl (.tmp 107) (.tmp 109) rfl HC6.out.oN n2 _ rfl rfl rfl hnml hbs6 ?_; intro v7 w7 h5 h6 h7; obtain ⟨hC7, hG7⟩ := HC6.out.name h5 h6 h7; have HC7 := Lib.hid hC7; have HG7 := Lib.hid hG7; clear h5 h6 h7 hC7 hG7)
       go_wp2_with fail
       go_roundg (N - (k + 1))
       case rel => exact ⟨k + 1, vS, _, X, nm ++ [n2], rfl, rfl, by omega, by go_num, HC7.out, HG6.out.trans HG7.out, HCF.out, by have := HXL.out; omega, by have := HNL.out; simp; omega⟩
       case measure => have := HG.out; omega
    have b2 : (s.toList == [100, 101, 102, 105, 110, 101]) = false := by simpa [wDefine] using h2
    by_cases h3 : s.toList = wUpgrade
    case pos =>
     have b3 : (s.toList == [117, 112, 103, 114, 97, 100, 101]) = true := by rw [h3]; rfl
     have HRC := Lib.hid (HCO.out _ (col_up (st := (X.map SV.sh, nm)) HH.out h3))
     clear h1 h2 h3 hM
     go_wp2_with fail
     go_roundg (N - (k + 1))
     case rel => exact ⟨k + 1, vS, _, X, nm, rfl, rfl, by omega, by go_num, HC5.out, HG5.out, HRC.out, by have := HXL.out; omega, by have := HNL.out; omega⟩
     case measure => have := HG.out; omega
    have b3 : (s.toList == [117, 112, 103, 114, 97, 100, 101]) = false := by simpa [wUpgrade] using h3
    obtain rfl : r = .bad k 4 := by rw [<- HRR.out]; exact HCE.out 4 (col_else HH.out h1 h2 h3)
    have R := HI5.out.r
    have RF := HI5.out.rf
    have hltR := HI5.out.lt
    clear h1 h2 h3 hM
    go_wp2_with fail
    exact bodyPost_ret (v := .tuple #[.agg #[.slice none 0 0, .slice none 0 0, .slice none 0 0], .int .i64 k, .int .i64 4]) (by simp [results, Tryd.results5, go_sem, R]) rfl ⟨rfl, below3 (by omega) HI5.out.below _ _ _⟩
  have hkN : k = N := by omega
  subst k
  have HCOL := Lib.hid (show runT zt ([], []) 0 ts = .ok (X.map SV.sh, nm) from by have := HRUN.out; rwa [<- HD.out.tsz, List.take_length] at this)
  clear HRUN hk hlt
  obtain ⟨M, hM⟩ : ∃ M, nm.length = M := ⟨_, rfl⟩
  have hMM : M <= 1048576 := by have := HNL.out; have := HNN.out; omega
  obtain ⟨An, cn, rfl, hscN, hnN⟩ := own_names (lo := U + 1) (F := U) HC.out.oN (Nat.lt_succ_self _) (Nat.le_refl _)
  have HNR := Lib.hid hnN
  have HMM := Lib.hid hM
  rw [hM]
  clear hscN hnN hM
  obtain rfl : gl = gs.length := HE.out.globs.size.symm
  have c0 := HI.out.c0
  have c1 := HI.out.c1
  obtain ⟨AS, cS, rfl, hAS1, hAS2, hSX⟩ := HC.out.oS.shps
  have u0 := HC.out.u0
  have u1 := HC.out.u1
  have u2 := HC.out.u2
  have hgs := envF_zero HEF.out
  have HGS := Lib.hid hgs
  have HBW := Lib.hid (HB.out.trans (HI.out.below.mono HB.out.size))
  have hSL := HE.out.shapes.below HBW.out
  have hEw : w.heap.size < wr.heap.size := by omega
  have hUw : U < wr.heap.size := by omega
  have HSX := Lib.hid hSX
  have hslN : sl + X.length <= 1099511627776 := by have h1 := HGS.out.2.1; have h2 := hSL.size; have h3 := HXL.out; have h4 := HNN.out; omega
  have hcs := And.intro HE.out.sle HE.out.scap
  have hcg := And.intro HE.out.gle HE.out.gcap
  have heq : (L ++ X.map SV.shp).map Shp.sh = L.map Shp.sh ++ X.map SV.sh := by rw [List.map_append, List.map_map]; rfl
  have hkb := (fun (W : World) (hW : Below wr.heap.size wr W) => behind_one W G S AS none none gs.length gc sl sc X.length cS 0 0 0 0 L (X.map SV.shp) (hSL.below hW) (HSX.out.below hW) hcs ⟨hAS1, hAS2⟩ hslN (lens_ok HC.out.oS HGS.out.2.2 hSL HSX.out))
  rw [heq] at hkb
  have HKB := Lib.hid hkb
  have HKT := Lib.hid (fun (W : World) (p : Nat) (hW : Below wr.heap.size wr W) (hp : W.cell? ⟨p, 0, none⟩ = some (.slice G gs.length gc)) => texts_one hp ((HE.out.globs.below HBW.out).below hW) hcg.1 hcg.2 HGS.out.1)
  have hne : wr.heap.size ≠ w.heap.size := by omega
  have hnu : wr.heap.size ≠ U := by omega
  have hne1 : wr.heap.size + 1 ≠ w.heap.size := by omega
  have hnu1 : wr.heap.size + 1 ≠ U := by omega
  clear hSX hgs hSL hslN hcs hcg hkb heq
  go_upto_region 33 with fail
  go_cut [17] (fun v17 wx => PlN wr gs (Sh.behindC (L.map Shp.sh ++ X.map SV.sh)) v17 wx)
  case first =>
   as_aux_lemma =>
    go_region_held3 (fun w' => w'.cell? ⟨w.heap.size, 0, none⟩ = some (.slice G gs.length gc) /\ w'.cell? ⟨w.heap.size, 1, none⟩ = some (.slice S sl sc) /\ w'.cell? ⟨U, 0, none⟩ = some (.slice AS X.length cS) /\ w'.cell? ⟨U, 1, none⟩ = some (.slice none 0 0) /\ w'.cell? ⟨U, 2, none⟩ = some (.slice none 0 0)) (go_keep)
     (first | (go_at_call 22; refine (HKB.out _ (by (with_reducible repeat' (first | exact Below.refl _ _ | exact HKw7.out | apply Below.drew | apply below_drewN | refine Below.alloc ?_ ?_ _)); all_goals (try simp); all_goals (try omega))).mono ?_; rintro e w8 ⟨A8, c8, X8, rfl, hp8⟩; have HT8 := Lib.hid hp8; have hb8 := hp8.2.2.2.2.1; have hw8 := (show Below wr.heap.size wr _ from (by (with_reducible repeat' (first | exact Below.refl _ _ | exact HKw7.out | apply Below.drew | apply below_drewN | refine Below.alloc ?_ ?_ _)); all_goals (try simp); all_goals (try omega))).trans (hb8.mono (by first | exact Nat.le_refl _ | (simp; done) | omega | (simp; omega))); have mw8c0 : w8.cell? ⟨w.heap.size, 0, none⟩ = some (.slice G gs.length gc) := (hw8.cell (p := ⟨w.heap.size, 0, none⟩) hEw).trans c0; have mw8c1 : w8.cell? ⟨w.heap.size, 1, none⟩ = some (.slice S sl sc) := (hw8.cell (p := ⟨w.heap.size, 1, none⟩) hEw).trans c1; have mw8u0 : w8.cell? ⟨U, 0, none⟩ = some (.slice AS X.length cS) := (hw8.cell (p := ⟨U, 0, none⟩) hUw).trans u0; have mw8u1 : w8.cell? ⟨U, 1, none⟩ = some (.slice none 0 0) := (hw8.cell (p := ⟨U, 1, none⟩) hUw).trans u1; have mw8u2 : w8.cell? ⟨U, 2, none⟩ = some (.slice none 0 0) := (hw8.cell (p := ⟨U, 2, none⟩) hUw).trans u2; have HKw8 := Lib.hid hw8; obtain ⟨gw8, fw8⟩ := bcell hb8; have hsw8 := hb8.size; (try simp at hsw8); (try replace hsw8 := Nat.lt_of_succ_le hsw8); (try have hsw8b := Nat.lt_of_succ_lt hsw8); have hnw8 : w8.heap.size ≠ w.heap.size := (by omega); have huw8 : w8.heap.size ≠ U := (by omega); have hnw81 : w8.heap.size + 1 ≠ w.heap.size := (by omega); have huw81 : w8.heap.size + 1 ≠ U := (by omega); clear hw8; clear hp8 hb8) | (go_at_call 21; refine (HKT.out _ _ (by (with_reducible repeat' (first | exact Below.refl _ _ | exact HKw8.out | apply Below.drew | apply below_drewN | refine Below.alloc ?_ ?_ _)); all_goals (try simp); all_goals (try omega)) (by (try simp only [World.cell?_drew]); first | exact za _ _ _ 0 | (simp [go_sem]; done) | (simp [go_sem, gw8]; done) | (simp [go_sem, World.cell?_alloc_some, gw8]; done))).mono ?_; rintro e w7 ⟨A6, c6, rfl, ho7, hb7⟩; have HT7 := Lib.hid ho7; have HB7 := Lib.hid hb7; have hw7 := (show Below wr.heap.size wr _ from (by (with_reducible repeat' (first | exact Below.refl _ _ | exact HKw8.out | apply Below.drew | apply below_drewN | refine Below.alloc ?_ ?_ _)); all_goals (try simp); all_goals (try omega))).trans (hb7.mono (by first | exact Nat.le_refl _ | (simp; done) | omega | (simp; omega))); have mw7c0 : w7.cell? ⟨w.heap.size, 0, none⟩ = some (.slice G gs.length gc) := (hw7.cell (p := ⟨w.heap.size, 0, none⟩) hEw).trans c0; have mw7c1 : w7.cell? ⟨w.heap.size, 1, none⟩ = some (.slice S sl sc) := (hw7.cell (p := ⟨w.heap.size, 1, none⟩) hEw).trans c1; have mw7u0 : w7.cell? ⟨U, 0, none⟩ = some (.slice AS X.length cS) := (hw7.cell (p := ⟨U, 0, none⟩) hUw).trans u0; have mw7u1 : w7.cell? ⟨U, 1, none⟩ = some (.slice none 0 0) := (hw7.cell (p := ⟨U, 1, none⟩) hUw).trans u1; have mw7u2 : w7.cell? ⟨U, 2, none⟩ = some (.slice none 0 0) := (hw7.cell (p := ⟨U, 2, none⟩) hUw).trans u2; have HKw7 := Lib.hid hw7; obtain ⟨gw7, fw7⟩ := bcell hb7; have hsw7 := hb7.size; (try simp at hsw7); (try replace hsw7 := Nat.lt_of_succ_le hsw7); (try have hsw7b := Nat.lt_of_succ_lt hsw7); have hnw7 : w7.heap.size ≠ w.heap.size := (by omega); have huw7 : w7.heap.size ≠ U := (by omega); have hnw71 : w7.heap.size + 1 ≠ w.heap.size := (by omega); have huw71 : w7.heap.size + 1 ≠ U := (by omega); clear hw7; clear ho7 hb7))
    all_goals (go_wp2_with fail)
    all_goals go_meet
    ·
     with_reducible refine pl_after ?_ HT7.out HB7.out (Below.refl _ _) HT8.out
     exact (by (with_reducible repeat' (first | exact Below.refl _ _ | apply Below.drew | apply below_drewN | refine Below.alloc ?_ ?_ _)); all_goals (try simp); all_goals (try omega))
    ·
     with_reducible refine pl_before (W0 := w7) rfl ?_ ?_ HT7.out HB7.out ?_ HT8.out (Or.inr (Nat.le_refl _)) ?_ (Below.refl _ _)
     ·
      omega
     ·
      exact (by (with_reducible repeat' (first | exact Below.refl _ _ | apply Below.drew | apply below_drewN | refine Below.alloc ?_ ?_ _)); all_goals (try simp); all_goals (try omega))
     ·
      exact (by (with_reducible repeat' (first | exact Below.refl _ _ | apply Below.drew | apply below_drewN | refine Below.alloc ?_ ?_ _)); all_goals (try simp); all_goals (try omega))
     simp
    ·
     with_reducible refine pl_before (W0 := wr.alloc (.cells #[.slice G gs.length gc] 23)) ?_ ?_ ?_ HT7.out HB7.out (Below.refl _ _) HT8.out (Or.inl ?_) ?_ (below_undrew HB7.out)
     ·
      simp
     ·
      omega
     ·
      exact (by (with_reducible repeat' (first | exact Below.refl _ _ | apply Below.drew | apply below_drewN | refine Below.alloc ?_ ?_ _)); all_goals (try simp); all_goals (try omega))
     ·
      simp
     omega
    with_reducible refine pl_before (W0 := wr) rfl (Nat.le_refl _) ?_ HT7.out HB7.out (Below.refl _ _) HT8.out (Or.inl ?_) ?_ (below_undrew2 HB7.out)
    ·
     exact (by (with_reducible repeat' (first | exact Below.refl _ _ | apply Below.drew | apply below_drewN | refine Below.alloc ?_ ?_ _)); all_goals (try simp); all_goals (try omega))
    ·
     first | (simp; done) | (simp; omega)
    omega
  obtain ⟨p, A6, c6, A8, c8, X8, rfl, hp, hplt, p0, p1, p2, p3, p4, pf, hO6, hne6, hl8, hc8, hS8, hX8, hSO, hbw⟩ := hcut
  obtain ⟨g6, hg6, hg6w, hg6p⟩ := own_blk hO6 hp
  have HG0 := Lib.hid (GlR.start hO6 hne6 p0 pf hplt hg6)
  have HIP := Lib.hid (HI.out.next hbw)
  have HCP := Lib.hid (HC.out.next hbw)
  have HGP := Lib.hid (HGR.out.trans (zy.below hbw HC.out.bs))
  have HBP := Lib.hid hbw
  have HP4 := Lib.hid (And.intro p1 (And.intro p2 (And.intro p3 p4)))
  have HS8 := Lib.hid (And.intro hl8 (And.intro hc8 hS8))
  have HX8 := Lib.hid hX8
  have HSO := Lib.hid (show ShOf (fun b => wr.heap.size <= b /\ b ≠ p /\ b ≠ g6) A8 X8 from hSO.mono (fun b hb => ⟨hb.1, hb.2.1, fun e => by
   rcases hg6p with h | h
   ·
    exact hb.2.2 (by rw [h, e])
   exact hb.2.1 (by rw [e, h])⟩))
  have hsP := hbw.size
  obtain ⟨wp, hwp⟩ : ∃ wp, wc = wp := ⟨_, rfl⟩
  rw [hwp] at HG0 HIP HCP HGP HBP HP4 HS8 hsP hplt ⊢
  obtain ⟨B, hB⟩ : ∃ B, wr.heap.size = B := ⟨_, rfl⟩
  have HNQ := Lib.hid (show 0 < nm.length -> ∃ b o, An = some ⟨b, o, none⟩ /\ b < B /\ ∀ i, (h : i < nm.length) -> wp.cell? ⟨b, o + i, none⟩ = some (.string nm[i]) from fun h0 => by
   obtain ⟨b, o, e, _, l2, _, hr⟩ := HNR.out.at_ h0
   exact ⟨b, o, e, by omega, fun i h => (HBP.out.cell (p := ⟨b, o + i, none⟩) l2).trans (hr i h)⟩)
  have hUB : U < B := by omega
  have HBQ := Lib.hid hB
  rw [hB] at HG0 hsP hp hg6w HSO
  clear hEw hUw hne hnu hne1 hnu1
  clear p0 p1 p2 p3 p4 pf hO6 hne6 hl8 hc8 hS8 hX8 hSO hbw u0 u1 u2 c0 c1 hg6 hg6p HKB HKT
  go_wp2_with fail
  go_loopg [18] M (fun g i wr => ∃ (k : Nat) (v : Value) (X3 : List ByteArray), g = M - k /\ k <= M /\ i = .int .i64 k /\ (nm.take k).foldl addNew gs = X3 /\ GlR B p g6 wp wr v X3)
  case atStart => exact ⟨0, _, gs, by omega, by omega, rfl, rfl, HG0.out⟩
  obtain ⟨k, v, X3, hg, hk, rfl, hX3, hG⟩ := hrel
  have HG := Lib.hid hg
  have HX3 := Lib.hid hX3
  have HGL := Lib.hid hG
  clear hg hX3 hG
  obtain ⟨A3, c3, rfl, hsc3, hn3⟩ := own_names (lo := U + 1) (F := U) HGL.out.own hUB (by omega)
  have HN3 := Lib.hid hn3
  clear hsc3 hn3
  have z0 := HGL.out.c0
  have zf := HGL.out.fz 0
  have hbs : B <= wr.heap.size := Nat.le_trans hsP HGL.out.grown.size
  have hpw : p < wr.heap.size := Nat.lt_of_lt_of_le hplt HGL.out.grown.size
  have hX3l : X3.length <= 40 + 1048576 := by
   have h1 := addNew_len (nm.take k) gs
   rw [HX3.out, List.length_take] at h1
   have := HGS.out.1
   omega
  have hk0 : (0 : Int) <= (k : Int) := Int.natCast_nonneg _
  by_cases hlt : k < M
  ·
   have hkn : k < nm.length := by rw [HMM.out]; exact hlt
   have hki : (k : Int) < (M : Int) := by omega
   obtain ⟨b, o, rfl, l2, hrow⟩ := HNQ.out (by omega)
   have hq : wr.cell? ⟨b, o + k, none⟩ = some (.string nm[k]) := (HGL.out.grown.cell (by omega) (by omega) (by omega) (o + k)).trans (hrow k hkn)
   have HAN := Lib.hid (show (nm.take (k + 1)).foldl addNew gs = addNew X3 nm[k] from by rw [addNew_take hkn, HX3.out])
   generalize nm[k] = n at hq HAN
   have KI := Lib.hid (fun (W : World) (hW : Below wr.heap.size wr W) => isIn_any n A3 X3.length c3 X3 W HN3.out.cap_ HN3.out.le (HN3.out.strs.below hW))
   clear hrow
   cases hin : inL X3 n
   case true =>
    have HIN := Lib.hid hin
    rw [hin] at KI
    clear hin
    go_upto_region 37 with fail
    go_quiet ((go_at_call 20; exact zr (KI.out _ (by (with_reducible repeat' (first | exact Below.refl _ _ | apply Below.drew | apply below_drewN | refine Below.alloc ?_ ?_ _)); all_goals (try simp); all_goals (try omega)))))
    go_wp2_with fail
    go_roundg (M - (k + 1))
    case rel => exact ⟨k + 1, _, X3, rfl, by omega, by go_num, by rw [HAN.out]; unfold addNew; rw [if_pos HIN.out], HGL.out.drewN _⟩
    case measure => have := HG.out; omega
   have HIN := Lib.hid hin
   rw [hin] at KI
   clear hin
   go_upto_region 37 with fail
   go_quiet ((go_at_call 20; exact zr (KI.out _ (by (with_reducible repeat' (first | exact Below.refl _ _ | apply Below.drew | apply below_drewN | refine Below.alloc ?_ ?_ _)); all_goals (try simp); all_goals (try omega)))))
   go_upto_region 38 with fail
   have hpc : ∀ (q : Nat) (oo : Obj), ((wr.drewN q).alloc oo).cell? ⟨p, 0, none⟩ = some (.slice A3 X3.length c3) := fun q oo => (World.cell?_alloc_lt (w := wr.drewN q) (a := ⟨p, 0, none⟩) (h := hpw) ..).trans z0
   have hbw : b < wr.heap.size := by omega
   have hbc : ∀ (q : Nat) (oo : Obj), ((wr.drewN q).alloc oo).cell? ⟨b, o + k, none⟩ = some (.string n) := fun q oo => (World.cell?_alloc_lt (w := wr.drewN q) (a := ⟨b, o + k, none⟩) (h := hbw) ..).trans hq
   go_region_law (refine step_str2 (by rfl) (.tmp 136) (.tmp 141) (by rfl) (HGL.out.drewN _).own n _ rfl (by rfl) (by rfl) (by omega) hbs ?_; intro v5 w5 h5 h6 h7; obtain ⟨A5, c5, h8, _⟩ := h5.form; rw [show (X3 ++ [n]).length = X3.length + 1 by simp] at h8; subst h8; obtain ⟨hG5, z5, f5⟩ := (HGL.out.drewN _).put h5 h6 h7; have HG5 := Lib.hid hG5; clear h5 h6 h7 hG5 z0 zf hpc hbc)
   all_goals (go_wp2_with fail)
   all_goals (go_roundg (M - (k + 1)))
   all_goals (first | (have := HG.out; omega) | exact ⟨k + 1, _, X3 ++ [n], rfl, by omega, by go_num, by rw [HAN.out]; unfold addNew; rw [if_neg (by rw [HIN.out]; simp)], HG5.out⟩)
  have hkM : k = M := by omega
  subst k
  have HXX := Lib.hid (show nm.foldl addNew gs = X3 from by have := HX3.out; rwa [<- HMM.out, List.take_length] at this)
  clear HX3 hk hlt
  obtain ⟨q1, q2, q3, q4⟩ := HP4.out
  have p1 := (HGL.out.cs 1 (by decide)).trans q1
  have hIP := HIP.out.grown HGL.out.grown (by omega) (by omega) (by omega)
  have HI9 := Lib.hid hIP
  have R := HI9.out.r
  have RF := HI9.out.rf
  have hltR := HI9.out.lt
  have htl := HD.out.tsz
  have HBND := Lib.hid (show X3.length = (nm.foldl addNew gs).length /\ X8.length = (Sh.behindC (L.map Shp.sh ++ X.map SV.sh)).length from ⟨by rw [HXX.out], by rw [<- HX8.out, List.length_map]⟩)
  clear hIP q1 q2 q3 q4
  by_cases h40 : 40 < X3.length
  ·
   obtain rfl : r = .bad N 1 := by rw [<- HRR.out, unit_size HCOL.out (Or.inl (by have := HBND.out.1; simp only; omega)), htl]
   have h40' : (40 : Int) < (X3.length : Int) := by omega
   clear htl
   go_wp2_with fail
   exact bodyPost_ret (v := .tuple #[.agg #[.slice none 0 0, .slice none 0 0, .slice none 0 0], .int .i64 N, .int .i64 1]) (by simp [results, Tryd.results5, go_sem, R]) rfl ⟨rfl, below3 (by omega) HI9.out.below _ _ _⟩
  by_cases h8 : 8 < X8.length
  ·
   obtain rfl : r = .bad N 1 := by rw [<- HRR.out, unit_size HCOL.out (Or.inr (by have := HBND.out.2; simp only; omega)), htl]
   have h8' : (8 : Int) < (X8.length : Int) := by omega
   clear htl
   go_wp2_with fail
   exact bodyPost_ret (v := .tuple #[.agg #[.slice none 0 0, .slice none 0 0, .slice none 0 0], .int .i64 N, .int .i64 1]) (by simp [results, Tryd.results5, go_sem, R]) rfl ⟨rfl, below3 (by omega) HI9.out.below _ _ _⟩
  have HNB := Lib.hid (show ¬ (40 < (nm.foldl addNew gs).length \/ 8 < (Sh.behindC (L.map Shp.sh ++ X.map SV.sh)).length) from by have h1 := HBND.out.1; have h2 := HBND.out.2; omega)
  have h40' : ¬ (40 : Int) < (X3.length : Int) := by omega
  have h8' : ¬ (8 : Int) < (X8.length : Int) := by omega
  clear htl R RF
  go_wp2_with fail
  obtain ⟨hbel, hpl, hsh, hplq, hun⟩ := un_top HC.out HBP.out HBQ.out hp hg6w HGL.out HS8.out.1 HS8.out.2.1 HS8.out.2.2 HSO.out HGS.out.2.2 HX8.out
  have hplq := hplq.trans (show (⟨X3, Sh.behindC (L.map Shp.sh ++ X.map SV.sh), [], false⟩ : Pl) = ⟨nm.foldl addNew gs, Sh.behindC (L.map Shp.sh ++ X.map SV.sh), [], false⟩ by rw [HXX.out])
  have HBEL := Lib.hid hbel
  have HPL := Lib.hid hpl
  have HSH := Lib.hid hsh
  have HPQ := Lib.hid hplq
  have HUN := Lib.hid hun
  obtain ⟨q1, q2, q3, q4⟩ := HP4.out
  have HPC := Lib.hid (show wr.cell? ⟨p, 0, none⟩ = some (.slice A3 X3.length c3) /\ wr.cell? ⟨p, 1, none⟩ = some (.slice A8 X8.length c8) /\ wr.cell? ⟨p, 2, none⟩ = some (.slice none 0 0) /\ wr.cell? ⟨p, 3, none⟩ = some (.bool false) /\ wr.cell? ⟨p, 4, none⟩ = some (.slice none 0 0) from ⟨HGL.out.c0, (HGL.out.cs 1 (by decide)).trans q1, (HGL.out.cs 2 (by decide)).trans q2, (HGL.out.cs 3 (by decide)).trans q3, (HGL.out.cs 4 (by decide)).trans q4⟩)
  have HEP := Lib.hid (show p < wr.heap.size /\ B <= wr.heap.size from ⟨hpw, hbs⟩)
  obtain ⟨w9, rfl⟩ : ∃ w9, w9 = wr := ⟨_, rfl⟩
  obtain ⟨B3, hB3⟩ : ∃ B3, w9.heap.size = B3 := ⟨_, rfl⟩
  have HB3 := Lib.hid hB3
  rw [hB3] at HUN
  have hUB3 : U < B3 := by have := HEP.out.2; omega
  clear hbel hpl hsh hplq hun q1 q2 q3 q4 z0 zf hX3l hpw hbs hB3 h40 h8 h40' h8' p1
  go_loopg [19] N (fun g i wr => ∃ (k : Nat) (un : Un) (vD vP : Value) (D : List DfV) (P : List UpV), g = N - k /\ k <= N /\ i = .int .i64 k /\ runT (topT ⟨nm.foldl addNew gs, Sh.behindC (L.map Shp.sh ++ X.map SV.sh), [], false⟩ (L.map Shp.sh) (X.map SV.sh)) ([], []) 0 (ts.take k) = .ok un /\ zy B3 U U w9 wr /\ UnAt W0 wr B3 (fmOf p A3 c3 X3 A8 c8 X8) U (.slice AS X.length cS) vD vP (X.map SV.ne) True D P /\ D.map DfV.pr = un.1 /\ P.map UpV.pr = un.2 /\ D.length <= k /\ P.length <= k)
  case atStart => exact ⟨0, _, _, _, [], [], by omega, by omega, rfl, rfl, zy.refl _ _ _ _, HUN.out, rfl, rfl, by simp, by simp⟩
  obtain ⟨k, un, vD, vP, D, P, hg, hk, rfl, hrun, hG, hU, hDm, hPm, hDl, hPl⟩ := hrel
  have HG := Lib.hid hg
  have HRUN := Lib.hid hrun
  have HGR9 := Lib.hid hG
  have HU := Lib.hid hU
  have HDM := Lib.hid (And.intro hDm hPm)
  have HDL := Lib.hid (And.intro hDl hPl)
  have HIR := Lib.hid (HI9.out.grown hG (by have := HI9.out.lt; have := HB3.out; omega) (by omega) (by omega))
  have hk0 : (0 : Int) <= (k : Int) := Int.natCast_nonneg _
  clear hg hrun hG hU hDm hPm hDl hPl
  by_cases hlt : k < N
  ·
   have hkt : k < ts.length := by rw [HD.out.tsz]; exact hlt
   have hki : (k : Int) < (N : Int) := by omega
   obtain ⟨b, o, A', c', rfl, hbw, hgd, hd, q0, q1, q2, q3⟩ := (HD.out.below HIR.out.below).nthT HZ.out k hlt
   have hcol := runT_each ts _ _ _ HCOL.out k hkt
   have HCE := Lib.hid (fun (e : Int) (hc : topT ⟨nm.foldl addNew gs, Sh.behindC (L.map Shp.sh ++ X.map SV.sh), [], false⟩ (L.map Shp.sh) (X.map SV.sh) un ts[k] = .err e) => unit_form HCOL.out HNB.out hkt HRUN.out hc)
   have HCO := Lib.hid (fun (st : Un) (hc : topT ⟨nm.foldl addNew gs, Sh.behindC (L.map Shp.sh ++ X.map SV.sh), [], false⟩ (L.map Shp.sh) (X.map SV.sh) un ts[k] = .ok st) => runT_on hkt HRUN.out hc)
   generalize ts[k] = d at hgd hd q0 q1 q2 q3 HCE HCO hcol
   have HGDD := Lib.hid hgd
   have HCL := Lib.hid hcol
   have hW0r : Below W0.heap.size W0 wr := HB.out.trans (HIR.out.below.mono HB.out.size)
   have KP := Lib.hid (topParts_any (F := p) hW0r HPL.out.ge d A' c' hd hgd.len)
   clear hgd hd hcol
   go_wp2_with fail
   refine KP.out.mono ?_
   intro e w5 hp
   cases hh : headF d with
   | none =>
    obtain ⟨s0, s1, h0⟩ := HCL.out
    rw [col_none hh] at h0
    cases h0
   | some q =>
    obtain ⟨s, rest⟩ := q
    rw [hh] at hp
    obtain ⟨A1, c1, rfl, hds, hb5⟩ := hp
    obtain ⟨g, gs1, rfl, hsub, hlen⟩ := head_some hh
    have HGS1 := Lib.hid (show ∀ x ∈ g :: gs1, Good 40 x from fun x hx => HGDD.out.low (hsub x hx))
    have hln : (g :: gs1).length <= 1048576 := Nat.le_trans hlen HGDD.out.len
    have HH := Lib.hid hh
    have HU5 := Lib.hid (HU.out.next hb5)
    have HIR5 := Lib.hid (HIR.out.next hb5)
    have HGR5 := Lib.hid (HGR9.out.trans (zy.below hb5 HU.out.bs))
    have HDS := Lib.hid hds
    have hs5 := hb5.size
    clear hh hsub hlen hb5 hds KP q0 q1 q2 q3
    by_cases h1 : s.toList = wDefine
    case pos =>
     have b1 : (s.toList == [100, 101, 102, 105, 110, 101]) = true := by rw [h1]; rfl
     have b2 : (s.toList == [117, 112, 103, 114, 97, 100, 101]) = false := by rw [h1]; rfl
     have HS1 := Lib.hid h1
     clear h1
     obtain ⟨n2, hdf⟩ : ∃ n2, defT (g :: gs1) = some n2 := by
      obtain ⟨s0, s1, h0⟩ := HCL.out
      rw [col_def HH.out HS1.out] at h0
      cases hd0 : defT (g :: gs1) with
      | none => rw [hd0] at h0; cases h0
      | some n => exact ⟨n, rfl⟩
     have HDF := Lib.hid hdf
     obtain ⟨rx, hrx⟩ : ∃ rx, defX ⟨nm.foldl addNew gs, Sh.behindC (L.map Shp.sh ++ X.map SV.sh), [], false⟩ (g :: gs1) = rx := ⟨_, rfl⟩
     have HRX := Lib.hid hrx
     have HRC := Lib.hid (show topT ⟨nm.foldl addNew gs, Sh.behindC (L.map Shp.sh ++ X.map SV.sh), [], false⟩ (L.map Shp.sh) (X.map SV.sh) un d = mapF (fun x => (un.1 ++ [(n2, x)], un.2)) rx from by rw [<- hrx]; exact top_def HH.out HS1.out hdf)
     obtain ⟨AD, cD, rfl, _, _, _⟩ := HU5.out.oD.form
     obtain ⟨J, hJ⟩ : ∃ J, (g :: gs1).length = J := ⟨_, rfl⟩
     have hpB3 : p < B3 := HU5.out.ltF
     have hpU : p ≠ U := fun e => HU5.out.neU e.symm
     have hpc : ∀ j, w5.cell? ⟨p, j, none⟩ = w9.cell? ⟨p, j, none⟩ := fun j => HGR5.out.cell hpB3 hpU hpU j
     have HPC5 := Lib.hid (show w5.cell? ⟨p, 0, none⟩ = some (.slice A3 X3.length c3) /\ w5.cell? ⟨p, 1, none⟩ = some (.slice A8 X8.length c8) /\ w5.cell? ⟨p, 2, none⟩ = some (.slice none 0 0) /\ w5.cell? ⟨p, 3, none⟩ = some (.bool false) /\ w5.cell? ⟨p, 4, none⟩ = some (.slice none 0 0) from ⟨(hpc 0).trans HPC.out.1, (hpc 1).trans HPC.out.2.1, (hpc 2).trans HPC.out.2.2.1, (hpc 3).trans HPC.out.2.2.2.1, (hpc 4).trans HPC.out.2.2.2.2⟩)
     have HPL5 := Lib.hid (HPL.out.carry HU5.out.off HU5.out.geU (by have := HU5.out.geU; omega) HGR5.out)
     have HW05 := Lib.hid (show Below W0.heap.size W0 w5 from HB.out.trans (HIR5.out.below.mono HB.out.size))
     have hDl : D.length + 1 <= 1048580 := by have := HDL.out.1; have := HNN.out; omega
     have HJ := Lib.hid hJ
     have HLN := Lib.hid hln
     rw [hJ]
     clear hpc hJ hln hdf hrx
     go_upto_if 172 with fail
     apply wp_cut
     rotate_left 1
     ·
      intro J' K' h1 h2
      exact define_arm HW05.out HPL5.out HPC5.out HSH.out HPQ.out HU5.out hUB3 HDS.out HGS1.out HLN.out HJ.out HDF.out hDl (by kernel_rfl) h1 h2
     rintro a' wz ⟨x7, x22, x23, x24, x173, x174, x175, x176, x177, x178, x179, x180, x181, x182, x183, x184, x185, x186, x187, x188, x189, x190, x191, x192, x193, x194, x195, x196, x197, x198, x199, x200, x201, x202, x203, x204, x205, x206, x207, x208, x209, x210, x211, x212, x213, x214, x215, x216, x217, x218, x219, x220, x221, ⟨c, v, rfl, ⟨vD', hU', hG'⟩, hcase⟩, rfl⟩
     rw [HRX.out] at hU' hcase
     have HUD := Lib.hid hU'
     have HGD' := Lib.hid (HGR5.out.trans hG')
     have HIRD := Lib.hid (HIR5.out.grown hG' (by have := HIR5.out.lt; have := HI9.out.lt; have := HB3.out; omega) (by omega) (by omega))
     clear hU' hG'
     try dsimp only
     rcases hcase with ⟨y, hy, rfl, ht⟩ | ⟨hy, h1c⟩
     ·
      have HCF := Lib.hid (HCO.out _ (show topT ⟨nm.foldl addNew gs, Sh.behindC (L.map Shp.sh ++ X.map SV.sh), [], false⟩ (L.map Shp.sh) (X.map SV.sh) un d = .ok (un.1 ++ [(n2, v.t)], un.2) from by rw [HRC.out, hy, ht]; rfl))
      have HUF := Lib.hid (HUD.out.weak (q := True) (fun _ => ⟨y, hy⟩))
      clear hy ht
      go_wp2_with fail
      go_roundg (N - (k + 1))
      case rel => exact ⟨k + 1, (un.1 ++ [(n2, v.t)], un.2), _, _, D ++ [⟨n2, v⟩], P, rfl, by omega, by go_num, HCF.out, HGD'.out, HUF.out, by rw [List.map_append, HDM.out.1]; rfl, HDM.out.2, by have := HDL.out.1; simp; omega, by have := HDL.out.2; omega⟩
      case measure => have := HG.out; omega
     obtain rfl : r = .bad k c := by rw [<- HRR.out]; exact HCE.out c (by rw [HRC.out, hy]; rfl)
     have hcb : (c != 0) = true := by rw [bne_iff_ne]; omega
     have R := HIRD.out.r
     have RF := HIRD.out.rf
     have hltR := HIRD.out.lt
     clear hy h1c
     go_wp2_with fail
     exact bodyPost_ret (v := .tuple #[.agg #[.slice none 0 0, .slice none 0 0, .slice none 0 0], .int .i64 k, .int .i64 c]) (by simp [results, Tryd.results5, go_sem, R]) rfl ⟨rfl, below3 (by omega) HIRD.out.below _ _ _⟩
    have b1 : (s.toList == [100, 101, 102, 105, 110, 101]) = false := by simpa [wDefine] using h1
    by_cases h2 : s.toList = wUpgrade
    case pos =>
     have b2 : (s.toList == [117, 112, 103, 114, 97, 100, 101]) = true := by rw [h2]; rfl
     have HRC := Lib.hid (top_up (p := ⟨nm.foldl addNew gs, Sh.behindC (L.map Shp.sh ++ X.map SV.sh), [], false⟩) (vsh := L.map Shp.sh) (ush := X.map SV.sh) (st := un) HH.out h2)
     clear h1 h2
     as_aux_lemma =>
      obtain ⟨AD, cD, rfl, hD1, hD2, _⟩ := HU5.out.oD.form
      obtain ⟨AP, cP, rfl, hP1, hP2, hPN⟩ := HU5.out.oP.nesUp
      obtain ⟨w6, hw6⟩ : ∃ w6, w5.alloc (.cells #[.string ⟨#[]⟩, .slice none 0 0] 73) = w6 := ⟨_, rfl⟩
      have hb56 : Below w5.heap.size w5 w6 := by rw [<- hw6]; exact (Below.refl _ _).alloc (Nat.le_refl _) _
      have hs56 : w5.heap.size + 1 = w6.heap.size := by rw [<- hw6]; simp
      have HZ6 := Lib.hid (show w6.cell? ⟨w5.heap.size, 0, none⟩ = some (.string ⟨#[]⟩) /\ w6.cell? ⟨w5.heap.size, 1, none⟩ = some (.slice none 0 0) /\ ∀ j, w6.frozen? ⟨w5.heap.size, j, none⟩ = false from by rw [<- hw6]; exact ⟨za _ _ _ 0, za _ _ _ 1, fun j => zi _ _ _ j⟩)
      have HW6 := Lib.hid hw6
      have HB56 := Lib.hid hb56
      have HU6 := Lib.hid (HU5.out.next hb56)
      have HIR6 := Lib.hid (HIR5.out.next hb56)
      have hgr6 := HGR5.out.trans (zy.below hb56 HU5.out.bs)
      have hW06 : Below W0.heap.size W0 w6 := HB.out.trans (HIR6.out.below.mono HB.out.size)
      obtain ⟨ASx, cSx, eS, _, _, hSx, _, _, _⟩ := HC.out.oS.shpsC ((zy.below (base := B) (U := U) (N := U) HBEL.out (by have := HBQ.out; omega)).trans (hgr6.low (by have := HB3.out; have := HEP.out; omega))) (by have := HBQ.out; omega) (Nat.lt_succ_self _) (Nat.lt_succ_self _)
      obtain ⟨rfl, rfl⟩ : AS = ASx /\ cS = cSx := by simpa using eS
      have KU := upgradeOf_any hW06 (show W0.heap.size <= p from HPL.out.ge) (by show p < _; exact Nat.lt_of_lt_of_le HU6.out.ltF HU6.out.bs) A1 c1 g gs1 (HDS.out.below hb56) HGS1.out hln G S gs.length gc sl sc L (HE.out.shapes.below hW06) HE.out.sle HE.out.scap AS AD AP X.length cS D.length cD P.length cP (X.map SV.shp) hSx hAS1 hAS2 (P.map UpV.ne) (by simpa using hPN.below hb56) hP1 hP2 un.2 (by rw [<- HDM.out.2, List.map_map, List.map_map]; rfl)
      rw [show (X.map SV.shp).map Shp.sh = X.map SV.sh by rw [List.map_map]; rfl] at KU
      obtain ⟨J, hJ⟩ : ∃ J, (g :: gs1).length = J := ⟨_, rfl⟩
      rw [hJ] at KU ⊢
      have KU := Lib.hid KU
      have e0 := HIR6.out.c0
      have e1 := HIR6.out.c1
      have u0 := HU6.out.u0
      have u1 := HU6.out.u1
      have u2 := HU6.out.u2
      have HVP := Lib.hid (show ∀ b, (Value.slice AP P.length cP).ownBlock = some b -> b < w5.heap.size from fun b hb => (HU5.out.oP.row.lt b hb).2)
      have HVD := Lib.hid (show ∀ b, (Value.slice AD D.length cD).ownBlock = some b -> b < w5.heap.size from fun b hb => (HU5.out.oD.row.lt b hb).2)
      have HVB := Lib.hid (show ∀ b, (Value.slice AP P.length cP).ownBlock = some b -> U < b from fun b hb => Nat.lt_of_lt_of_le hUB3 (HU5.out.oP.row.lt b hb).1)
      have hU5 : U < w5.heap.size := Nat.lt_of_lt_of_le hUB3 HU5.out.bs
      have hB35 := HU5.out.bs
      have hPl : P.length + 1 <= 1048580 := by have := HDL.out.2; have := HNN.out; omega
      have HSZ := Lib.hid hs56
      have hxL : (X.map SV.shp).length = X.length := by simp
      clear hw6 hb56 hgr6 hW06 eS hSx hJ hPN hD1 hD2 hP1 hP2 hxL
      go_upto_region 59 with fail
      rw [HW6.out]
      go_wp2_with fail
      refine KU.out.mono ?_
      intro e w7 hp
      have hs6 := HSZ.out
      cases hup : upX (L.map Shp.sh) (X.map SV.sh) un.2 (g :: gs1) with
      | err c =>
       rw [hup] at hp
       obtain ⟨nn, A2, n2, cap2, rfl, hc2, hb7⟩ := hp
       obtain rfl : r = .bad k c := by rw [<- HRR.out]; exact HCE.out c (by rw [HRC.out, hup]; rfl)
       have hc2b : (c != 0) = true := by rw [bne_iff_ne]; omega
       have q0 : w7.cell? ⟨w5.heap.size, 0, none⟩ = some (.string ⟨#[]⟩) := (hb7.cell (p := ⟨w5.heap.size, 0, none⟩) (by show w5.heap.size < _; omega)).trans HZ6.out.1
       have q1 : w7.cell? ⟨w5.heap.size, 1, none⟩ = some (.slice none 0 0) := (hb7.cell (p := ⟨w5.heap.size, 1, none⟩) (by show w5.heap.size < _; omega)).trans HZ6.out.2.1
       have qf : ∀ j, w7.frozen? ⟨w5.heap.size, j, none⟩ = false := fun j => (hb7.frozen (p := ⟨w5.heap.size, j, none⟩) (by show w5.heap.size < _; omega)).trans (HZ6.out.2.2 j)
       have ql : w5.heap.size < w7.heap.size := by have := hb7.size; omega
       obtain ⟨z0, z1, hg8⟩ := two_set (u0 := .string nn) (u1 := .slice A2 n2 cap2) q0 q1
       obtain ⟨w8, hw8⟩ : ∃ w8, (w7.setCell ⟨w5.heap.size, 0, none⟩ (.string nn)).setCell ⟨w5.heap.size, 1, none⟩ (.slice A2 n2 cap2) = w8 := ⟨_, rfl⟩
       rw [hw8] at z0 z1 hg8
       have hb8 := below_g HB56.out hb7 (Nat.le_refl _) hg8
       have HU8 := Lib.hid (HU5.out.next hb8)
       have HIR8 := Lib.hid (HIR5.out.next hb8)
       have HW8 := Lib.hid hw8
       have v2 := HU8.out.u2
       have hU8 : U < w8.heap.size := by have := hb8.size; omega
       have hbs8 : B3 <= w8.heap.size := by have := hb8.size; omega
       have hq8 : w5.heap.size < w8.heap.size := by have := hg8.size; omega
       have hb8s := hb8.size
       clear hb7 hg8 hb8 hw8 HCE HCO HRC u0 u1 u2 e0 e1
       go_upto_region 60 with fail
       rw [HW8.out]
       go_upto_region 61 with (at_builtin; refine wpList_upR (W0 := W0) (pp := False) rfl (.tmp 233) (.tmp 235) rfl (HU8.out.weak (q := False) (fun h => h.elim)).oP ⟨nn, A2, n2, cap2, [], 0, 0⟩ _ rfl (fun h => h.elim) (fun b hb => hb.1.elim) (fun b hb => hb.1.elim) rfl rfl hPl hbs8 ?_; intro v9 w10 h5 h6 h7; obtain ⟨k9, f9, s9⟩ := row_keep (g := U) h6 hU8 (fun b hb => HVB.out b hb); have k92 := (k9 2).trans v2; have f92 := (f9 2).trans (HU8.out.fu 2); have HS9 := Lib.hid ((HU8.out.weak (q := False) (fun h => h.elim)).up_ h5 h6 h7 (fun b hb => hb.1.elim)); obtain ⟨A9, c9, h8, _⟩ := h5.form; rw [List.length_append, List.length_singleton] at h8; subst h8; clear h5 h6 h7 k9 f9)
       obtain ⟨wq, hwq⟩ : ∃ wq, w10.setCell ⟨U, 2, none⟩ (.slice A9 (P.length + 1) c9) = wq := ⟨_, rfl⟩
       rw [hwq] at HS9 ⊢
       have HIR9 := Lib.hid (HIR8.out.grown HS9.out.2 (by have := HIR8.out.lt; have := HI9.out.lt; have := HB3.out; omega) (by omega) (by omega))
       have R := HIR9.out.r
       have RF := HIR9.out.rf
       have hltR := HIR9.out.lt
       go_wp2_with fail
       exact bodyPost_ret (v := .tuple #[.agg #[.slice none 0 0, .slice none 0 0, .slice none 0 0], .int .i64 k, .int .i64 c]) (by simp [results, Tryd.results5, go_sem, R]) rfl ⟨rfl, below3 (by omega) HIR9.out.below _ _ _⟩
      | ok q =>
       obtain ⟨n, xs⟩ := q
       rw [hup] at hp
       obtain ⟨A2, cap2, rfl, hA2, hb7⟩ := hp
       have HCF := Lib.hid (HCO.out _ (show topT ⟨nm.foldl addNew gs, Sh.behindC (L.map Shp.sh ++ X.map SV.sh), [], false⟩ (L.map Shp.sh) (X.map SV.sh) un d = .ok (un.1, un.2 ++ [(n, xs)]) from by rw [HRC.out, hup]; rfl))
       have q0 : w7.cell? ⟨w5.heap.size, 0, none⟩ = some (.string ⟨#[]⟩) := (hb7.cell (p := ⟨w5.heap.size, 0, none⟩) (by show w5.heap.size < _; omega)).trans HZ6.out.1
       have q1 : w7.cell? ⟨w5.heap.size, 1, none⟩ = some (.slice none 0 0) := (hb7.cell (p := ⟨w5.heap.size, 1, none⟩) (by show w5.heap.size < _; omega)).trans HZ6.out.2.1
       have qf : ∀ j, w7.frozen? ⟨w5.heap.size, j, none⟩ = false := fun j => (hb7.frozen (p := ⟨w5.heap.size, j, none⟩) (by show w5.heap.size < _; omega)).trans (HZ6.out.2.2 j)
       have ql : w5.heap.size < w7.heap.size := by have := hb7.size; omega
       obtain ⟨z0, z1, hg8⟩ := two_set (u0 := .string n) (u1 := .slice A2 xs.length cap2) q0 q1
       obtain ⟨w8, hw8⟩ : ∃ w8, (w7.setCell ⟨w5.heap.size, 0, none⟩ (.string n)).setCell ⟨w5.heap.size, 1, none⟩ (.slice A2 xs.length cap2) = w8 := ⟨_, rfl⟩
       rw [hw8] at z0 z1 hg8
       have hb8 := below_g HB56.out hb7 (Nat.le_refl _) hg8
       have HAR := Lib.hid hA2
       have HG8 := Lib.hid hg8
       have HU8 := Lib.hid (HU5.out.next hb8)
       have HGR8 := Lib.hid (HGR5.out.trans (zy.below hb8 HU5.out.bs))
       have HW8 := Lib.hid hw8
       have v2 := HU8.out.u2
       have hU8 : U < w8.heap.size := by have := hb8.size; omega
       have hbs8 : B3 <= w8.heap.size := by have := hb8.size; omega
       have hq8 : w5.heap.size < w8.heap.size := by have := hg8.size; omega
       clear hb7 hg8 hb8 hw8 hA2 hup HCE HCO HRC u0 u1 u2 e0 e1
       go_upto_region 60 with fail
       rw [HW8.out]
       go_wp2_with (at_builtin; refine wpList_upR (W0 := W0) (pp := True) rfl (.tmp 233) (.tmp 235) rfl HU8.out.oP ⟨n, A2, xs.length, cap2, xs, w6.heap.size, w7.heap.size⟩ _ rfl (upv_ok HAR.out HG8.out (by omega)) (fun b hb => by have h1 : w6.heap.size <= b := hb.2.1; omega) (fun b hb e => by have h1 : w6.heap.size <= b := hb.2.1; have := HVP.out b e; omega) rfl rfl hPl hbs8 ?_; intro v9 w10 h5 h6 h7; obtain ⟨k9, f9, s9⟩ := row_keep (g := U) h6 hU8 (fun b hb => HVB.out b hb); have k92 := (k9 2).trans v2; have f92 := (f9 2).trans (HU8.out.fu 2); have HS9 := Lib.hid (HU8.out.up_ h5 h6 h7 (fun b hb e => by have h1 : w6.heap.size <= b := hb.2.1; have := HVD.out b e; omega)); obtain ⟨A9, c9, h8, _⟩ := h5.form; rw [List.length_append, List.length_singleton] at h8; subst h8; clear h5 h6 h7 k9 f9)
       go_wp2_with fail
       go_roundg (N - (k + 1))
       case rel => exact ⟨k + 1, (un.1, un.2 ++ [(n, xs)]), _, _, D, P ++ [⟨n, A2, xs.length, cap2, xs, w6.heap.size, w7.heap.size⟩], rfl, by omega, by go_num, HCF.out, HGR8.out.trans HS9.out.2, HS9.out.1, HDM.out.1, by rw [List.map_append, HDM.out.2]; rfl, by have := HDL.out.1; omega, by have := HDL.out.2; simp; omega⟩
       case measure => have := HG.out; omega
    have b2 : (s.toList == [117, 112, 103, 114, 97, 100, 101]) = false := by simpa [wUpgrade] using h2
    have HRC := Lib.hid (HCO.out un (by unfold topT; rw [HH.out]; simp only; rw [if_neg h1, if_neg h2]))
    clear h1 h2
    go_wp2_with fail
    go_roundg (N - (k + 1))
    case rel => exact ⟨k + 1, un, vD, vP, D, P, rfl, by omega, by go_num, HRC.out, HGR5.out, HU5.out, HDM.out.1, HDM.out.2, by have := HDL.out.1; omega, by have := HDL.out.2; omega⟩
    case measure => have := HG.out; omega
  have hkN : k = N := by omega
  subst k
  have HT := Lib.hid (show runT (topT ⟨nm.foldl addNew gs, Sh.behindC (L.map Shp.sh ++ X.map SV.sh), [], false⟩ (L.map Shp.sh) (X.map SV.sh)) ([], []) 0 ts = .ok un from by have := HRUN.out; rwa [<- HD.out.tsz, List.take_length] at this)
  obtain rfl : r = .ok (X.map SV.sh, un) := by rw [<- HRR.out]; exact unit_ok HCOL.out HNB.out HT.out
  obtain ⟨AD, cD, rfl, _, _⟩ := HU.out.oD.form
  obtain ⟨AP, cP, rfl, _, _⟩ := HU.out.oP.form
  have u0 := HU.out.u0
  have u1 := HU.out.u1
  have u2 := HU.out.u2
  have R := HIR.out.r
  have RF := HIR.out.rf
  have hltR := HIR.out.lt
  clear hk hlt
  go_wp2_with fail
  exact bodyPost_ret (v := .tuple #[.agg #[.slice AS X.length cS, .slice AD D.length cD, .slice AP P.length cP], .int .i64 0, .int .i64 0]) (by simp [results, Tryd.results5, go_sem, R]) rfl (uf_okR (m := (fmOf p A3 c3 X3 A8 c8 X8)) (base := B3) (base2 := B) (B := U + 1) (U := U) HIR.out.below HU.out HC.out.oS ((zy.below (base := B) (U := U) (N := U) HBEL.out (by have := HBQ.out; omega)).trans (HGR9.out.low (by have := HB3.out; have := HEP.out; omega))) (by have := HBQ.out; omega) (by have := HBQ.out; have := HB3.out; have := HEP.out; omega) (Nat.lt_succ_self _) (by omega) (by omega) HDM.out.1 HDM.out.2 rfl (grown3 _ _ _ _ _))
end Go.Proofs.YtjmeodadkjcmmaaDoor
