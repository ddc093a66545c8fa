import Derived.Test.YtjmeodadkjcmmaaDoorTopGP
namespace Go.Proofs.YtjmeodadkjcmmaaDoor
open Go.RowKit Go.ChangeShapes Go.WideShapes Go.Deep Go.ChangeAt
set_option linter.unusedVariables false
set_option maxRecDepth 20000
set_option maxHeartbeats 8000000 in
theorem formd_sym {W0 w : World} {base : Nat} {m : Fm} {U : Nat} {vS vD vP : Value} {S : List NE} {D : List DfV} {P : List UpV} (h : UnAt W0 w base m U vS vD vP S True D P) (hf : zx W0 w m 0) (hfd : ∀ x ∈ m.sh, ∀ f ∈ x.ss, 0 < f.size) (G : Option Addr) (gl gc : Nat) {Sa : Option Addr} {sl sc : Nat} {L : List Shp} (hE : EnvIn W0 Sa sl sc L) {ush : List Sh} (hS : S.map (fun x => (x.name, x.n)) = ush.map (fun s => (s.1, s.2.length))) (d : Dt) (A : Option Addr) (c : Nat) (hd : DtIn W0 0 W0.heap.size [.int .i64 d.k, .int .i64 d.n, .string d.s, .slice A d.l.length c] d) (hgd : Good 40 d) (hD : D.length + 1 <= 1048577) (hP : P.length + 1 <= 1048576) {s : ByteArray} {g y : Dt} (hh : headF d = some (s, [g, y])) (hs : s.toList = wDefine) (hn : defT [g, y] = some g.s) (hk : g.k = 3) :
  Calls Tryd.prog 13 #[.pointer (some ⟨m.F, 0, none⟩), .pointer (some ⟨U, 0, none⟩), .agg #[.slice G gl gc, .slice Sa sl sc], .agg #[.int .i64 d.k, .int .i64 d.n, .string d.s, .slice A d.l.length c]] w (fun e w' => FormPost W0 w base m U vS S e w' (topT m.pl (L.map Shp.sh) ush (D.map DfV.pr, P.map UpV.pr) d)) := by
 have H := Lib.hid h
 have HF := Lib.hid hf
 have HE := Lib.hid hE
 have HS := Lib.hid hS
 have HGD := Lib.hid hgd
 have HX := Lib.hid (expr_says (W0 := W0) (m := m) hfd 40)
 have hltU : U < w.heap.size := Nat.lt_of_lt_of_le h.ltU h.bs
 have hltF : m.F < w.heap.size := hf.lt
 have KH := Lib.hid (head_any (F := m.F) (hf.below.trans ((((Below.refl _ _).alloc (Nat.le_refl _) _).alloc (by simp) _).mono hf.below.size) : Below W0.heap.size W0 ((w.alloc (.cells #[.slice G gl gc, .slice Sa sl sc] 26)).alloc (.cells #[.int .i64 d.k, .int .i64 d.n, .string d.s, .slice A d.l.length c] 38))) hf.ge d A c hd hgd.len)
 obtain ⟨r, hr⟩ : ∃ r, topT m.pl (L.map Shp.sh) ush (D.map DfV.pr, P.map UpV.pr) d = r := ⟨_, rfl⟩
 have HR := Lib.hid hr
 rw [hr]
 obtain ⟨_, _, _, hsub, hlen⟩ := head_some hh
 have HGS := Lib.hid (show ∀ x ∈ [g, y], Good 40 x from fun x hx => HGD.out.low (hsub x hx))
 have hln : ([g, y]).length <= 1048576 := Nat.le_trans hlen HGD.out.len
 have HH := Lib.hid hh
 rw [hh] at KH
 have b1 : (s.toList == [100, 101, 102, 105, 110, 101]) = true := by rw [hs]; rfl
 have HR1 := Lib.hid (HR.out.symm.trans (top_def HH.out hs hn))
 have HR2 := Lib.hid (show r = mapF (fun x => (D.map DfV.pr ++ [(g.s, x)], P.map UpV.pr)) (formed m.pl 40 [] y) by rw [HR1.out, defX_sym hk])
 clear h hf hE hS hgd hfd hd hr hh hsub hlen hs hn
 go_enter Tryd.func13, Tryd.ntmps13
 go_wp2_with fail
 refine KH.out.mono ?_
 rintro e w2 ⟨A2, c2, rfl, hds, hb2⟩
 have hb2' : Below w.heap.size w w2 := (((Below.refl _ _).alloc (Nat.le_refl _) _).alloc (by simp) _).trans (hb2.mono (by first | omega | (simp; done) | (simp; omega)))
 have HB2 := Lib.hid hb2'
 have HU2 := Lib.hid (H.out.next hb2')
 have HF2 := Lib.hid (HF.out.next hb2')
 have HDS := Lib.hid hds
 have E0 : w2.cell? ⟨w.heap.size, 0, none⟩ = some (.slice G gl gc) := (hb2.cell (p := ⟨w.heap.size, 0, none⟩) (by simp; omega)).trans ((World.cell?_alloc_lt _ _ ⟨w.heap.size, 0, none⟩ (by simp)).trans (za _ _ _ 0))
 have E1 : w2.cell? ⟨w.heap.size, 1, none⟩ = some (.slice Sa sl sc) := (hb2.cell (p := ⟨w.heap.size, 1, none⟩) (by simp; omega)).trans ((World.cell?_alloc_lt _ _ ⟨w.heap.size, 1, none⟩ (by simp)).trans (za _ _ _ 1))
 clear hb2 hb2' hds
 obtain ⟨p, q, A', c', rfl, hpw, hpF, e0, e1, e2, e3, hdi, hi, ht⟩ := HDS.out.first HF2.out.below HF2.out.ge
 have HI := Lib.hid hi
 have HT := Lib.hid ht
 have hcap := HDS.out.le
 have hcm := HDS.out.cap_
 unfold maxLen at hcm
 have u1 : w2.cell? ⟨U, 1, none⟩ = some vD := HU2.out.u1
 obtain ⟨AD, capD, rfl, hD1, hD2, _⟩ := HU2.out.oD.form
 have uf : w2.frozen? ⟨U, 1, none⟩ = false := HU2.out.fu 1
 have hU2 : U < w2.heap.size := by have := HU2.out.bs; have := H.out.ltU; omega
 have hnU : w2.heap.size ≠ U := by omega
 have hnP : w2.heap.size ≠ p := by omega
 have hvD : ∀ b, (Value.slice AD D.length capD).ownBlock = some b -> base <= b /\ b < w2.heap.size := fun b hb => HU2.out.oD.row.lt b hb
 have hvP : ∀ b, vP.ownBlock = some b -> b < w2.heap.size := fun b hb => (HU2.out.oP.row.lt b hb).2
 have HVD := Lib.hid hvD
 have HVP := Lib.hid hvP
 have hneUF : U ≠ m.F := H.out.neU
 obtain ⟨py, qy, Ay, cy, hAy, hpy, hpyF, y0, y1, y2, y3, hdy, hiy, hty⟩ := HT.out.first HF2.out.below HF2.out.ge
 obtain ⟨rfl, rfl⟩ : p = py /\ q + 4 = qy := by simpa using hAy
 have HDY := Lib.hid hdy
 have HGY := Lib.hid (HGS.out y (by simp))
 have e0' : w2.cell? ⟨p, q, none⟩ = some (.int .i64 3) := by rw [<- hk]; exact e0
 obtain ⟨M, hM⟩ : ∃ M, [g, y].length = M := ⟨_, rfl⟩
 have hM2 : M = 2 := by rw [<- hM]; rfl
 rw [hM] at hcap ⊢
 have hM0 : (0 : Int) < (M : Int) := by omega
 have hM1 : (1 : Int) < (M : Int) := by omega
 have hM3 : 0 < M := by omega
 have hM4 : 1 < M := by omega
 obtain ⟨r1, hr1⟩ : ∃ r1, formed m.pl 40 [] y = r1 := ⟨_, rfl⟩
 rw [hr1] at HR2
 have KX := Lib.hid (show ∀ W : World, Below w2.heap.size w2 W -> Calls Tryd.prog 44 #[.pointer (some ⟨m.F, 0, none⟩), .agg #[.int .i64 y.k, .int .i64 y.n, .string y.s, .slice Ay y.l.length cy], .slice none 0 0] W (ExPost W0 W m r1) from fun W hW => by
  rw [<- hr1]
  exact HX.out W y Ay cy none 0 [] (HF2.out.next hW) HGY.out HDY.out (ScAt.nil _ _) (by simp))
 clear hdi hi ht hiy hty hdy hM2 hM hr1 hAy hvD hvP e0
 go_upto_region 5 with fail
 go_region_law
  (first
    | (go_simp; go_at_call 44; refine (KX.out _ ((Below.refl _ _).drew)).mono ?_; intro e w4 hp4; obtain ⟨v4, rfl, hg4, hx4⟩ := exPost_fact hp4; clear hp4; have hg24 := (show w2.grownBy w4 (some m.F) from (zb ((Below.refl w2.heap.size w2).drew) _).trans hg4); have HG4 := Lib.hid hg24; have HX4 := Lib.hid hx4; have HU4 := Lib.hid (HU2.out.grownF hg24); have k1 : w4.cell? ⟨U, 1, none⟩ = some (.slice AD D.length capD) := HU4.out.u1; have k2 : w4.cell? ⟨p, q + 2, none⟩ = some (.string g.s) := ((gcell hg24).1 _ _ hpw hpF).trans e2; have kn : w4.heap.size ≠ U := (by have := hg24.size; omega); have kn2 : w4.heap.size ≠ p := (by have := hg24.size; omega); have kl : U < w4.heap.size := (by have := hg24.size; omega); have kl2 : p < w4.heap.size := (by have := hg24.size; omega); clear hg4 hg24 hx4; unfold EV.agg)
    | (refine step_df (W0 := W0) (pp := ∃ y, r1 = .ok y) (by rfl) (.tmp 31) (.tmp 42) (by rfl) (HU4.out.weak (q := ∃ y, r1 = .ok y) (fun _ => trivial)).oD ⟨g.s, v4⟩ _ rfl (df_if (base := base) (u := .slice AD D.length capD) HX4.out HU2.out.bs (fun b hb => (HVD.out b hb).2)).1 (df_if (base := base) (u := .slice AD D.length capD) HX4.out HU2.out.bs (fun b hb => (HVD.out b hb).2)).2.1 (df_if (base := base) (u := .slice AD D.length capD) HX4.out HU2.out.bs (fun b hb => (HVD.out b hb).2)).2.2 (by rfl) (by rfl) (by omega) HU4.out.bs ?_; intro v9 w9 h5 h6 h7; obtain ⟨A9, c9, h8, _⟩ := h5.form; simp only [List.length_append, List.length_cons, List.length_nil, Nat.zero_add] at h8; subst h8; have HCS := Lib.hid (fun (e : Ending) (he : FEnd e) => def_fin HU2.out HG4.out (exFact_former (HF2.out.next ((Below.refl _ _).drew)) HX4.out) (Below.refl _ _) (HU4.out.weak (q := ∃ y, r1 = .ok y) (fun _ => trivial)) h5 h6 h7 (df_if (base := base) HX4.out HU2.out.bs HVP.out).2.2 (n := g.s) rfl (exFact_tree HX4.out) he); have hbU := h6.block U kl (fun e => (by have := (HVD.out U e.symm).1; have := H.out.ltU; omega)); have y0' : w9.cell? ⟨U, 1, none⟩ = some (.slice AD D.length capD) := (World.cell?_of_block (a := ⟨U, 1, none⟩) hbU).trans k1; have yf : w9.frozen? ⟨U, 1, none⟩ = false := (World.frozen?_of_block (a := ⟨U, 1, none⟩) hbU).trans (HU4.out.fu 1); clear h5 h6 h7 hbU))
 all_goals (go_wp2_with fail)
 all_goals exact bodyPost_ret (v := .tuple #[]) (by simp [results, Tryd.results13, go_sem]) rfl (by rw [HR2.out]; exact (HCS.out _ rfl).from (zy.below HB2.out H.out.bs))
end Go.Proofs.YtjmeodadkjcmmaaDoor
