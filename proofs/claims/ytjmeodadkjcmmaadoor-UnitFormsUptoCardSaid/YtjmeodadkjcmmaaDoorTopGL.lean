import Derived.Test.YtjmeodadkjcmmaaDoorTopGP
namespace Go.Proofs.YtjmeodadkjcmmaaDoor
open Go.RowKit Go.ChangeShapes Go.WideShapes Go.Deep Go.ChangeAt
set_option linter.unusedVariables false
set_option maxRecDepth 20000
set_option maxHeartbeats 8000000 in
theorem formd_list {W0 w : World} {base : Nat} {m : Fm} {U : Nat} {vS vD vP : Value} {S : List NE} {D : List DfV} {P : List UpV} (h : UnAt W0 w base m U vS vD vP S True D P) (hf : zx W0 w m 0) (hfd : ∀ x ∈ m.sh, ∀ f ∈ x.ss, 0 < f.size) (G : Option Addr) (gl gc : Nat) {Sa : Option Addr} {sl sc : Nat} {L : List Shp} (hE : EnvIn W0 Sa sl sc L) {ush : List Sh} (hS : S.map (fun x => (x.name, x.n)) = ush.map (fun s => (s.1, s.2.length))) (d : Dt) (A : Option Addr) (c : Nat) (hd : DtIn W0 0 W0.heap.size [.int .i64 d.k, .int .i64 d.n, .string d.s, .slice A d.l.length c] d) (hgd : Good 40 d) (hD : D.length + 1 <= 1048577) (hP : P.length + 1 <= 1048576) {s : ByteArray} {g y gg : Dt} {ps ms : List Dt} (hh : headF d = some (s, g :: y :: ms)) (hs : s.toList = wDefine) (hn : defT (g :: y :: ms) = some gg.s) (hk : g.k = 4) (hal : g.l = gg :: ps) :
  Calls Tryd.prog 13 #[.pointer (some ⟨m.F, 0, none⟩), .pointer (some ⟨U, 0, none⟩), .agg #[.slice G gl gc, .slice Sa sl sc], .agg #[.int .i64 d.k, .int .i64 d.n, .string d.s, .slice A d.l.length c]] w (fun e w' => FormPost W0 w base m U vS S e w' (topT m.pl (L.map Shp.sh) ush (D.map DfV.pr, P.map UpV.pr) d)) := by
 have H := Lib.hid h
 have HF := Lib.hid hf
 have HE := Lib.hid hE
 have HS := Lib.hid hS
 have HGD := Lib.hid hgd
 have HX := Lib.hid (expr_says (W0 := W0) (m := m) hfd 40)
 have hltU : U < w.heap.size := Nat.lt_of_lt_of_le h.ltU h.bs
 have hltF : m.F < w.heap.size := hf.lt
 have KH := Lib.hid (head_any (F := m.F) (hf.below.trans ((((Below.refl _ _).alloc (Nat.le_refl _) _).alloc (by simp) _).mono hf.below.size) : Below W0.heap.size W0 ((w.alloc (.cells #[.slice G gl gc, .slice Sa sl sc] 26)).alloc (.cells #[.int .i64 d.k, .int .i64 d.n, .string d.s, .slice A d.l.length c] 38))) hf.ge d A c hd hgd.len)
 obtain ⟨r, hr⟩ : ∃ r, topT m.pl (L.map Shp.sh) ush (D.map DfV.pr, P.map UpV.pr) d = r := ⟨_, rfl⟩
 have HR := Lib.hid hr
 rw [hr]
 obtain ⟨_, _, _, hsub, hlen⟩ := head_some hh
 have HGS := Lib.hid (show ∀ x ∈ g :: y :: ms, Good 40 x from fun x hx => HGD.out.low (hsub x hx))
 have hln : (g :: y :: ms).length <= 1048576 := Nat.le_trans hlen HGD.out.len
 have HH := Lib.hid hh
 rw [hh] at KH
 have b1 : (s.toList == [100, 101, 102, 105, 110, 101]) = true := by rw [hs]; rfl
 have HR1 := Lib.hid (HR.out.symm.trans (top_def HH.out hs hn))
 have HR2 := Lib.hid (show r = mapF (fun x => (D.map DfV.pr ++ [(gg.s, x)], P.map UpV.pr)) (lamOf (fun ns => mapF (fun z => .mk 6 dt0 ⟨#[]⟩ 0 ns [z]) (bodyF (formed m.pl 40) ns (y :: ms))) (boundF 4 ps)) by rw [HR1.out, defX_list hk hal])
 clear h hf hE hS hgd hfd hd hr hh hsub hlen hs hn
 go_enter Tryd.func13, Tryd.ntmps13
 go_wp2_with fail
 refine KH.out.mono ?_
 rintro e w2 ⟨A2, c2, rfl, hds, hb2⟩
 have hb2' : Below w.heap.size w w2 := (((Below.refl _ _).alloc (Nat.le_refl _) _).alloc (by simp) _).trans (hb2.mono (by first | omega | (simp; done) | (simp; omega)))
 have HB2 := Lib.hid hb2'
 have HU2 := Lib.hid (H.out.next hb2')
 have HF2 := Lib.hid (HF.out.next hb2')
 have HDS := Lib.hid hds
 have E0 : w2.cell? ⟨w.heap.size, 0, none⟩ = some (.slice G gl gc) := (hb2.cell (p := ⟨w.heap.size, 0, none⟩) (by simp; omega)).trans ((World.cell?_alloc_lt _ _ ⟨w.heap.size, 0, none⟩ (by simp)).trans (za _ _ _ 0))
 have E1 : w2.cell? ⟨w.heap.size, 1, none⟩ = some (.slice Sa sl sc) := (hb2.cell (p := ⟨w.heap.size, 1, none⟩) (by simp; omega)).trans ((World.cell?_alloc_lt _ _ ⟨w.heap.size, 1, none⟩ (by simp)).trans (za _ _ _ 1))
 clear hb2 hb2' hds
 obtain ⟨p, q, A', c', rfl, hpw, hpF, e0, e1, e2, e3, hdi, hi, ht⟩ := HDS.out.first HF2.out.below HF2.out.ge
 have HI := Lib.hid hi
 have HT := Lib.hid ht
 have hcap := HDS.out.le
 have hcm := HDS.out.cap_
 unfold maxLen at hcm
 have u1 : w2.cell? ⟨U, 1, none⟩ = some vD := HU2.out.u1
 obtain ⟨AD, capD, rfl, hD1, hD2, _⟩ := HU2.out.oD.form
 have uf : w2.frozen? ⟨U, 1, none⟩ = false := HU2.out.fu 1
 have hU2 : U < w2.heap.size := by have := HU2.out.bs; have := H.out.ltU; omega
 have hnU : w2.heap.size ≠ U := by omega
 have hnP : w2.heap.size ≠ p := by omega
 have hvD : ∀ b, (Value.slice AD D.length capD).ownBlock = some b -> base <= b /\ b < w2.heap.size := fun b hb => HU2.out.oD.row.lt b hb
 have hvP : ∀ b, vP.ownBlock = some b -> b < w2.heap.size := fun b hb => (HU2.out.oP.row.lt b hb).2
 have HVD := Lib.hid hvD
 have HVP := Lib.hid hvP
 have hneUF : U ≠ m.F := H.out.neU
 have e0' : w2.cell? ⟨p, q, none⟩ = some (.int .i64 4) := by rw [<- hk]; exact e0
 rw [hal] at hi
 obtain ⟨b, o, Ag, cg, rfl, hbw, hbF, d0, d1, d2, d3, hdg, hig, htg⟩ := (show DsAt W0 w2 m.F A' c' (gg :: ps) from hi).first HF2.out.below HF2.out.ge
 have HTG := Lib.hid htg
 have hcI := hi.le
 obtain ⟨M, hM⟩ : ∃ M, (g :: y :: ms).length = M := ⟨_, rfl⟩
 have HML := Lib.hid (show (y :: ms).length = M - 1 by rw [<- hM]; simp)
 have hM2 : 2 <= M := by rw [<- hM]; simp
 rw [hM] at hcap ⊢
 have hMn : M <= 1048576 := by rw [<- hM]; exact hln
 obtain ⟨N, hN⟩ : ∃ N, g.l.length = N := ⟨_, rfl⟩
 have HNL := Lib.hid (show ps.length = N - 1 by rw [<- hN, hal]; simp)
 have hN1 : 1 <= N := by rw [<- hN, hal]; simp
 rw [hN] at e3
 have hNc : N <= c' := by rw [<- hN, hal]; exact hcI
 have hcim := hi.cap_
 unfold maxLen at hcim
 have hNn : N <= 1048576 := by rw [<- hN]; exact (HGS.out g (List.mem_cons_self ..)).len
 have hM0 : (0 : Int) < (M : Int) := by omega
 have hM1 : (1 : Int) <= (M : Int) := by omega
 have hM5 : (M : Int) <= (c2 : Int) := by omega
 have hM3 : 0 < M := by omega
 have hc21 : ¬ c2 = 1 := by omega
 have hN2 : (0 : Int) < (N : Int) := by omega
 have hN3 : (1 : Int) <= (N : Int) := by omega
 have hN4 : (N : Int) <= (c' : Int) := by omega
 have hN5 : 0 < N := by omega
 have hw1 : IntKind.i64.wrap 1 = 1 := IntWalk.i64_in _ (by omega)
 obtain ⟨r0, hr0⟩ : ∃ r0, boundF 4 ps = r0 := ⟨_, rfl⟩
 rw [hr0] at HR2
 have hnU2 : w2.heap.size ≠ b := by omega
 have KNG := Lib.hid (show ∀ (q3 cap3 : Nat), DsAt W0 w2 m.F (some ⟨b, q3, none⟩) cap3 ps -> Calls Tryd.prog 45 #[.pointer (some ⟨m.F, 0, none⟩), .agg #[.int .i64 4, .int .i64 0, .string ⟨#[]⟩, .slice (some ⟨b, q3, none⟩) (N - 1) cap3]] w2 (NmTwo W0 w2 m r0) from fun q3 cap3 hds => by
  have := names_two HF2.out 4 0 ⟨#[]⟩ (some ⟨b, q3, none⟩) cap3 ps hds (fun x hx => ((HGS.out g (List.mem_cons_self ..)).low (by rw [hal]; exact List.mem_cons_of_mem _ hx)).wide) hr0
  rwa [HNL.out] at this)
 clear hdi hi ht hdg hig htg hM hr0 hal hvD hvP e0 hN hcI
 go_upto_region 6 with fail
 go_cut [11] (fun v wx => ∃ nA nc ss, v = .slice nA ss.length nc /\ ScAt wx m.F nA nc ss /\ ss.length <= 6 /\ w2.grownBy wx (some m.F) /\ NmFact W0 w2 wx m w2.heap.size wx.heap.size nA nc ss r0)
 case first =>
  by_cases hc1 : c' = 1
  ·
   subst hc1
   obtain rfl : N = 1 := by omega
   have KN := Lib.hid (show Calls Tryd.prog 45 #[.pointer (some ⟨m.F, 0, none⟩), .agg #[.int .i64 4, .int .i64 0, .string ⟨#[]⟩, .slice (some ⟨b, o, none⟩) 0 0]] w2 (NmTwo W0 w2 m r0) from KNG.out o 0 ⟨by rw [HNL.out]; omega, by unfold maxLen; omega, fun h0 => by rw [HNL.out] at h0; omega⟩)
   go_wp2_with fail
   refine KN.out.mono ?_
   rintro e w3 ⟨nA, nc, ss, rfl, hZ⟩
   have HZ := Lib.hid hZ
   clear hZ
   go_wp2_with fail
   go_meet
   exact ⟨nA, nc, ss, rfl, HZ.out⟩
  have KN := Lib.hid (KNG.out (o + 4) (c' - 1) HTG.out)
  go_wp2_with fail
  refine KN.out.mono ?_
  rintro e w3 ⟨nA, nc, ss, rfl, hZ⟩
  have HZ := Lib.hid hZ
  clear hZ
  go_wp2_with fail
  go_meet
  exact ⟨nA, nc, ss, rfl, HZ.out⟩
 obtain ⟨nA, nc, ss, rfl, hsc3, hss3, hg3, hp3⟩ := hcut
 obtain ⟨w3, hw3⟩ : ∃ w3, w3 = wc := ⟨_, rfl⟩
 rw [<- hw3] at hsc3 hg3 hp3 ⊢
 clear hw3
 obtain ⟨rb, htw, hre, her⟩ := names_then (rec := formed m.pl 40) (ls := []) (rest := y :: ms) HF2.out hp3
 have HRB := Lib.hid (show r = mapF (fun x => (D.map DfV.pr ++ [(gg.s, x)], P.map UpV.pr)) (lamR ss rb) by rw [HR2.out]; exact congrArg _ hre)
 have HG3 := Lib.hid hg3
 have HP3 := Lib.hid hp3
 have HER := Lib.hid her
 have KB := Lib.hid (show Calls Tryd.prog 46 #[.pointer (some ⟨m.F, 0, none⟩), .slice (some ⟨p, q + 4, none⟩) (M - 1) (c2 - 1), .slice nA ss.length nc] w3 (ExTwo W0 w3 m rb) from by
  have := body_two HX.out (some ⟨p, q + 4, none⟩) (c2 - 1) (y :: ms) (HT.out.grown hg3) (fun x hx => HGS.out x (List.mem_cons_of_mem _ hx)) (by rw [HML.out]; omega) nA nc ss hsc3 (r := rb) htw
  rwa [HML.out] at this)
 clear hsc3 hg3 hp3 htw hre her
 go_wp2_with fail
 refine KB.out.mono ?_
 intro e w4 hp4
 obtain ⟨v4, rfl, hg4, hx4⟩ := hp4.fact
 have hg24 := HG3.out.trans hg4
 have hs34 := hg4.size
 have hs23 := HG3.out.size
 have HU4 := Lib.hid (HU2.out.grownF hg24)
 have HG24 := Lib.hid hg24
 have HX4 := Lib.hid hx4
 have k1 : w4.cell? ⟨U, 1, none⟩ = some (.slice AD D.length capD) := HU4.out.u1
 have k2 : w4.cell? ⟨p, q + 3, none⟩ = some (.slice (some ⟨b, o, none⟩) N c') := ((gcell hg24).1 _ _ hpw hpF).trans e3
 have k3 : w4.cell? ⟨b, o + 2, none⟩ = some (.string gg.s) := ((gcell hg24).1 _ _ hbw hbF).trans d2
 have kU : U < w4.heap.size := by omega
 have kp : p < w4.heap.size := by omega
 have kb : b < w4.heap.size := by omega
 have hb4s : base <= w4.heap.size := HU4.out.bs
 clear hp4 hg4 hx4 hg24
 unfold EV.agg
 go_upto_region 8 with fail
 obtain ⟨w5, hw5⟩ : ∃ w5, w5 = w4.alloc (.cells #[.int .i64 v4.k, .int .i64 v4.dk, .int .i64 v4.dn, .string v4.ds, .slice v4.dA v4.dl v4.dc, .string v4.S, .int .i64 v4.N, .slice v4.nA v4.nl v4.nc, .slice v4.aA v4.al v4.ac] 63) := ⟨_, rfl⟩
 rw [<- hw5]
 have hb5 : Below w4.heap.size w4 w5 := by rw [hw5]; exact (Below.refl _ _).alloc (Nat.le_refl _) _
 have hs5 : w5.heap.size = w4.heap.size + 1 := by rw [hw5]; simp
 have x5 : ∀ j, w5.cell? ⟨w4.heap.size, j, none⟩ = v4.cells.toArray[j]? := fun j => by rw [hw5]; exact za _ _ _ j
 have x50 : w5.cell? ⟨w4.heap.size, 0, none⟩ = some (.int .i64 v4.k) := x5 0
 have x51 : w5.cell? ⟨w4.heap.size, 1, none⟩ = some (.int .i64 v4.dk) := x5 1
 have x52 : w5.cell? ⟨w4.heap.size, 2, none⟩ = some (.int .i64 v4.dn) := x5 2
 have x53 : w5.cell? ⟨w4.heap.size, 3, none⟩ = some (.string v4.ds) := x5 3
 have x54 : w5.cell? ⟨w4.heap.size, 4, none⟩ = some (.slice v4.dA v4.dl v4.dc) := x5 4
 have x55 : w5.cell? ⟨w4.heap.size, 5, none⟩ = some (.string v4.S) := x5 5
 have x56 : w5.cell? ⟨w4.heap.size, 6, none⟩ = some (.int .i64 v4.N) := x5 6
 have x57 : w5.cell? ⟨w4.heap.size, 7, none⟩ = some (.slice v4.nA v4.nl v4.nc) := x5 7
 have x58 : w5.cell? ⟨w4.heap.size, 8, none⟩ = some (.slice v4.aA v4.al v4.ac) := x5 8
 have k15 : w5.cell? ⟨U, 1, none⟩ = some (.slice AD D.length capD) := (hb5.cell (p := ⟨U, 1, none⟩) kU).trans k1
 have k25 : w5.cell? ⟨p, q + 3, none⟩ = some (.slice (some ⟨b, o, none⟩) N c') := (hb5.cell (p := ⟨p, q + 3, none⟩) kp).trans k2
 have k35 : w5.cell? ⟨b, o + 2, none⟩ = some (.string gg.s) := (hb5.cell (p := ⟨b, o + 2, none⟩) kb).trans k3
 have kf5 : w5.frozen? ⟨U, 1, none⟩ = false := (hb5.frozen (p := ⟨U, 1, none⟩) kU).trans (HU4.out.fu 1)
 have kU5 : U < w5.heap.size := by omega
 have kp5 : p < w5.heap.size := by omega
 have kb5 : b < w5.heap.size := by omega
 have kx5 : w4.heap.size < w5.heap.size := by omega
 have HB5 := Lib.hid hb5
 have HS5 := Lib.hid hs5
 have HW5 := Lib.hid hw5
 clear hb5 hw5 x5 k1 k2 k3 hs5
 have hW6 : Below w4.heap.size w4 (w5.drew.alloc (.cells #[.int .i64 v4.k, .int .i64 v4.dk, .int .i64 v4.dn, .string v4.ds, .slice v4.dA v4.dl v4.dc, .string v4.S, .int .i64 v4.N, .slice v4.nA v4.nl v4.nc, .slice v4.aA v4.al v4.ac] 63)) := (HB5.out.drew).alloc (by have := HS5.out; simp; omega) _
 have hs6 : (w5.drew.alloc (.cells #[.int .i64 v4.k, .int .i64 v4.dk, .int .i64 v4.dn, .string v4.ds, .slice v4.dA v4.dl v4.dc, .string v4.S, .int .i64 v4.N, .slice v4.nA v4.nl v4.nc, .slice v4.aA v4.al v4.ac] 63)).heap.size = w5.heap.size + 1 := by simp
 have hrow6 : ∀ j, (w5.drew.alloc (.cells #[.int .i64 v4.k, .int .i64 v4.dk, .int .i64 v4.dn, .string v4.ds, .slice v4.dA v4.dl v4.dc, .string v4.S, .int .i64 v4.N, .slice v4.nA v4.nl v4.nc, .slice v4.aA v4.al v4.ac] 63)).cell? ⟨w5.heap.size, j, none⟩ = v4.cells.toArray[j]? := fun j => za w5.drew _ _ j
 have hdA := lam_df (base := base) (L := w5.heap.size) (nm := gg.s) (u := .slice AD D.length capD) HP3.out HER.out hs23 hs34 HX4.out hW6 (by omega) (by rw [hs6]; omega) hrow6 HU2.out.bs (fun b hb => (HVD.out b hb).2)
 have hdP := (lam_df (base := base) (L := w5.heap.size) (nm := gg.s) (u := vP) HP3.out HER.out hs23 hs34 HX4.out hW6 (by omega) (by rw [hs6]; omega) hrow6 HU2.out.bs HVP.out).2.2
 have hU6 := (HU4.out.weak (q := ∃ y, lamR ss rb = .ok y) (fun _ => trivial)).next hW6
 rw [hs6] at hdA hdP
 have HDA := Lib.hid hdA
 have HDP := Lib.hid hdP
 have HU6 := Lib.hid hU6
 have HW6 := Lib.hid hW6
 have k16 : (w5.drew.alloc (.cells #[.int .i64 v4.k, .int .i64 v4.dk, .int .i64 v4.dn, .string v4.ds, .slice v4.dA v4.dl v4.dc, .string v4.S, .int .i64 v4.N, .slice v4.nA v4.nl v4.nc, .slice v4.aA v4.al v4.ac] 63)).heap[U]? = w5.heap[U]? := heap_alloc_old w5.drew _ kU5
 have hn5U : w5.heap.size ≠ U := by omega
 have hn5p : w5.heap.size ≠ p := by omega
 have hn5b : w5.heap.size ≠ b := by omega
 have hn5x : w5.heap.size ≠ w4.heap.size := by omega
 have hbs6 : base <= (w5.drew.alloc (.cells #[.int .i64 v4.k, .int .i64 v4.dk, .int .i64 v4.dn, .string v4.ds, .slice v4.dA v4.dl v4.dc, .string v4.S, .int .i64 v4.N, .slice v4.nA v4.nl v4.nc, .slice v4.aA v4.al v4.ac] 63)).heap.size := hU6.bs
 have HK6 := Lib.hid k16
 clear hW6 hs6 hrow6 hdA hdP hU6 k16
 go_region_law
  (first
    | (refine step_df (W0 := W0) (pp := ∃ y, lamR ss rb = .ok y) (by rfl) (.tmp 63) (.tmp 76) (by rfl) HU6.out.oD ⟨gg.s, lamV nA nc ss w5.heap.size v4.t w2.heap.size (w5.heap.size + 1)⟩ _ rfl HDA.out.1 HDA.out.2.1 HDA.out.2.2 (by rfl) (by rw [World.size_alloc]; rfl) (by omega) hbs6 ?_; intro v9 w9 h5 h6 h7; obtain ⟨A9, c9, h8, _⟩ := h5.form; simp only [List.length_append, List.length_cons, List.length_nil, Nat.zero_add] at h8; subst h8; have HCS := Lib.hid (fun (e : Ending) (he : FEnd e) => def_fin HU2.out HG24.out (lam_former HF2.out HP3.out HER.out hs23 HX4.out) HW6.out HU6.out h5 h6 h7 HDP.out (n := gg.s) rfl (lam_tree HX4.out) he); have hbU := h6.block U (by simp; omega) (fun e => (by have := (HVD.out U e.symm).1; have := H.out.ltU; omega)); have y0' : w9.cell? ⟨U, 1, none⟩ = some (.slice AD D.length capD) := (World.cell?_of_block (a := ⟨U, 1, none⟩) (hbU.trans HK6.out)).trans k15; have yf : w9.frozen? ⟨U, 1, none⟩ = false := (World.frozen?_of_block (a := ⟨U, 1, none⟩) (hbU.trans HK6.out)).trans kf5; clear h5 h6 h7 hbU))
 all_goals (go_wp2_with fail)
 all_goals exact bodyPost_end (v := .tuple #[]) (by simp [results, Tryd.results13, go_sem]) rfl (by rw [HRB.out]; exact (HCS.out _ rfl).from (zy.below HB2.out H.out.bs))
end Go.Proofs.YtjmeodadkjcmmaaDoor
