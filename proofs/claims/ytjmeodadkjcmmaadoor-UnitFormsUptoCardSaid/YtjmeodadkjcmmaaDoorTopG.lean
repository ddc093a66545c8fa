import Derived.Test.YtjmeodadkjcmmaaDoorTopGS
import Derived.Test.YtjmeodadkjcmmaaDoorTopGL
namespace Go.Proofs.YtjmeodadkjcmmaaDoor
open Go.RowKit Go.ChangeShapes Go.WideShapes Go.Deep Go.ChangeAt
set_option linter.unusedVariables false
set_option maxRecDepth 20000
set_option maxHeartbeats 8000000 in
theorem form_any {W0 w : World} {base : Nat} {m : Fm} {U : Nat} {vS vD vP : Value} {S : List NE} {D : List DfV} {P : List UpV} (h : UnAt W0 w base m U vS vD vP S True D P) (hf : zx W0 w m 0) (hfd : ∀ x ∈ m.sh, ∀ f ∈ x.ss, 0 < f.size) (G : Option Addr) (gl gc : Nat) {Sa : Option Addr} {sl sc : Nat} {L : List Shp} (hE : EnvIn W0 Sa sl sc L) {ush : List Sh} (hS : S.map (fun x => (x.name, x.n)) = ush.map (fun s => (s.1, s.2.length))) (d : Dt) (A : Option Addr) (c : Nat) (hd : DtIn W0 0 W0.heap.size [.int .i64 d.k, .int .i64 d.n, .string d.s, .slice A d.l.length c] d) (hgd : Good 40 d) (hD : D.length + 1 <= 1048577) (hP : P.length + 1 <= 1048576) (hcol : ∃ st st', zt st d = .ok st') :
  Calls Tryd.prog 13 #[.pointer (some ⟨m.F, 0, none⟩), .pointer (some ⟨U, 0, none⟩), .agg #[.slice G gl gc, .slice Sa sl sc], .agg #[.int .i64 d.k, .int .i64 d.n, .string d.s, .slice A d.l.length c]] w (fun e w' => FormPost W0 w base m U vS S e w' (topT m.pl (L.map Shp.sh) ush (D.map DfV.pr, P.map UpV.pr) d)) := by
 have H := Lib.hid h
 have HF := Lib.hid hf
 have HE := Lib.hid hE
 have HS := Lib.hid hS
 have HGD := Lib.hid hgd
 have HX := Lib.hid (expr_says (W0 := W0) (m := m) hfd 40)
 have hltU : U < w.heap.size := Nat.lt_of_lt_of_le h.ltU h.bs
 have hltF : m.F < w.heap.size := hf.lt
 have KH := Lib.hid (head_any (F := m.F) (hf.below.trans ((((Below.refl _ _).alloc (Nat.le_refl _) _).alloc (by simp) _).mono hf.below.size) : Below W0.heap.size W0 ((w.alloc (.cells #[.slice G gl gc, .slice Sa sl sc] 26)).alloc (.cells #[.int .i64 d.k, .int .i64 d.n, .string d.s, .slice A d.l.length c] 38))) hf.ge d A c hd hgd.len)
 obtain ⟨r, hr⟩ : ∃ r, topT m.pl (L.map Shp.sh) ush (D.map DfV.pr, P.map UpV.pr) d = r := ⟨_, rfl⟩
 have HR := Lib.hid hr
 rw [hr]
 obtain ⟨st, st', hcol⟩ := hcol
 obtain ⟨s, rest, hh, hs⟩ := collected hcol
 obtain ⟨g, gs, rfl, hsub, hlen⟩ := head_some hh
 have HGS := Lib.hid (show ∀ x ∈ g :: gs, Good 40 x from fun x hx => HGD.out.low (hsub x hx))
 have hln : (g :: gs).length <= 1048576 := Nat.le_trans hlen HGD.out.len
 have HH := Lib.hid hh
 rw [hh] at KH
 have HU0 := H
 have HDI := Lib.hid hd
 clear h hf hE hS hgd hd hr hcol hh hsub hlen
 rcases hs with hs | ⟨hs, n, hn⟩ | hs
 ·
  have b1 : (s.toList == [100, 101, 102, 105, 110, 101]) = false := by rw [hs]; rfl
  have b2 : (s.toList == [117, 112, 103, 114, 97, 100, 101]) = false := by rw [hs]; rfl
  obtain rfl : r = .ok (D.map DfV.pr, P.map UpV.pr) := by rw [<- HR.out]; exact top_rec HH.out hs
  clear hs
  go_enter Tryd.func13, Tryd.ntmps13
  go_wp2_with fail
  refine KH.out.mono ?_
  rintro e w2 ⟨A2, c2, rfl, hds, hb2⟩
  have hb2' : Below w.heap.size w w2 := (((Below.refl _ _).alloc (Nat.le_refl _) _).alloc (by simp) _).trans (hb2.mono (by first | omega | (simp; done) | (simp; omega)))
  have HB2 := Lib.hid hb2'
  have HU2 := Lib.hid (H.out.next hb2')
  have HF2 := Lib.hid (HF.out.next hb2')
  have HDS := Lib.hid hds
  have E0 : w2.cell? ⟨w.heap.size, 0, none⟩ = some (.slice G gl gc) := (hb2.cell (p := ⟨w.heap.size, 0, none⟩) (by simp; omega)).trans ((World.cell?_alloc_lt _ _ ⟨w.heap.size, 0, none⟩ (by simp)).trans (za _ _ _ 0))
  have E1 : w2.cell? ⟨w.heap.size, 1, none⟩ = some (.slice Sa sl sc) := (hb2.cell (p := ⟨w.heap.size, 1, none⟩) (by simp; omega)).trans ((World.cell?_alloc_lt _ _ ⟨w.heap.size, 1, none⟩ (by simp)).trans (za _ _ _ 1))
  clear hb2 hb2' hds
  go_wp2_with fail
  exact bodyPost_end (v := .tuple #[]) (by simp [results, Tryd.results13, go_sem]) rfl ⟨rfl, zy.below HB2.out H.out.bs, HF2.out, _, _, _, _, HU2.out, rfl, rfl⟩
 ·
  rcases defT_cases hn with ⟨a, y, hl, hk, rfl⟩ | ⟨a, gg, ps, y, ms, hl, hk, hal, rfl⟩
  ·
   obtain ⟨rfl, rfl⟩ : g = a /\ gs = [y] := by simpa using hl
   have := formd_sym HU0.out HF.out hfd G gl gc HE.out HS.out d A c HDI.out HGD.out hD hP HH.out hs hn hk
   rwa [HR.out] at this
  obtain ⟨rfl, rfl⟩ : g = a /\ gs = y :: ms := by simpa using hl
  have := formd_list HU0.out HF.out hfd G gl gc HE.out HS.out d A c HDI.out HGD.out hD hP HH.out hs hn hk hal
  rwa [HR.out] at this
 have b1 : (s.toList == [100, 101, 102, 105, 110, 101]) = false := by rw [hs]; rfl
 have b2 : (s.toList == [117, 112, 103, 114, 97, 100, 101]) = true := by rw [hs]; rfl
 have HR1 := Lib.hid (HR.out.symm.trans (top_up HH.out hs))
 clear hs
 go_enter Tryd.func13, Tryd.ntmps13
 go_wp2_with fail
 refine KH.out.mono ?_
 rintro e w2 ⟨A2, c2, rfl, hds, hb2⟩
 have hb2' : Below w.heap.size w w2 := (((Below.refl _ _).alloc (Nat.le_refl _) _).alloc (by simp) _).trans (hb2.mono (by first | omega | (simp; done) | (simp; omega)))
 have HB2 := Lib.hid hb2'
 have HU2 := Lib.hid (H.out.next hb2')
 have HF2 := Lib.hid (HF.out.next hb2')
 have HDS := Lib.hid hds
 have E0 : w2.cell? ⟨w.heap.size, 0, none⟩ = some (.slice G gl gc) := (hb2.cell (p := ⟨w.heap.size, 0, none⟩) (by simp; omega)).trans ((World.cell?_alloc_lt _ _ ⟨w.heap.size, 0, none⟩ (by simp)).trans (za _ _ _ 0))
 have E1 : w2.cell? ⟨w.heap.size, 1, none⟩ = some (.slice Sa sl sc) := (hb2.cell (p := ⟨w.heap.size, 1, none⟩) (by simp; omega)).trans ((World.cell?_alloc_lt _ _ ⟨w.heap.size, 1, none⟩ (by simp)).trans (za _ _ _ 1))
 clear hb2 hb2' hds
 have KU := Lib.hid (upgrade_any HU2.out HF2.out G gl gc HE.out HS.out A2 c2 g gs HDS.out HGS.out hln hP)
 obtain ⟨M, hM⟩ : ∃ M, (g :: gs).length = M := ⟨_, rfl⟩
 rw [hM] at KU ⊢
 go_wp2_with fail
 refine KU.out.mono ?_
 intro e w3 hp
 have hrr := HR1.out
 obtain ⟨ru, hru⟩ : ∃ ru, upX (L.map Shp.sh) ush (P.map UpV.pr) (g :: gs) = ru := ⟨_, rfl⟩
 rw [hru] at hp hrr
 cases ru with
 | ok x =>
  obtain ⟨rfl, hG, hF3, vP', P', hU3, hPm⟩ := hp
  obtain rfl : r = .ok (D.map DfV.pr, P.map UpV.pr ++ [x]) := hrr
  have HZ := Lib.hid (And.intro hG (And.intro hF3 (And.intro hU3 hPm)))
  clear hG hF3 hU3 hPm hru hM
  go_wp2_with fail
  exact bodyPost_end (v := .tuple #[]) (by simp [results, Tryd.results13, go_sem]) rfl ⟨rfl, (zy.below HB2.out H.out.bs).trans HZ.out.1, HZ.out.2.1, _, _, _, _, HZ.out.2.2.1, rfl, HZ.out.2.2.2⟩
 | err cc =>
  obtain ⟨rfl, hG, hF3, hc⟩ := hp
  obtain rfl : r = .err cc := hrr
  have HZ := Lib.hid (And.intro hG (And.intro hF3 hc))
  clear hG hF3 hc hru hM
  go_wp2_with fail
  exact bodyPost_end (v := .tuple #[]) (by simp [results, Tryd.results13, go_sem]) rfl ⟨rfl, (zy.below HB2.out H.out.bs).trans HZ.out.1, HZ.out.2.1, HZ.out.2.2⟩
end Go.Proofs.YtjmeodadkjcmmaaDoor
