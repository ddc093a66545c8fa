import Derived.Test.YtjmeodadkjcmmaaDoorTopA
namespace Go.Proofs.YtjmeodadkjcmmaaDoor
open Go.RowKit Go.ChangeShapes Go.WideShapes Go.Deep Go.ChangeAt
set_option linter.unusedVariables false
set_option maxRecDepth 20000
def ShapePost (w : World) (e : Ending) (w' : World) : Fd Sh -> Prop
 | .ok (nm, fs) => ∃ A cap, e = .returned (.tuple #[.agg #[.string nm, .slice A fs.length cap], .int .i64 0]) /\ NmIn w' w.heap.size w'.heap.size A cap fs /\ Below w.heap.size w w'
 | .err c => ∃ (nm : ByteArray) (A : Option Addr) (n cap : Nat), e = .returned (.tuple #[.agg #[.string nm, .slice A n cap], .int .i64 c]) /\ c ≠ 0 /\ Below w.heap.size w w'
theorem shape_name {h : Dt} {fs : List Dt} (hb : bindB h = false) : shapeT (h :: fs) = .err 4 := by simp only [shapeT]; rw [if_neg (by rw [hb]; simp)]
theorem shape_sym {h : Dt} {fs : List Dt} (hb : bindB h = true) (j : Nat) (hj : j < fs.length) (hk : fs[j].k ≠ 3) : shapeT (h :: fs) = .err 4 := by
 simp only [shapeT]
 rw [if_pos hb, if_neg]
 intro e
 have := (List.all_eq_true.1 e) fs[j] (List.getElem_mem hj)
 simp at this
 exact hk this
theorem shape_all {h : Dt} {fs : List Dt} (hb : bindB h = true) (hk : fs.all (fun x => x.k == 3) = true) {e : Int} (he : shapeF h.s (fs.map Dt.s) = e) : shapeT (h :: fs) = if e = 0 then .ok (h.s, fs.map Dt.s) else .err e := by
 simp only [shapeT]
 rw [if_pos hb, if_pos hk, he]
theorem all_sym_step {l : List Dt} {j : Nat} (hj : j < l.length) (h : (l.take j).all (fun x => x.k == 3) = true) (h2 : l[j].k = 3) : (l.take (j + 1)).all (fun x => x.k == 3) = true := by
 rw [List.take_succ_eq_append_getElem hj, List.all_append, h]
 simp [h2]
structure ShAt (w : World) (p : Nat) (nm : ByteArray) (v : Value) : Prop where
 lt : p < w.heap.size
 c0 : w.cell? ⟨p, 0, none⟩ = some (.string nm)
 c1 : w.cell? ⟨p, 1, none⟩ = some v
 fz : ∀ j, w.frozen? ⟨p, j, none⟩ = false
theorem ShAt.kept {w w' : World} {p : Nat} {nm : ByteArray} {v : Value} (h : ShAt w p nm v) (hs : w.heap.size <= w'.heap.size) (hb : w'.heap[p]? = w.heap[p]?) : ShAt w' p nm v :=
 ⟨Nat.lt_of_lt_of_le h.lt hs, (World.cell?_of_block (a := ⟨p, 0, none⟩) hb).trans h.c0, (World.cell?_of_block (a := ⟨p, 1, none⟩) hb).trans h.c1, fun j => (World.frozen?_of_block (a := ⟨p, j, none⟩) hb).trans (h.fz j)⟩
theorem ShAt.set {w : World} {p : Nat} {nm : ByteArray} {v : Value} (h : ShAt w p nm v) (u : Value) : ShAt (w.setCell ⟨p, 1, none⟩ u) p nm u :=
 ⟨by simpa [World.setCell] using h.lt, zj h.c0 (by decide), zk h.c1, fun j => by simpa using h.fz j⟩
structure ShRel (w w1 : World) (nm : ByteArray) (fs : List Dt) (j : Nat) (v : Value) (wr : World) : Prop where
 all_ : (fs.take j).all (fun x => x.k == 3) = true
 own : OwnAt kitS 9 (w.heap.size + 2) wr v ((fs.take j).map Dt.s)
 bel : Below (w.heap.size + 1) w1 wr
 at_ : ShAt wr (w.heap.size + 1) nm v
theorem ShRel.step {w w1 wr w2 w3 : World} {nm : ByteArray} {fs : List Dt} {j : Nat} {v u : Value} (h : ShRel w w1 nm fs j v wr) (hj : j < fs.length) (hk : fs[j].k = 3) (hb2 : Below wr.heap.size wr w2) (hO : OwnAt kitS 9 (w.heap.size + 2) w3 u ((fs.take j).map Dt.s ++ [fs[j].s])) (hg : w2.grownBy w3 v.ownBlock) :
  ShRel w w1 nm fs (j + 1) u (w3.setCell ⟨w.heap.size + 1, 1, none⟩ u) := by
 have hlt := h.at_.lt
 have hv : ∀ g, v.ownBlock = some g -> w.heap.size + 2 <= g := fun g hg => (h.own.row.lt g hg).1
 have hs2 := hb2.size
 have hblk : ∀ g, g < w.heap.size + 2 -> w3.heap[g]? = wr.heap[g]? := fun g hg' => (hg.block g (by omega) (fun e => by have := hv g e.symm; omega)).trans (hb2.block g (by omega))
 have hb3 : Below (w.heap.size + 1) wr w3 := ⟨hg.os.trans hb2.os, hg.tape.trans hb2.tape, hg.output.trans hb2.output, Nat.le_trans hs2 hg.size, fun g hg' => hblk g (by omega)⟩
 refine ⟨all_sym_step hj h.all_ hk, ?_, (h.bel.trans hb3).setCell (p := ⟨w.heap.size + 1, 1, none⟩) (Nat.le_refl _) _, (h.at_.kept (Nat.le_trans hs2 hg.size) (hblk _ (by omega))).set u⟩
 rw [List.take_succ_eq_append_getElem hj, List.map_append]
 exact hO.other (zd w3 (w.heap.size + 1) 1 u) (Nat.lt_succ_self _)
theorem grown_drew' {a w : World} {row : Option Nat} (h : a.grownBy w row) : a.grownBy w.drew row := ⟨h.os, h.tape, h.output, h.size, h.block⟩
theorem grown_set' {a w : World} {g j : Nat} {u : Value} (h : a.grownBy w (some g)) : a.grownBy (w.setCell ⟨g, j, none⟩ u) (some g) := h.trans (zd w g j u)
theorem shape_end {w wr w5 w' : World} {r : Fd Sh} {cc : Int} {nm : ByteArray} {ss : List ByteArray} {A : Option Addr} {N cap : Nat} (hr : r = if cc = 0 then .ok (nm, ss) else .err cc) (hN : ss.length = N) (hnm : NmIn wr (w.heap.size + 1) wr.heap.size A cap ss) (hb : Below w.heap.size w w5) (hg : wr.grownBy w5 (some w.heap.size)) (hg2 : w5.grownBy w' (some w.heap.size)) :
  ShapePost w (.returned (.tuple #[.agg #[.string nm, .slice A N cap], .int .i64 cc])) w' r := by
 have hg' := hg.trans hg2
 have hb' : Below w.heap.size w w' := ⟨hg2.os.trans hb.os, hg2.tape.trans hb.tape, hg2.output.trans hb.output, Nat.le_trans hb.size hg2.size, fun k hk => (hg2.block k (Nat.lt_of_lt_of_le hk hb.size) (fun e => by have := Option.some.inj e; omega)).trans (hb.block k hk)⟩
 subst hN
 by_cases hc : cc = 0
 ·
  rw [hr, if_pos hc, hc]
  exact ⟨A, cap, rfl, hnm.mono (zm hg' (fun b h1 h2 e => by have := Option.some.inj e; omega)) hg'.size (Nat.le_succ _) hg'.size, hb'⟩
 ·
  rw [hr, if_neg hc]
  exact ⟨nm, A, _, cap, rfl, hc, hb'⟩
set_option maxHeartbeats 4000000 in
theorem shape_any {W0 w : World} {F : Nat} (hW : Below W0.heap.size W0 w) (hF : W0.heap.size <= F) (hmaps : UMaps W0) (B : Option Addr) (bc : Nat) (h : Dt) (rest : List Dt) (hds : DsAt W0 w F B bc (h :: rest)) (hgd : ∀ x ∈ h :: rest, Good 40 x) (hlen : (h :: rest).length <= 1048576) :
  Calls Tryd.prog 37 #[.slice B (h :: rest).length bc] w (fun e w' => ShapePost w e w' (shapeT (h :: rest))) := by
 obtain ⟨p, q, A, c, rfl, hpw, hpF, e0, e1, e2, e3, hd, hi, ht⟩ := hds.first hW hF
 have HGD := Lib.hid hgd
 have HM := Lib.hid (hmaps.below hW)
 have HW := Lib.hid hW
 have HFF := Lib.hid hF
 have HT := Lib.hid ht
 have hcap := hds.le
 have hbcm := hds.cap_
 unfold maxLen at hbcm
 obtain ⟨M, hM⟩ : ∃ M, (h :: rest).length = M := ⟨_, rfl⟩
 have HML := Lib.hid (show rest.length = M - 1 by rw [<- hM, List.length_cons]; rfl)
 have hM1 : 1 <= M := by rw [<- hM]; simp
 rw [hM] at hlen hcap ⊢
 have hM0 : (0 : Int) <= (M : Int) := Int.natCast_nonneg _
 have hM2 : (0 : Int) < (M : Int) := by omega
 have hi1 : (1 : Int) <= (M : Int) := by omega
 have hi2 : (M : Int) <= (bc : Int) := by omega
 have hi3 : IntKind.i64.wrap 1 = 1 := IntWalk.i64_in _ (by omega)
 have hneP := World.new_ne w _ e0
 have hneP2 : w.heap.size + 1 ≠ p := by omega
 clear hds hd hi ht hgd hmaps hW hF hM
 cases hb : bindB h
 all_goals have KN := Lib.hid (fun w' (hbl : Below w.heap.size w w') => name_at hb A h.l.length c w' (HGD.out h (List.mem_cons_self ..)).wide (HM.out.below hbl))
 ·
  rw [shape_name hb]
  go_enter Tryd.func37, Tryd.ntmps37
  go_wp2_with fail
  refine (KN.out _ (((Below.refl _ _).alloc (Nat.le_refl _) _).alloc (by simp) _)).mono ?_
  rintro e w1 ⟨rfl, hb1⟩
  have hsz2 : w.heap.size + 1 < w1.heap.size := by have := hb1.size; simp at this; omega
  have hsz : w.heap.size < w1.heap.size := by omega
  have R0 : ∀ j, w1.cell? ⟨w.heap.size, j, none⟩ = (w.alloc (.cells #[.string ⟨#[]⟩, .slice none 0 0] 53)).cell? ⟨w.heap.size, j, none⟩ := fun j => (hb1.cell (p := ⟨w.heap.size, j, none⟩) (by simp; omega)).trans (World.cell?_alloc_lt _ _ ⟨w.heap.size, j, none⟩ (by simp))
  have RF0 : ∀ j, w1.frozen? ⟨w.heap.size, j, none⟩ = false := fun j => (hb1.frozen (p := ⟨w.heap.size, j, none⟩) (by simp; omega)).trans (by simp)
  have hat : ShAt w1 (w.heap.size + 1) h.s (.slice none 0 0) := by
   have z : (w.alloc (.cells #[.string ⟨#[]⟩, .slice none 0 0] 53)).heap.size = w.heap.size + 1 := by simp
   refine ShAt.kept (w := ((w.alloc (.cells #[.string ⟨#[]⟩, .slice none 0 0] 53)).alloc (.cells #[.string h.s, .slice none 0 0] 53))) ⟨by simp, ?_, ?_, fun j => by simp⟩ hb1.size (hb1.block _ (by simp))
   ·
    rw [<- z]; exact za (w.alloc (.cells #[.string ⟨#[]⟩, .slice none 0 0] 53)) _ _ 0
   rw [<- z]; exact za (w.alloc (.cells #[.string ⟨#[]⟩, .slice none 0 0] 53)) _ _ 1
  have HB1 := Lib.hid (show Below w.heap.size w w1 from Below.trans (((Below.refl _ _).alloc (Nat.le_refl _) _).alloc (by simp) _) (hb1.mono (by simp; omega)))
  have HBB := Lib.hid (show Below (w.heap.size + 1) w1 w1 from Below.refl _ _)
  clear hb1
  have q0 := hat.c0
  have q1 := hat.c1
  go_wp2_with fail
  exact bodyPost_ret (v := .tuple #[.agg #[.string h.s, (.slice none 0 0)], .int .i64 4]) (by simp [results, Tryd.results37, go_sem, R0]) rfl ⟨h.s, none, 0, 0, rfl, by decide, (HB1.out.setCell (p := ⟨w.heap.size, 0, none⟩) (Nat.le_refl _) _).setCell (p := ⟨w.heap.size, 1, none⟩) (Nat.le_refl _) _⟩
 have HB := Lib.hid hb
 clear hb
 obtain ⟨r, hr⟩ : ∃ r, shapeT (h :: rest) = r := ⟨_, rfl⟩
 rw [hr]
 have HRS := Lib.hid hr
 clear hr
 by_cases hbc : bc = 1
 ·
  go_enter Tryd.func37, Tryd.ntmps37
  go_wp2_with fail
  refine (KN.out _ (((Below.refl _ _).alloc (Nat.le_refl _) _).alloc (by simp) _)).mono ?_
  rintro e w1 ⟨rfl, hb1⟩
  have hsz2 : w.heap.size + 1 < w1.heap.size := by have := hb1.size; simp at this; omega
  have hsz : w.heap.size < w1.heap.size := by omega
  have R0 : ∀ j, w1.cell? ⟨w.heap.size, j, none⟩ = (w.alloc (.cells #[.string ⟨#[]⟩, .slice none 0 0] 53)).cell? ⟨w.heap.size, j, none⟩ := fun j => (hb1.cell (p := ⟨w.heap.size, j, none⟩) (by simp; omega)).trans (World.cell?_alloc_lt _ _ ⟨w.heap.size, j, none⟩ (by simp))
  have RF0 : ∀ j, w1.frozen? ⟨w.heap.size, j, none⟩ = false := fun j => (hb1.frozen (p := ⟨w.heap.size, j, none⟩) (by simp; omega)).trans (by simp)
  have hat : ShAt w1 (w.heap.size + 1) h.s (.slice none 0 0) := by
   have z : (w.alloc (.cells #[.string ⟨#[]⟩, .slice none 0 0] 53)).heap.size = w.heap.size + 1 := by simp
   refine ShAt.kept (w := ((w.alloc (.cells #[.string ⟨#[]⟩, .slice none 0 0] 53)).alloc (.cells #[.string h.s, .slice none 0 0] 53))) ⟨by simp, ?_, ?_, fun j => by simp⟩ hb1.size (hb1.block _ (by simp))
   ·
    rw [<- z]; exact za (w.alloc (.cells #[.string ⟨#[]⟩, .slice none 0 0] 53)) _ _ 0
   rw [<- z]; exact za (w.alloc (.cells #[.string ⟨#[]⟩, .slice none 0 0] 53)) _ _ 1
  have HB1 := Lib.hid (show Below w.heap.size w w1 from Below.trans (((Below.refl _ _).alloc (Nat.le_refl _) _).alloc (by simp) _) (hb1.mono (by simp; omega)))
  have HBB := Lib.hid (show Below (w.heap.size + 1) w1 w1 from Below.refl _ _)
  clear hb1
  have HAT := Lib.hid hat
  have HRR := Lib.hid (And.intro R0 RF0)
  clear R0 RF0 hat
  go_wp2_with fail
  go_loopg [21] (M - 1) (fun g i wr => ∃ (j : Nat) (v : Value), g = M - 1 - j /\ j <= M - 1 /\ i = .int .i64 j /\ ShRel w w1 h.s rest j v wr)
  case atStart => exact ⟨0, _, by omega, by omega, rfl, ⟨rfl, OwnAt.start _ _ _ _, HBB.out, HAT.out⟩⟩
  obtain ⟨j, v, hg, hj, rfl, hR⟩ := hrel
  have HG := Lib.hid hg
  have HR := Lib.hid hR
  have hj0 : (0 : Int) <= (j : Int) := Int.natCast_nonneg _
  have hbr : Below w.heap.size w wr := HB1.out.trans (hR.bel.mono (Nat.le_succ _))
  have hpr := hR.at_.lt
  have hwr : w.heap.size < wr.heap.size := by omega
  have R : ∀ i, wr.cell? ⟨w.heap.size, i, none⟩ = (w.alloc (.cells #[.string ⟨#[]⟩, .slice none 0 0] 53)).cell? ⟨w.heap.size, i, none⟩ := fun i => (hR.bel.cell (p := ⟨w.heap.size, i, none⟩) (Nat.lt_succ_self _)).trans (HRR.out.1 i)
  have RF : ∀ i, wr.frozen? ⟨w.heap.size, i, none⟩ = false := fun i => (hR.bel.frozen (p := ⟨w.heap.size, i, none⟩) (Nat.lt_succ_self _)).trans (HRR.out.2 i)
  have HBR := Lib.hid hbr
  have q0 := HR.out.at_.c0
  obtain ⟨Av, cv, rfl, hv1, hv2, _⟩ := HR.out.own.form
  have q1 := HR.out.at_.c1
  have qf := HR.out.at_.fz
  have hX : ((rest.take j).map Dt.s).length = j := by simp; rw [HML.out]; omega
  have hOW := HR.out.own
  rw [hX] at q1 hv1 hOW
  have HOW := Lib.hid hOW
  have hR2 := HR.out
  rw [hX] at hR2
  have HR2 := Lib.hid hR2
  have HX := Lib.hid hX
  clear hg hR hOW hX hR2
  by_cases hlt : j < M - 1
  ·
   exfalso; omega
  obtain rfl : j = M - 1 := by omega
  have htk : rest.take (M - 1) = rest := List.take_of_length_le (Nat.le_of_eq HML.out)
  obtain ⟨ss, hss⟩ : ∃ ss, rest.map Dt.s = ss := ⟨_, rfl⟩
  have hall := HR2.out.all_
  have hOW := HOW.out
  have hX := HX.out
  rw [htk, hss] at hOW hX
  rw [htk] at hall
  obtain ⟨A9, c9, hv9, hsc9, hnm9⟩ := own_names (lo := w.heap.size + 1) (F := w.heap.size) hOW (by omega) (by omega)
  rw [hX] at hv9
  obtain ⟨rfl, rfl⟩ : Av = A9 /\ cv = c9 := by simpa using hv9
  obtain ⟨cc, hcc⟩ : ∃ cc, shapeF h.s ss = cc := ⟨_, rfl⟩
  have hcc2 : shapeF h.s (rest.map Dt.s) = cc := by rw [hss]; exact hcc
  have hres : r = if cc = 0 then .ok (h.s, ss) else .err cc := by rw [<- HRS.out, shape_all HB.out hall hcc2, hss]
  have hsw : ∀ s ∈ ss, s.size <= maxLen := by
   intro s hs
   rw [<- hss] at hs
   obtain ⟨x, hx, rfl⟩ := List.mem_map.1 hs
   exact (HGD.out x (List.mem_cons_of_mem _ hx)).wide
  have CS := Lib.hid (show ∀ W : World, Below w.heap.size w W -> wr.grownBy W (some w.heap.size) -> Calls Tryd.prog 32 #[.agg #[.string h.s, .slice Av (M - 1) cv]] W (fun e w' => e = .returned (.int .i64 cc) /\ Below W.heap.size W w') from fun W h1 h2 => by
   rw [<- hcc]
   have h3 := (hsc9.grown h2).strs
   rw [hX] at h3
   exact checkShape_any W h.s Av (M - 1) cv ss ⟨rfl, (HGD.out h (List.mem_cons_self ..)).wide, h3, hsw, hv1, hv2⟩ (HM.out.below h1))
  have HRES := Lib.hid hres
  have HNM := Lib.hid hnm9
  have HXX := Lib.hid hX
  have hneW : w.heap.size + 1 ≠ w.heap.size := by omega
  clear hcc2 htk hss hall hOW hX hsc9 hnm9 hcc hres hsw hv9 hbr
  go_upto_region 11 with fail
  go_region_held3 (fun w' => w'.cell? ⟨w.heap.size + 1, 0, none⟩ = some (.string h.s) /\ w'.cell? ⟨w.heap.size + 1, 1, none⟩ = some (.slice Av (M - 1) cv)) (go_keep)
   (first | (go_at_call 32; refine (CS.out _ (by (repeat' (first | with_reducible exact HBR.out | with_reducible apply Below.drew | (with_reducible refine Below.setCell ?_ ?_ _))); all_goals (exact Nat.le_refl _)) (by (repeat' (first | with_reducible exact World.grownBy.rfl' _ _ | with_reducible apply grown_drew' | with_reducible apply grown_set')))).mono ?_; rintro e w5 ⟨rfl, hb5⟩; have HB5 := Lib.hid (show Below w.heap.size w w5 from Below.trans (show Below w.heap.size w _ from (by (repeat' (first | with_reducible exact HBR.out | with_reducible apply Below.drew | (with_reducible refine Below.setCell ?_ ?_ _))); all_goals (exact Nat.le_refl _))) (hb5.mono (by first | (simp; done) | (simp; omega)))); have HG5 := Lib.hid (show wr.grownBy w5 (some w.heap.size) from World.grownBy.trans (show wr.grownBy _ (some w.heap.size) from (by (repeat' (first | with_reducible exact World.grownBy.rfl' _ _ | with_reducible apply grown_drew' | with_reducible apply grown_set')))) (zb hb5 _)); have m0 : w5.cell? ⟨w.heap.size + 1, 0, none⟩ = some (.string h.s) := (hb5.cell (p := ⟨w.heap.size + 1, 0, none⟩) (by simpa using hpr)).trans (by simpa using q0); have m1 : w5.cell? ⟨w.heap.size + 1, 1, none⟩ = some (.slice Av (M - 1) cv) := (hb5.cell (p := ⟨w.heap.size + 1, 1, none⟩) (by simpa using hpr)).trans (by simpa using q1); have hpr5 : w.heap.size + 1 < w5.heap.size := Nat.lt_of_lt_of_le (by simpa using hpr) hb5.size; have k5 := (fun i => hb5.cell (p := ⟨w.heap.size, i, none⟩) (by simpa using hwr)); have k6 := (fun i => hb5.frozen (p := ⟨w.heap.size, i, none⟩) (by simpa using hwr)); have hw5 : w.heap.size < w5.heap.size := (by omega); clear hb5))
  all_goals (go_wp2_with fail)
  all_goals exact bodyPost_ret (v := .tuple #[.agg #[.string h.s, .slice Av (M - 1) cv], .int .i64 cc]) (by simp [results, Tryd.results37, go_sem, k5, R]) rfl (shape_end HRES.out HXX.out HNM.out HB5.out HG5.out (by (repeat' (first | with_reducible exact World.grownBy.rfl' _ _ | with_reducible apply grown_drew' | with_reducible apply grown_set'))))
 go_enter Tryd.func37, Tryd.ntmps37
 go_wp2_with fail
 refine (KN.out _ (((Below.refl _ _).alloc (Nat.le_refl _) _).alloc (by simp) _)).mono ?_
 rintro e w1 ⟨rfl, hb1⟩
 have hsz2 : w.heap.size + 1 < w1.heap.size := by have := hb1.size; simp at this; omega
 have hsz : w.heap.size < w1.heap.size := by omega
 have R0 : ∀ j, w1.cell? ⟨w.heap.size, j, none⟩ = (w.alloc (.cells #[.string ⟨#[]⟩, .slice none 0 0] 53)).cell? ⟨w.heap.size, j, none⟩ := fun j => (hb1.cell (p := ⟨w.heap.size, j, none⟩) (by simp; omega)).trans (World.cell?_alloc_lt _ _ ⟨w.heap.size, j, none⟩ (by simp))
 have RF0 : ∀ j, w1.frozen? ⟨w.heap.size, j, none⟩ = false := fun j => (hb1.frozen (p := ⟨w.heap.size, j, none⟩) (by simp; omega)).trans (by simp)
 have hat : ShAt w1 (w.heap.size + 1) h.s (.slice none 0 0) := by
  have z : (w.alloc (.cells #[.string ⟨#[]⟩, .slice none 0 0] 53)).heap.size = w.heap.size + 1 := by simp
  refine ShAt.kept (w := ((w.alloc (.cells #[.string ⟨#[]⟩, .slice none 0 0] 53)).alloc (.cells #[.string h.s, .slice none 0 0] 53))) ⟨by simp, ?_, ?_, fun j => by simp⟩ hb1.size (hb1.block _ (by simp))
  ·
   rw [<- z]; exact za (w.alloc (.cells #[.string ⟨#[]⟩, .slice none 0 0] 53)) _ _ 0
  rw [<- z]; exact za (w.alloc (.cells #[.string ⟨#[]⟩, .slice none 0 0] 53)) _ _ 1
 have HB1 := Lib.hid (show Below w.heap.size w w1 from Below.trans (((Below.refl _ _).alloc (Nat.le_refl _) _).alloc (by simp) _) (hb1.mono (by simp; omega)))
 have HBB := Lib.hid (show Below (w.heap.size + 1) w1 w1 from Below.refl _ _)
 clear hb1
 have HAT := Lib.hid hat
 have HRR := Lib.hid (And.intro R0 RF0)
 clear R0 RF0 hat
 go_wp2_with fail
 go_loopg [21] (M - 1) (fun g i wr => ∃ (j : Nat) (v : Value), g = M - 1 - j /\ j <= M - 1 /\ i = .int .i64 j /\ ShRel w w1 h.s rest j v wr)
 case atStart => exact ⟨0, _, by omega, by omega, rfl, ⟨rfl, OwnAt.start _ _ _ _, HBB.out, HAT.out⟩⟩
 obtain ⟨j, v, hg, hj, rfl, hR⟩ := hrel
 have HG := Lib.hid hg
 have HR := Lib.hid hR
 have hj0 : (0 : Int) <= (j : Int) := Int.natCast_nonneg _
 have hbr : Below w.heap.size w wr := HB1.out.trans (hR.bel.mono (Nat.le_succ _))
 have hpr := hR.at_.lt
 have hwr : w.heap.size < wr.heap.size := by omega
 have R : ∀ i, wr.cell? ⟨w.heap.size, i, none⟩ = (w.alloc (.cells #[.string ⟨#[]⟩, .slice none 0 0] 53)).cell? ⟨w.heap.size, i, none⟩ := fun i => (hR.bel.cell (p := ⟨w.heap.size, i, none⟩) (Nat.lt_succ_self _)).trans (HRR.out.1 i)
 have RF : ∀ i, wr.frozen? ⟨w.heap.size, i, none⟩ = false := fun i => (hR.bel.frozen (p := ⟨w.heap.size, i, none⟩) (Nat.lt_succ_self _)).trans (HRR.out.2 i)
 have HBR := Lib.hid hbr
 have q0 := HR.out.at_.c0
 obtain ⟨Av, cv, rfl, hv1, hv2, _⟩ := HR.out.own.form
 have q1 := HR.out.at_.c1
 have qf := HR.out.at_.fz
 have hX : ((rest.take j).map Dt.s).length = j := by simp; rw [HML.out]; omega
 have hOW := HR.out.own
 rw [hX] at q1 hv1 hOW
 have HOW := Lib.hid hOW
 have hR2 := HR.out
 rw [hX] at hR2
 have HR2 := Lib.hid hR2
 have HX := Lib.hid hX
 clear hg hR hOW hX hR2
 by_cases hlt : j < M - 1
 ·
  have hlt2 : (j : Int) < ((M - 1 : Nat) : Int) := by omega
  have hjr : j < rest.length := by rw [HML.out]; exact hlt
  obtain ⟨b, o, hA, hbw, hbF, cs, hrow, hde⟩ := HT.out.nth j hjr
  cases hA
  obtain ⟨A2, c2, rfl, hie⟩ := hde.items HW.out HFF.out
  obtain ⟨e, hje⟩ : ∃ e, rest[j] = e := ⟨_, rfl⟩
  rw [hje] at hrow
  have HJE := Lib.hid hje
  have hpw2 : p < wr.heap.size := by omega
  have hneR : wr.heap.size ≠ p := by omega
  have hneR2 : wr.heap.size ≠ w.heap.size := by omega
  have hneR3 : wr.heap.size ≠ w.heap.size + 1 := by omega
  have c0 : wr.cell? ⟨p, q + 4 + j * 4, none⟩ = some (.int .i64 e.k) := (hbr.cell (p := ⟨p, q + 4 + j * 4, none⟩) hpw).trans (hrow 0 (by simp))
  have c1 : wr.cell? ⟨p, q + 4 + j * 4 + 1, none⟩ = some (.int .i64 e.n) := (hbr.cell (p := ⟨p, q + 4 + j * 4 + 1, none⟩) hpw).trans (hrow 1 (by simp))
  have c2' : wr.cell? ⟨p, q + 4 + j * 4 + 2, none⟩ = some (.string e.s) := (hbr.cell (p := ⟨p, q + 4 + j * 4 + 2, none⟩) hpw).trans (hrow 2 (by simp))
  have c3 : wr.cell? ⟨p, q + 4 + j * 4 + 3, none⟩ = some (.slice A2 e.l.length c2) := (hbr.cell (p := ⟨p, q + 4 + j * 4 + 3, none⟩) hpw).trans (by have := hrow 3 (by simp); simpa using this)
  obtain ⟨ek, hek⟩ : ∃ ek, e.k = ek := ⟨_, rfl⟩
  have HEK := Lib.hid hek
  rw [hek] at c0
  obtain ⟨L', hL'⟩ : ∃ L', e.l.length = L' := ⟨_, rfl⟩
  rw [hL'] at c3
  clear hrow hde hie hje hek hL' hbr
  by_cases h3 : ek = 3
  ·
   have h5 : (ek != 3) = false := by simpa using h3
   have H3 := Lib.hid h3
   clear h3
   go_wp2_with (at_builtin; refine wpList_s rfl (.tmp 30) (.tmp 33) rfl (HOW.out.new ((Below.refl _ _).alloc (Nat.le_refl _) _)) e.s _ rfl rfl (by rw [World.size_alloc]; rfl) (by rw [HX.out]; omega) (by simp; omega) ?_; intro v5 w5 h5 h6; obtain ⟨A5, c5, h7, _⟩ := h5.form; rw [show ((rest.take j).map Dt.s ++ [e.s]).length = j + 1 by rw [List.length_append, HX.out]; rfl] at h7; subst h7; have h8 := ShAt.kept HR.out.at_ (by have := h6.size; simp at this; omega) ((h6.block (w.heap.size + 1) (by simp; omega) (fun e => (by have := (HOW.out.row.lt _ e.symm).1; omega))).trans (heap_alloc_old wr _ hpr)); have y0 := h8.c0; have y1 := h8.c1; have yf := h8.fz; have HO5 := Lib.hid h5; have HG5 := Lib.hid h6; clear h5 h6 h8)
   go_wp2_with fail
   go_roundg (M - 1 - (j + 1))
   case measure => have := HG.out; omega
   case rel => exact ⟨j + 1, _, rfl, by omega, by go_num, ShRel.step HR2.out hjr (by rw [HJE.out, HEK.out]; exact H3.out) ((Below.refl _ _).alloc (Nat.le_refl _) _) (by rw [HJE.out]; exact HO5.out) HG5.out⟩
  have h5 : (ek != 3) = true := by simpa using h3
  obtain rfl : r = .err 4 := by rw [<- HRS.out]; exact shape_sym HB.out j hjr (by rw [HJE.out, HEK.out]; exact h3)
  clear h3
  go_wp2_with fail
  exact bodyPost_ret (v := .tuple #[.agg #[.string h.s, (.slice Av j cv)], .int .i64 4]) (by simp [results, Tryd.results37, go_sem, R, hwr]) rfl ⟨h.s, Av, j, cv, rfl, by decide, ((HBR.out.setCell (p := ⟨w.heap.size, 0, none⟩) (Nat.le_refl _) _).setCell (p := ⟨w.heap.size, 1, none⟩) (Nat.le_refl _) _).alloc ((HBR.out.setCell (p := ⟨w.heap.size, 0, none⟩) (Nat.le_refl _) _).setCell (p := ⟨w.heap.size, 1, none⟩) (Nat.le_refl _) _).size _⟩
 obtain rfl : j = M - 1 := by omega
 have htk : rest.take (M - 1) = rest := List.take_of_length_le (Nat.le_of_eq HML.out)
 obtain ⟨ss, hss⟩ : ∃ ss, rest.map Dt.s = ss := ⟨_, rfl⟩
 have hall := HR2.out.all_
 have hOW := HOW.out
 have hX := HX.out
 rw [htk, hss] at hOW hX
 rw [htk] at hall
 obtain ⟨A9, c9, hv9, hsc9, hnm9⟩ := own_names (lo := w.heap.size + 1) (F := w.heap.size) hOW (by omega) (by omega)
 rw [hX] at hv9
 obtain ⟨rfl, rfl⟩ : Av = A9 /\ cv = c9 := by simpa using hv9
 obtain ⟨cc, hcc⟩ : ∃ cc, shapeF h.s ss = cc := ⟨_, rfl⟩
 have hcc2 : shapeF h.s (rest.map Dt.s) = cc := by rw [hss]; exact hcc
 have hres : r = if cc = 0 then .ok (h.s, ss) else .err cc := by rw [<- HRS.out, shape_all HB.out hall hcc2, hss]
 have hsw : ∀ s ∈ ss, s.size <= maxLen := by
  intro s hs
  rw [<- hss] at hs
  obtain ⟨x, hx, rfl⟩ := List.mem_map.1 hs
  exact (HGD.out x (List.mem_cons_of_mem _ hx)).wide
 have CS := Lib.hid (show ∀ W : World, Below w.heap.size w W -> wr.grownBy W (some w.heap.size) -> Calls Tryd.prog 32 #[.agg #[.string h.s, .slice Av (M - 1) cv]] W (fun e w' => e = .returned (.int .i64 cc) /\ Below W.heap.size W w') from fun W h1 h2 => by
  rw [<- hcc]
  have h3 := (hsc9.grown h2).strs
  rw [hX] at h3
  exact checkShape_any W h.s Av (M - 1) cv ss ⟨rfl, (HGD.out h (List.mem_cons_self ..)).wide, h3, hsw, hv1, hv2⟩ (HM.out.below h1))
 have HRES := Lib.hid hres
 have HNM := Lib.hid hnm9
 have HXX := Lib.hid hX
 have hneW : w.heap.size + 1 ≠ w.heap.size := by omega
 clear hcc2 htk hss hall hOW hX hsc9 hnm9 hcc hres hsw hv9 hbr
 go_upto_region 11 with fail
 go_region_held3 (fun w' => w'.cell? ⟨w.heap.size + 1, 0, none⟩ = some (.string h.s) /\ w'.cell? ⟨w.heap.size + 1, 1, none⟩ = some (.slice Av (M - 1) cv)) (go_keep)
  (first | (go_at_call 32; refine (CS.out _ (by (repeat' (first | with_reducible exact HBR.out | with_reducible apply Below.drew | (with_reducible refine Below.setCell ?_ ?_ _))); all_goals (exact Nat.le_refl _)) (by (repeat' (first | with_reducible exact World.grownBy.rfl' _ _ | with_reducible apply grown_drew' | with_reducible apply grown_set')))).mono ?_; rintro e w5 ⟨rfl, hb5⟩; have HB5 := Lib.hid (show Below w.heap.size w w5 from Below.trans (show Below w.heap.size w _ from (by (repeat' (first | with_reducible exact HBR.out | with_reducible apply Below.drew | (with_reducible refine Below.setCell ?_ ?_ _))); all_goals (exact Nat.le_refl _))) (hb5.mono (by first | (simp; done) | (simp; omega)))); have HG5 := Lib.hid (show wr.grownBy w5 (some w.heap.size) from World.grownBy.trans (show wr.grownBy _ (some w.heap.size) from (by (repeat' (first | with_reducible exact World.grownBy.rfl' _ _ | with_reducible apply grown_drew' | with_reducible apply grown_set')))) (zb hb5 _)); have m0 : w5.cell? ⟨w.heap.size + 1, 0, none⟩ = some (.string h.s) := (hb5.cell (p := ⟨w.heap.size + 1, 0, none⟩) (by simpa using hpr)).trans (by simpa using q0); have m1 : w5.cell? ⟨w.heap.size + 1, 1, none⟩ = some (.slice Av (M - 1) cv) := (hb5.cell (p := ⟨w.heap.size + 1, 1, none⟩) (by simpa using hpr)).trans (by simpa using q1); have hpr5 : w.heap.size + 1 < w5.heap.size := Nat.lt_of_lt_of_le (by simpa using hpr) hb5.size; have k5 := (fun i => hb5.cell (p := ⟨w.heap.size, i, none⟩) (by simpa using hwr)); have k6 := (fun i => hb5.frozen (p := ⟨w.heap.size, i, none⟩) (by simpa using hwr)); have hw5 : w.heap.size < w5.heap.size := (by omega); clear hb5))
 all_goals (go_wp2_with fail)
 all_goals exact bodyPost_ret (v := .tuple #[.agg #[.string h.s, .slice Av (M - 1) cv], .int .i64 cc]) (by simp [results, Tryd.results37, go_sem, k5, R]) rfl (shape_end HRES.out HXX.out HNM.out HB5.out HG5.out (by (repeat' (first | with_reducible exact World.grownBy.rfl' _ _ | with_reducible apply grown_drew' | with_reducible apply grown_set'))))
end Go.Proofs.YtjmeodadkjcmmaaDoor
