import Derived.Test.YtjmeodadkjcmmaaDoorFormedR
import Derived.Test.YtjmeodadkjcmmaaDoorTopR
import Derived.Test.YtjmeodadkjcmmaaDoorTopF
namespace Go.Proofs.YtjmeodadkjcmmaaDoor
open Go.RowKit Go.ChangeShapes Go.WideShapes Go.Deep Go.ChangeAt
set_option linter.unusedVariables false
set_option maxRecDepth 20000
theorem formed_says {W0 : World} {m : Fm} (hsh : ShortSh m) : (n : Nat) -> RefSays W0 m n (formed m.pl n)
 | 0 => fun _ _ _ _ _ _ _ _ hg => hg.elim
 | n + 1 => fun w d A c B bc ls h hg hd hls => by
  have := formed_one hsh (formed_says (W0 := W0) hsh n) w d A c B bc ls h hg hd hls
  exact this
def UpR (W0 w : World) (e : Ending) (w' : World) : Fd (ByteArray × List Ex) -> Prop
 | .ok (n, xs) => ∃ A cap, e = .returned (.tuple #[.agg #[.string n, .slice A xs.length cap], .int .i64 0]) /\ ArgsIn W0 w' w.heap.size w'.heap.size A cap xs /\ Below w.heap.size w w'
 | .err c => ∃ (s : ByteArray) (A : Option Addr) (n cap : Nat), e = .returned (.tuple #[.agg #[.string s, .slice A n cap], .int .i64 c]) /\ 1 <= c /\ Below w.heap.size w w'
def plM (F : Nat) (x : Shp) : Fm := ⟨F, none, 0, 0, [], none, 0, 0, [], x.A, x.len, x.cap, x.ss, true⟩
theorem plM_at {W0 w : World} {F : Nat} {x : Shp} (hW : Below W0.heap.size W0 w) (hF : W0.heap.size <= F) (hF2 : F < w.heap.size) (hx : x.At w) : zc1 W0 w (plM F x) none 0 [] :=
 ⟨hW, hF, hF2, ⟨rfl, fun h => absurd h (by simp [plM])⟩, Nat.le_refl _, (by show (0 : Nat) <= maxLen; unfold maxLen; omega), ⟨rfl, fun h => absurd h (by simp [plM]), by simp [plM]⟩, Nat.le_refl _, (by show (0 : Nat) <= maxLen; unfold maxLen; omega), hx.strs, hx.le, hx.cap_, ⟨rfl, fun h => absurd h (by simp)⟩, Nat.le_refl _, by unfold maxLen; omega⟩
theorem plM_short (F : Nat) (x : Shp) : ShortSh (plM F x) := fun y hy => by simp [plM] at hy
theorem set2 {w w' : World} {p : Nat} {u v : Value} (hw : w' = (w.setCell ⟨p, 0, none⟩ u).setCell ⟨p, 1, none⟩ v) : w.grownBy w' (some p) := by
 rw [hw]; exact (zd _ _ _ _).trans (zd _ _ _ _)
theorem zu {w w5 w' : World} {g : Nat} (hb : Below w.heap.size w w5) (hgw : w.heap.size <= g) (hg : w5.grownBy w' (some g)) : Below w.heap.size w w' :=
 ⟨hg.os.trans hb.os, hg.tape.trans hb.tape, hg.output.trans hb.output, Nat.le_trans hb.size hg.size, fun k hk => (hg.block k (Nat.lt_of_lt_of_le hk hb.size) (fun e => by have := Option.some.inj e; omega)).trans (hb.block k hk)⟩
theorem upR_bad {W0 w w5 w' : World} {g : Nat} {s : ByteArray} {A : Option Addr} {n cap : Nat} {c : Int} (hc : 1 <= c) (hb : Below w.heap.size w w5) (hgw : w.heap.size <= g) (hg : w5.grownBy w' (some g)) : UpR W0 w (.returned (.tuple #[.agg #[.string s, .slice A n cap], .int .i64 c])) w' (.err c) := ⟨s, A, n, cap, rfl, hc, zu hb hgw hg⟩
theorem RefXs.both {W0 w w' : World} {n : Nat} {r : Fd (List Ex)} {e : Ending} (h : RefXs W0 w n r e w') : ∃ (v : Value) (c : Int), e = .returned (.tuple #[v, .int .i64 c]) /\ RefXs W0 w n r (.returned (.tuple #[v, .int .i64 c])) w' := by
 cases r with
 | ok xs =>
  obtain ⟨v, X, rfl, h2⟩ := h
  exact ⟨v, 0, rfl, v, X, rfl, h2⟩
 | err c =>
  obtain ⟨sA, sl, sc, rfl, h2⟩ := h
  exact ⟨.slice sA sl sc, c, rfl, sA, sl, sc, rfl, h2⟩
theorem RefXs.bel {W0 w w' : World} {n : Nat} {r : Fd (List Ex)} {e : Ending} (h : RefXs W0 w n r e w') : Below w.heap.size w w' := by
 cases r with
 | ok xs =>
  obtain ⟨v, X, _, _, _, _, h2⟩ := h
  exact h2
 | err c =>
  obtain ⟨sA, sl, sc, _, _, h2⟩ := h
  exact h2
def XsAt (W0 w : World) (n : Nat) (r : Fd (List Ex)) (v10 v11 : Value) (w' : World) : Prop := ∃ (W : World) (c : Int), Below w.heap.size w W /\ v11 = .int .i64 c /\ RefXs W0 W n r (.returned (.tuple #[v10, .int .i64 c])) w'
def XsFin (W0 w w' : World) (A : Option Addr) (k cap : Nat) (c : Int) : Fd (List Ex) -> Prop
 | .ok xs => c = 0 /\ k = xs.length /\ ArgsIn W0 w' w.heap.size w'.heap.size A cap xs
 | .err e => c = e /\ 1 <= e
theorem XsAt.parts {W0 w w' : World} {n : Nat} {r : Fd (List Ex)} {v10 v11 : Value} (h : XsAt W0 w n r v10 v11 w') : ∃ (A : Option Addr) (k cap : Nat) (c : Int), v10 = .slice A k cap /\ v11 = .int .i64 c /\ Below w.heap.size w w' /\ XsFin W0 w w' A k cap c r := by
 obtain ⟨W, c, hb, h1, h2⟩ := h
 cases r with
 | ok xs =>
  obtain ⟨v, X, he, hO, hX, hn, hb2⟩ := h2
  obtain ⟨A, cap, rfl, hA⟩ := hO.argsIn
  simp only [Ending.returned.injEq, Value.tuple.injEq, Array.mk.injEq, List.cons.injEq, Value.int.injEq, true_and, and_true] at he
  obtain ⟨rfl, rfl⟩ := he
  subst hX
  exact ⟨A, X.length, cap, 0, rfl, h1, hb.trans (hb2.mono hb.size), rfl, by simp, hA.mono (keep_refl _ _ _) (Nat.le_refl _) hb.size (Nat.le_refl _)⟩
 | err e =>
  obtain ⟨sA, sl, sc, he, h3, hb2⟩ := h2
  simp only [Ending.returned.injEq, Value.tuple.injEq, Array.mk.injEq, List.cons.injEq, Value.int.injEq, true_and, and_true] at he
  obtain ⟨rfl, rfl⟩ := he
  exact ⟨sA, sl, sc, _, rfl, h1, hb.trans (hb2.mono hb.size), rfl, h3⟩
def PlBlk (w : World) (x : Shp) (v9 : Value) (w' : World) : Prop := ∃ p, v9 = .pointer (some ⟨p, 0, none⟩) /\ w.heap.size <= p /\ p < w'.heap.size /\ w'.cell? ⟨p, 0, none⟩ = some (.slice none 0 0) /\ w'.cell? ⟨p, 1, none⟩ = some (.slice none 0 0) /\ w'.cell? ⟨p, 2, none⟩ = some (.slice x.A x.len x.cap) /\ w'.cell? ⟨p, 3, none⟩ = some (.bool true) /\ w'.cell? ⟨p, 4, none⟩ = some (.slice none 0 0) /\ Below w.heap.size w w'
set_option maxHeartbeats 16000000 in
theorem upgradeOf_any {W0 w : World} {F : Nat} (hW : Below W0.heap.size W0 w) (hF : W0.heap.size <= F) (hF2 : F < w.heap.size) (B : Option Addr) (bc : Nat) (h : Dt) (rest : List Dt) (hds : DsAt W0 w F B bc (h :: rest)) (hgd : ∀ x ∈ h :: rest, Good 40 x) (hlen : (h :: rest).length <= 1048576)
  (G S : Option Addr) (gl gc sl sc : Nat) (L : List Shp) (hL : zz w S sl L) (hslc : sl <= sc) (hscm : sc <= maxLen) (US UD UP : Option Addr) (un uc dn dc pn pc : Nat) (X : List Shp) (hX : zz w US un X) (hunc : un <= uc) (hucm : uc <= maxLen) (P : List NE) (hP : NEsAt w UP pn P) (hpnc : pn <= pc) (hpcm : pc <= maxLen) (ups : List (ByteArray × List Ex)) (hups : ups.map (·.1) = P.map NE.name) :
  Calls Tryd.prog 27 #[.slice B (h :: rest).length bc, .agg #[.slice G gl gc, .slice S sl sc], .agg #[.slice US un uc, .slice UD dn dc, .slice UP pn pc]] w (fun e w' => UpR W0 w e w' (upX (L.map Shp.sh) (X.map Shp.sh) ups (h :: rest))) := by
 obtain ⟨p, q, A, c, rfl, hpw, hpF, e0, e1, e2, e3, hd, hi, ht⟩ := hds.first hW hF
 have HGD := Lib.hid (show ∀ x ∈ rest, Good 40 x from fun x hx => hgd x (List.mem_cons_of_mem _ hx))
 have HW := Lib.hid hW
 have HFF := Lib.hid (And.intro hF hF2)
 have HT := Lib.hid ht
 have HUPS := Lib.hid hups
 have hcap := hds.le
 have hbcm := hds.cap_
 unfold maxLen at hbcm
 obtain ⟨M, hM⟩ : ∃ M, (h :: rest).length = M := ⟨_, rfl⟩
 have HML := Lib.hid (show rest.length = M - 1 by rw [<- hM, List.length_cons]; rfl)
 have hM1 : 1 <= M := by rw [<- hM]; simp
 rw [hM] at hlen hcap ⊢
 have hM0 : (0 : Int) <= (M : Int) := Int.natCast_nonneg _
 have hM2 : (0 : Int) < (M : Int) := by omega
 have hM3 : 0 < M := hM1
 have hi1 : (1 : Int) <= (M : Int) := by omega
 have hi2 : (M : Int) <= (bc : Int) := by omega
 have hi3 : IntKind.i64.wrap 1 = 1 := IntWalk.i64_in _ (by omega)
 have hi4 : IntKind.i64.wrap ((M : Int) - 1) = (M : Int) - 1 := IntWalk.i64_in _ (by omega)
 obtain ⟨hk, hhk⟩ : ∃ hk, h.k = hk := ⟨_, rfl⟩
 have HHK := Lib.hid hhk
 rw [hhk] at e0
 obtain ⟨hs, hss⟩ : ∃ hs, h.s = hs := ⟨_, rfl⟩
 have HHS := Lib.hid hss
 rw [hss] at e2
 obtain ⟨r, hr⟩ : ∃ r, upX (L.map Shp.sh) (X.map Shp.sh) ups (h :: rest) = r := ⟨_, rfl⟩
 have HR := Lib.hid hr
 rw [hr]
 have hslm : sl <= 9223372036854775807 := by unfold maxLen at hscm; omega
 have hunm : un <= 9223372036854775807 := by unfold maxLen at hucm; omega
 have hpnm : pn <= 9223372036854775807 := by unfold maxLen at hpcm; omega
 obtain ⟨w2, hw2⟩ : ∃ w2, ((w.alloc (.cells #[.slice G gl gc, .slice S sl sc] 26)).alloc (.cells #[.slice US un uc, .slice UD dn dc, .slice UP pn pc] 30)).alloc (.cells #[.string ⟨#[]⟩, .slice none 0 0] 73) = w2 := ⟨_, rfl⟩
 have hb2 : Below w.heap.size w w2 := by rw [<- hw2]; exact (((Below.refl _ _).alloc (Nat.le_refl _) _).alloc (by simp) _).alloc (by simp; omega) _
 have hs2 : w2.heap.size = w.heap.size + 3 := by rw [<- hw2]; simp
 have z1 : (w.alloc (.cells #[.slice G gl gc, .slice S sl sc] 26)).heap.size = w.heap.size + 1 := by simp
 have z2 : ((w.alloc (.cells #[.slice G gl gc, .slice S sl sc] 26)).alloc (.cells #[.slice US un uc, .slice UD dn dc, .slice UP pn pc] 30)).heap.size = w.heap.size + 1 + 1 := by simp
 have v1 : w2.cell? ⟨w.heap.size, 1, none⟩ = some (.slice S sl sc) := by rw [<- hw2]; exact (World.cell?_alloc_lt _ _ ⟨w.heap.size, 1, none⟩ (by simp; omega)).trans ((World.cell?_alloc_lt _ _ ⟨w.heap.size, 1, none⟩ (by simp)).trans (za _ _ _ 1))
 have u0 : w2.cell? ⟨w.heap.size + 1, 0, none⟩ = some (.slice US un uc) := by rw [<- hw2]; refine (World.cell?_alloc_lt _ _ ⟨w.heap.size + 1, 0, none⟩ (by simp)).trans ?_; rw [<- z1]; exact za _ _ _ 0
 have u2 : w2.cell? ⟨w.heap.size + 1, 2, none⟩ = some (.slice UP pn pc) := by rw [<- hw2]; refine (World.cell?_alloc_lt _ _ ⟨w.heap.size + 1, 2, none⟩ (by simp)).trans ?_; rw [<- z1]; exact za _ _ _ 2
 have R : ∀ j, w2.cell? ⟨w.heap.size + 1 + 1, j, none⟩ = (#[.string ⟨#[]⟩, .slice none 0 0] : Array Value)[j]? := fun j => by rw [<- hw2, <- z2]; exact za _ _ _ j
 have RF : ∀ j, w2.frozen? ⟨w.heap.size + 1 + 1, j, none⟩ = false := fun j => by rw [<- hw2, <- z2]; exact zi _ _ _ j
 have f0 : w2.cell? ⟨p, q, none⟩ = some (.int .i64 hk) := (hb2.cell (p := ⟨p, q, none⟩) hpw).trans e0
 have f2 : w2.cell? ⟨p, q + 2, none⟩ = some (.string hs) := (hb2.cell (p := ⟨p, q + 2, none⟩) hpw).trans e2
 have HW2 := Lib.hid hw2
 have HB2 := Lib.hid hb2
 have HS2 := Lib.hid hs2
 have hs2a : w.heap.size + 3 <= w2.heap.size := by omega
 have hpw2 : p < w2.heap.size := by omega
 have HLS := Lib.hid (hL.below hb2)
 have HXS := Lib.hid (hX.below hb2)
 have HPS := Lib.hid (hP.below hb2)
 have HFAC := Lib.hid (And.intro v1 (And.intro u0 (And.intro u2 (And.intro f2 (And.intro R RF)))))
 clear hds hd hi ht hgd hW hF hF2 hM hhk hss hb2 hw2 hs2 z1 z2 e0 e1 e2 e3 hL hX hP hups hr
 by_cases gk : hk = 3
 case neg =>
  have gkb : (hk != 3) = true := by rw [bne_iff_ne]; exact gk
  obtain rfl : r = .err 6 := by rw [<- HR.out]; exact upX_none (fun e => gk (by rw [<- HHK.out]; exact e.1))
  clear gk
  go_enter Tryd.func27, Tryd.ntmps27
  go_upto_region 1 with fail
  rw [HW2.out]
  go_quiet (fail)
  go_wp2_with fail
  exact bodyPost_ret (v := .tuple #[.agg #[.string ⟨#[]⟩, .slice none 0 0], .int .i64 6]) (by simp [results, Tryd.results27, go_sem, R]) rfl (upR_bad (by decide) (below_drewN HB2.out _) (g := w.heap.size + 1 + 1) (by omega) (set2 rfl))
 have gkb : (hk != 3) = false := by rw [bne_eq_false_iff_eq]; exact gk
 have HGK := Lib.hid (show h.k = 3 by rw [HHK.out]; exact gk)
 have KL := Lib.hid (show ∀ W : World, Below w2.heap.size w2 W -> Calls Tryd.prog 18 #[.slice S sl sc, .string hs] W (fun e w' => e = .returned (.int .i64 (idxL (names L) hs)) /\ w' = W) from fun W hW => (shapeAt_any hs S sl sc L W hscm hslc (HLS.out.below hW)).mono (fun _ _ h => ⟨h.1, h.2.symm⟩))
 have KX := Lib.hid (show ∀ W : World, Below w2.heap.size w2 W -> Calls Tryd.prog 18 #[.slice US un uc, .string hs] W (fun e w' => e = .returned (.int .i64 (idxL (names X) hs)) /\ w' = W) from fun W hW => (shapeAt_any hs US un uc X W hucm hunc (HXS.out.below hW)).mono (fun _ _ h => ⟨h.1, h.2.symm⟩))
 have nmL : (L.map Shp.sh).map (·.1) = names L := by rw [List.map_map]; rfl
 have nmX : (X.map Shp.sh).map (·.1) = names X := by rw [List.map_map]; rfl
 have HNL := Lib.hid nmL
 have HNX := Lib.hid nmX
 clear gk nmL nmX
 rcases idxL_range2 (names L) hs with ⟨hinL, i, hiL, hil⟩ | ⟨hinL, hiL⟩
 case inr =>
  obtain rfl : r = .err 6 := by rw [<- HR.out]; exact upX_none (fun e => by have := e.2.1; rw [HNL.out, HHS.out, hinL] at this; cases this)
  rw [hiL] at KL
  clear hinL hiL
  go_enter Tryd.func27, Tryd.ntmps27
  go_upto_region 1 with fail
  rw [HW2.out]
  go_quiet ((go_at_call 18; exact Calls.quiet_of_same (KL.out _ (below_drewN (Below.refl _ _) _))))
  go_wp2_with fail
  exact bodyPost_ret (v := .tuple #[.agg #[.string ⟨#[]⟩, .slice none 0 0], .int .i64 6]) (by simp [results, Tryd.results27, go_sem, R]) rfl (upR_bad (by decide) (below_drewN HB2.out _) (g := w.heap.size + 1 + 1) (by omega) (set2 rfl))
 rw [hiL] at KL
 have hi0 : ¬ (i : Int) < 0 := by omega
 rcases idxL_range2 (names X) hs with ⟨hinX, k, hkX, hkl⟩ | ⟨hinX, hkX⟩
 case inr =>
  obtain rfl : r = .err 6 := by rw [<- HR.out]; exact upX_none (fun e => by have := e.2.2; rw [HNX.out, HHS.out, hinX] at this; cases this)
  rw [hkX] at KX
  clear hinX hkX hinL hiL
  go_enter Tryd.func27, Tryd.ntmps27
  go_upto_region 1 with fail
  rw [HW2.out]
  go_quiet (first | (go_at_call 18; (with_reducible show Calls _ _ #[.slice S sl sc, .string hs] _ _); exact Calls.quiet_of_same (KL.out _ (below_drewN (Below.refl _ _) _))) | (go_at_call 18; exact Calls.quiet_of_same (KX.out _ (below_drewN (Below.refl _ _) _))))
  go_wp2_with fail
  exact bodyPost_ret (v := .tuple #[.agg #[.string ⟨#[]⟩, .slice none 0 0], .int .i64 6]) (by simp [results, Tryd.results27, go_sem, R]) rfl (upR_bad (by decide) (below_drewN HB2.out _) (g := w.heap.size + 1 + 1) (by omega) (set2 rfl))
 rw [hkX] at KX
 have hk0 : ¬ (k : Int) < 0 := by omega
 have HCC := Lib.hid (show h.k = 3 /\ inL ((L.map Shp.sh).map (·.1)) h.s = true /\ inL ((X.map Shp.sh).map (·.1)) h.s = true from ⟨HGK.out, by rw [HNL.out, HHS.out]; exact hinL, by rw [HNX.out, HHS.out]; exact hinX⟩)
 have HIL := Lib.hid (And.intro hiL hil)
 have HKX := Lib.hid (And.intro hkX hkl)
 clear hinX hkX hinL hiL hil hkl
 go_enter Tryd.func27, Tryd.ntmps27
 go_upto_region 1 with fail
 rw [HW2.out]
 go_quiet (first | (go_at_call 18; (with_reducible show Calls _ _ #[.slice S sl sc, .string hs] _ _); exact Calls.quiet_of_same (KL.out _ (below_drewN (Below.refl _ _) _))) | (go_at_call 18; exact Calls.quiet_of_same (KX.out _ (below_drewN (Below.refl _ _) _))))
 have HBQ := Lib.hid (show Below w2.heap.size w2 (w2.drewN nq) from below_drewN (Below.refl _ _) _)
 obtain ⟨w3, hw3⟩ : ∃ w3, w2.drewN nq = w3 := ⟨_, rfl⟩
 rw [hw3] at HBQ
 rw [hw3]
 clear hw3
 clear v1 u0 u2 f0 f2 R RF
 go_wp2_with fail
 go_loopw [8] (fun i wr => ∃ j : Nat, j <= pn /\ i = .int .i64 j /\ Below w2.heap.size w2 wr /\ ∀ a, a < j -> (ha : a < (P.map NE.name).length) -> ((P.map NE.name)[a].toList == hs.toList) = false) (fun i _ => pn - (intOf i).toNat)
 case atStart => exact ⟨0, by omega, rfl, HBQ.out, fun a ha => absurd ha (by omega)⟩
 case round =>
  obtain ⟨j, hj, rfl, hb, hall⟩ := hrel
  have HALL := Lib.hid hall
  have HB := Lib.hid hb
  have hsw := hb.size
  have hj0 : (0 : Int) <= (j : Int) := Int.natCast_nonneg _
  have wv1 : wr.cell? ⟨w.heap.size, 1, none⟩ = some (.slice S sl sc) := (hb.cell (p := ⟨w.heap.size, 1, none⟩) (by show w.heap.size < _; omega)).trans HFAC.out.1
  have wu0 : wr.cell? ⟨w.heap.size + 1, 0, none⟩ = some (.slice US un uc) := (hb.cell (p := ⟨w.heap.size + 1, 0, none⟩) (by show w.heap.size + 1 < _; omega)).trans HFAC.out.2.1
  have wu2 : wr.cell? ⟨w.heap.size + 1, 2, none⟩ = some (.slice UP pn pc) := (hb.cell (p := ⟨w.heap.size + 1, 2, none⟩) (by show w.heap.size + 1 < _; omega)).trans HFAC.out.2.2.1
  have wf2 : wr.cell? ⟨p, q + 2, none⟩ = some (.string hs) := (hb.cell (p := ⟨p, q + 2, none⟩) hpw2).trans HFAC.out.2.2.2.1
  have wR : ∀ j, wr.cell? ⟨w.heap.size + 1 + 1, j, none⟩ = (#[.string ⟨#[]⟩, .slice none 0 0] : Array Value)[j]? := fun j => (hb.cell (p := ⟨w.heap.size + 1 + 1, j, none⟩) (by show w.heap.size + 1 + 1 < _; omega)).trans (HFAC.out.2.2.2.2.1 j)
  have wRF : ∀ j, wr.frozen? ⟨w.heap.size + 1 + 1, j, none⟩ = false := fun j => (hb.frozen (p := ⟨w.heap.size + 1 + 1, j, none⟩) (by show w.heap.size + 1 + 1 < _; omega)).trans (HFAC.out.2.2.2.2.2 j)
  have HBW := Lib.hid (show Below w.heap.size w wr from HB2.out.trans (hb.mono (by omega)))
  clear hb hall
  by_cases hlt : j < pn
  ·
   have hlt2 : (j : Int) < (pn : Int) := by omega
   have hPr := HPS.out.below HB.out
   obtain ⟨b2, o2, rfl, hb2w, hrow⟩ := hPr.at_ (by omega)
   have hjP : j < P.length := by rw [hPr.size]; exact hlt
   have hjN : j < (P.map NE.name).length := by simpa using hjP
   have hc0 := (hrow j hjP).1
   obtain ⟨nm, hnm⟩ : ∃ nm, P[j].name = nm := ⟨_, rfl⟩
   have HNM := Lib.hid (show (P.map NE.name)[j] = nm by rw [List.getElem_map]; exact hnm)
   rw [hnm] at hc0
   clear hrow hnm hPr
   cases he : (nm.toList == hs.toList)
   ·
    go_wp2_with fail
    go_quiet (fail)
    go_wp2_with fail
    go_roundw
    case rel =>
     refine ⟨j + 1, by omega, by go_num, below_drewN HB.out _, fun a ha ha' => ?_⟩
     by_cases haj : a = j
     ·
      subst haj; rw [HNM.out]; exact he
     exact HALL.out a (by omega) ha'
    case measure => simp [intOf]; omega
   obtain rfl : r = .err 7 := by rw [<- HR.out]; exact upX_twice HCC.out (by rw [HUPS.out, HHS.out]; exact inL_yes hjN (by rw [HNM.out]; exact he))
   go_wp2_with fail
   go_quiet (fail)
   go_wp2_with fail
   exact bodyPost_ret (v := .tuple #[.agg #[.string ⟨#[]⟩, .slice none 0 0], .int .i64 7]) (by simp [results, Tryd.results27, go_sem, wR]) rfl (upR_bad (by decide) (below_drewN HBW.out _) (g := w.heap.size + 1 + 1) (by omega) (set2 rfl))
  obtain rfl : j = pn := by omega
  have HTW := Lib.hid (show inL (ups.map (·.1)) h.s = false from by rw [HUPS.out, HHS.out]; exact inL_no (fun a ha => HALL.out a (by rw [<- HPS.out.size]; simpa using ha) ha))
  have hXr := HXS.out.below HB.out
  have hLr := HLS.out.below HB.out
  obtain ⟨hkX, hkl⟩ := HKX.out
  obtain ⟨hiL, hil⟩ := HIL.out
  have hkl2 : k < X.length := by simpa [names] using hkl
  have hil2 : i < L.length := by simpa [names] using hil
  have hkun : k < un := by rw [<- hXr.size]; exact hkl2
  have hisl : i < sl := by rw [<- hLr.size]; exact hil2
  obtain ⟨bX, oX, rfl, hbX, hrX⟩ := hXr.at_ (by omega)
  obtain ⟨bL, oL, rfl, hbL, hrL⟩ := hLr.at_ (by omega)
  have x1 := (hrX k hkl2).2
  have l1 := (hrL i hil2).2
  have HFU := Lib.hid (show fieldsAt (X.map Shp.sh) h.s = X[k].ss from by rw [fieldsAt_at (k := k) (by simpa using hkl2) (by rw [HNX.out, HHS.out]; exact hkX), List.getElem_map]; rfl)
  have HFV := Lib.hid (show fieldsAt (L.map Shp.sh) h.s = L[i].ss from by rw [fieldsAt_at (k := i) (by simpa using hil2) (by rw [HNL.out, HHS.out]; exact hiL), List.getElem_map]; rfl)
  have HXS3 := Lib.hid ((hXr.each X[k] (List.getElem_mem hkl2)).strs.size)
  have HXA := Lib.hid (hLr.each L[i] (List.getElem_mem hil2))
  generalize X[k] = y at x1 HFU HXS3
  generalize L[i] = x at l1 HFV HXA
  have hk1 : (0 : Int) <= (k : Int) := Int.natCast_nonneg _
  have hk2 : (k : Int) < (un : Int) := by omega
  have hi8 : (0 : Int) <= (i : Int) := Int.natCast_nonneg _
  have hi9 : (i : Int) < (sl : Int) := by omega
  clear hrX hrL hXr hLr hiL hil hkX hkl hkl2 hil2 hlt
  have HDN := Lib.hid (show ∀ n : Nat, Below w2.heap.size w2 (wr.drewN n) from fun n => below_drewN HB.out n)
  by_cases hcnt : M - 1 = y.len
  ·
   have hcb : (((M : Int) - 1) != (y.len : Int)) = false := by rw [bne_eq_false_iff_eq]; omega
   obtain ⟨rx, hrx⟩ : ∃ rx, allF (formed ⟨[], [], x.ss, true⟩ 40 []) rest = rx := ⟨_, rfl⟩
   have HRX := Lib.hid (show r = mapF (fun xs => (hs, xs)) rx from by rw [<- HR.out, upX_all HCC.out HTW.out (by rw [HFU.out, HXS3.out, HML.out, hcnt]; simp), HFV.out, hrx, HHS.out])
   have HRXX := Lib.hid hrx
   clear hcnt hrx
   go_upto_region 8 with fail
   go_quiet ((go_at_call 18; exact Calls.quiet_of_same (KX.out _ (HDN.out _))))
   go_upto_region 10 with fail
   obtain ⟨w5, hw5⟩ : ∃ w5, wr.drewN nq = w5 := ⟨_, rfl⟩
   have hb5 : Below wr.heap.size wr w5 := by rw [<- hw5]; exact below_drewN (Below.refl _ _) _
   rw [hw5]
   clear hw5
   have hs5 := hb5.size
   have HB5 := Lib.hid (HB.out.trans (hb5.mono hsw))
   have HBW5 := Lib.hid (HBW.out.trans (hb5.mono HBW.out.size))
   have g1 : w5.cell? ⟨w.heap.size, 1, none⟩ = some (.slice (some ⟨bL, oL, none⟩) sl sc) := (hb5.cell (p := ⟨w.heap.size, 1, none⟩) (by show w.heap.size < _; omega)).trans wv1
   have g2 : w5.cell? ⟨p, q + 2, none⟩ = some (.string hs) := (hb5.cell (p := ⟨p, q + 2, none⟩) (by show p < _; omega)).trans wf2
   have g3 : w5.cell? ⟨bL, oL + i * 2 + 1, none⟩ = some (.slice x.A x.len x.cap) := (hb5.cell (p := ⟨bL, oL + i * 2 + 1, none⟩) hbL).trans l1
   have R5 : ∀ j, w5.cell? ⟨w.heap.size + 1 + 1, j, none⟩ = (#[.string ⟨#[]⟩, .slice none 0 0] : Array Value)[j]? := fun j => (hb5.cell (p := ⟨w.heap.size + 1 + 1, j, none⟩) (by show w.heap.size + 1 + 1 < _; omega)).trans (wR j)
   have RF5 : ∀ j, w5.frozen? ⟨w.heap.size + 1 + 1, j, none⟩ = false := fun j => (hb5.frozen (p := ⟨w.heap.size + 1 + 1, j, none⟩) (by show w.heap.size + 1 + 1 < _; omega)).trans (wRF j)
   have hXA5 := ShapeAt.below HXA.out hb5
   have HXA5 := Lib.hid hXA5
   have hsp5 : p < w5.heap.size := by omega
   have hsw5 : w.heap.size < w5.heap.size := by omega
   have hsb5 : bL < w5.heap.size := by omega
   have hn1 : w5.heap.size ≠ w.heap.size := by omega
   have hn2 : w5.heap.size ≠ p := by omega
   have hn3 : w5.heap.size ≠ bL := by omega
   have hsr5 : w.heap.size + 1 + 1 < w5.heap.size := by omega
   have KL5 := Lib.hid (show ∀ W : World, Below w5.heap.size w5 W -> Calls Tryd.prog 18 #[.slice (some ⟨bL, oL, none⟩) sl sc, .string hs] W (fun e w' => e = .returned (.int .i64 i) /\ w' = W) from fun W hW => KL.out W (HB5.out.trans (hW.mono HB5.out.size)))
   clear wv1 wu0 wu2 wf2 wR wRF x1 l1 hb5 hXA5
   go_cut [9] (fun v9 wx => PlBlk w5 x v9 wx)
   case first =>
    go_region_held3 (fun w' => w'.cell? ⟨w.heap.size, 1, none⟩ = some (.slice (some ⟨bL, oL, none⟩) sl sc) /\ w'.cell? ⟨p, q + 2, none⟩ = some (.string hs) /\ w'.cell? ⟨bL, oL + i * 2 + 1, none⟩ = some (.slice x.A x.len x.cap)) (go_keep)
     (first | (go_at_call 18; refine (KL5.out _ (by (with_reducible repeat' (first | exact Below.refl _ _ | apply Below.drew | apply below_drewN | refine Below.alloc ?_ ?_ _)); all_goals (try simp); all_goals (try omega))).mono ?_; rintro e w7 ⟨rfl, rfl⟩))
    all_goals (go_wp2_with fail)
    all_goals go_meet
    all_goals exact ⟨w5.heap.size, rfl, Nat.le_refl _, by simp, za _ _ _ 0, za _ _ _ 1, za _ _ _ 2, za _ _ _ 3, za _ _ _ 4, (by (with_reducible repeat' (first | exact Below.refl _ _ | apply Below.drew | apply below_drewN | refine Below.alloc ?_ ?_ _)); all_goals (try simp); all_goals (try omega))⟩
   obtain ⟨pp, rfl, hpp, hplt, c0, c1, c2, c3, c4, hb9⟩ := hcut
   have hs9 := hb9.size
   have HB9 := Lib.hid hb9
   have g22 : wc.cell? ⟨p, q + 2, none⟩ = some (.string hs) := (hb9.cell (p := ⟨p, q + 2, none⟩) hsp5).trans g2
   have R9 : ∀ j, wc.cell? ⟨w.heap.size + 1 + 1, j, none⟩ = (#[.string ⟨#[]⟩, .slice none 0 0] : Array Value)[j]? := fun j => (hb9.cell (p := ⟨w.heap.size + 1 + 1, j, none⟩) hsr5).trans (R5 j)
   have RF9 : ∀ j, wc.frozen? ⟨w.heap.size + 1 + 1, j, none⟩ = false := fun j => (hb9.frozen (p := ⟨w.heap.size + 1 + 1, j, none⟩) hsr5).trans (RF5 j)
   have HBW9 := Lib.hid (HBW5.out.trans (hb9.mono HBW5.out.size))
   have hpl := plM_at (x := x) (HW.out.trans (HBW9.out.mono HW.out.size)) HFF.out.1 (Nat.lt_of_lt_of_le HFF.out.2 HBW9.out.size) (ShapeAt.below HXA5.out hb9)
   have HPL := Lib.hid hpl
   have hcall := fun (R : Option Addr) (rc : Nat) (W : World) (hW : Below wc.heap.size wc W) (hD : DsAt W0 W F R rc rest) => formedAll_any (m := plM F x) (formed_says (W0 := W0) (plM_short F x) 40) R rc rest none 0 [] (HPL.out.next hW) hD HGD.out (by rw [HML.out]; omega) (by simp)
   have HCALL := Lib.hid hcall
   have HT9 := Lib.hid (HT.out.below HBW9.out)
   clear g1 g2 g3 R5 RF5 hb9 hpl hcall
   obtain ⟨w6, rfl⟩ : ∃ w6, w6 = wc := ⟨_, rfl⟩
   go_upto_region 11 with fail
   go_cut [10, 11] (fun v10 v11 wx => XsAt W0 w6 (M - 1) rx v10 v11 wx)
   case first =>
    by_cases hbc : bc = 1
    case pos =>
     subst hbc
     obtain rfl : M = 1 := by omega
     have HAL := Lib.hid (show ∀ W : World, Below w6.heap.size w6 W -> Calls Tryd.prog 55 #[.agg #[.slice none 0 0, .slice none 0 0, .slice x.A x.len x.cap, .bool true, .slice none 0 0], .slice (some ⟨p, q, none⟩) 0 0] W (RefXs W0 W 0 rx) from fun W hW => by have := HCALL.out (some ⟨p, q, none⟩) 0 W hW ⟨by rw [HML.out]; exact Nat.le_refl _, by unfold maxLen; omega, fun h => absurd h (by rw [HML.out]; simp)⟩; rw [HML.out] at this; rw [show allF (formed (plM F x).pl 40 []) rest = rx from HRXX.out] at this; exact this)
     go_region_held3 (fun w' => w'.cell? ⟨pp, 0, none⟩ = some (.slice none 0 0) /\ w'.cell? ⟨pp, 1, none⟩ = some (.slice none 0 0) /\ w'.cell? ⟨pp, 2, none⟩ = some (.slice x.A x.len x.cap) /\ w'.cell? ⟨pp, 3, none⟩ = some (.bool true) /\ w'.cell? ⟨pp, 4, none⟩ = some (.slice none 0 0)) (go_keep)
      (first | (go_at_call 55; refine (HAL.out _ (by (with_reducible repeat' (first | exact Below.refl _ _ | apply Below.drew | apply below_drewN | refine Below.alloc ?_ ?_ _)); all_goals (try simp); all_goals (try omega))).mono ?_; intro e w7 hp; obtain ⟨v7, c7, rfl, hp7⟩ := RefXs.both hp; have hb7 := RefXs.bel hp7; have hw7 := (show Below w6.heap.size w6 _ from (by (with_reducible repeat' (first | exact Below.refl _ _ | apply Below.drew | apply below_drewN | refine Below.alloc ?_ ?_ _)); all_goals (try simp); all_goals (try omega))).trans (hb7.mono (by first | exact Nat.le_refl _ | (simp; done) | (simp; omega))); have m0 : w7.cell? ⟨pp, 0, none⟩ = some (.slice none 0 0) := (hw7.cell (p := ⟨pp, 0, none⟩) hplt).trans c0; have m1 : w7.cell? ⟨pp, 1, none⟩ = some (.slice none 0 0) := (hw7.cell (p := ⟨pp, 1, none⟩) hplt).trans c1; have m2 : w7.cell? ⟨pp, 2, none⟩ = some (.slice x.A x.len x.cap) := (hw7.cell (p := ⟨pp, 2, none⟩) hplt).trans c2; have m3 : w7.cell? ⟨pp, 3, none⟩ = some (.bool true) := (hw7.cell (p := ⟨pp, 3, none⟩) hplt).trans c3; have m4 : w7.cell? ⟨pp, 4, none⟩ = some (.slice none 0 0) := (hw7.cell (p := ⟨pp, 4, none⟩) hplt).trans c4; have HP7 := Lib.hid hp7; clear hp hp7 hb7 hw7))
     all_goals (go_wp2_with fail)
     all_goals go_meet
     all_goals exact ⟨_, _, (by (with_reducible repeat' (first | exact Below.refl _ _ | apply Below.drew | apply below_drewN | refine Below.alloc ?_ ?_ _)); all_goals (try simp); all_goals (try omega)), rfl, HP7.out⟩
    have HAL := Lib.hid (show ∀ W : World, Below w6.heap.size w6 W -> Calls Tryd.prog 55 #[.agg #[.slice none 0 0, .slice none 0 0, .slice x.A x.len x.cap, .bool true, .slice none 0 0], .slice (some ⟨p, q + 4, none⟩) (M - 1) (bc - 1)] W (RefXs W0 W (M - 1) rx) from fun W hW => by have := HCALL.out (some ⟨p, q + 4, none⟩) (bc - 1) W hW (HT9.out.below hW); rw [HML.out] at this; rw [show allF (formed (plM F x).pl 40 []) rest = rx from HRXX.out] at this; exact this)
    go_region_held3 (fun w' => w'.cell? ⟨pp, 0, none⟩ = some (.slice none 0 0) /\ w'.cell? ⟨pp, 1, none⟩ = some (.slice none 0 0) /\ w'.cell? ⟨pp, 2, none⟩ = some (.slice x.A x.len x.cap) /\ w'.cell? ⟨pp, 3, none⟩ = some (.bool true) /\ w'.cell? ⟨pp, 4, none⟩ = some (.slice none 0 0)) (go_keep)
     (first | (go_at_call 55; refine (HAL.out _ (by (with_reducible repeat' (first | exact Below.refl _ _ | apply Below.drew | apply below_drewN | refine Below.alloc ?_ ?_ _)); all_goals (try simp); all_goals (try omega))).mono ?_; intro e w7 hp; obtain ⟨v7, c7, rfl, hp7⟩ := RefXs.both hp; have hb7 := RefXs.bel hp7; have hw7 := (show Below w6.heap.size w6 _ from (by (with_reducible repeat' (first | exact Below.refl _ _ | apply Below.drew | apply below_drewN | refine Below.alloc ?_ ?_ _)); all_goals (try simp); all_goals (try omega))).trans (hb7.mono (by first | exact Nat.le_refl _ | (simp; done) | (simp; omega))); have m0 : w7.cell? ⟨pp, 0, none⟩ = some (.slice none 0 0) := (hw7.cell (p := ⟨pp, 0, none⟩) hplt).trans c0; have m1 : w7.cell? ⟨pp, 1, none⟩ = some (.slice none 0 0) := (hw7.cell (p := ⟨pp, 1, none⟩) hplt).trans c1; have m2 : w7.cell? ⟨pp, 2, none⟩ = some (.slice x.A x.len x.cap) := (hw7.cell (p := ⟨pp, 2, none⟩) hplt).trans c2; have m3 : w7.cell? ⟨pp, 3, none⟩ = some (.bool true) := (hw7.cell (p := ⟨pp, 3, none⟩) hplt).trans c3; have m4 : w7.cell? ⟨pp, 4, none⟩ = some (.slice none 0 0) := (hw7.cell (p := ⟨pp, 4, none⟩) hplt).trans c4; have HP7 := Lib.hid hp7; clear hp hp7 hb7 hw7))
    all_goals (go_wp2_with fail)
    all_goals go_meet
    all_goals exact ⟨_, _, (by (with_reducible repeat' (first | exact Below.refl _ _ | apply Below.drew | apply below_drewN | refine Below.alloc ?_ ?_ _)); all_goals (try simp); all_goals (try omega)), rfl, HP7.out⟩
   obtain ⟨A7, k7, cap7, c7, rfl, rfl, hb7, hx7⟩ := hcut.parts
   have g23 : wc.cell? ⟨p, q + 2, none⟩ = some (.string hs) := (hb7.cell (p := ⟨p, q + 2, none⟩) (by show p < _; omega)).trans g22
   have R7 : ∀ j, wc.cell? ⟨w.heap.size + 1 + 1, j, none⟩ = (#[.string ⟨#[]⟩, .slice none 0 0] : Array Value)[j]? := fun j => (hb7.cell (p := ⟨w.heap.size + 1 + 1, j, none⟩) (by show w.heap.size + 1 + 1 < _; omega)).trans (R9 j)
   have RF7 : ∀ j, wc.frozen? ⟨w.heap.size + 1 + 1, j, none⟩ = false := fun j => (hb7.frozen (p := ⟨w.heap.size + 1 + 1, j, none⟩) (by show w.heap.size + 1 + 1 < _; omega)).trans (RF9 j)
   have HBW7 := Lib.hid (HBW9.out.trans (hb7.mono HBW9.out.size))
   have HS69 := Lib.hid (show w.heap.size + 3 <= w6.heap.size by omega)
   have HX7 := Lib.hid hx7
   have hs7 := hb7.size
   clear hb7 hx7 hcut g22 R9 RF9 c0 c1 c2 c3 c4
   cases rx with
   | err ce =>
    obtain ⟨rfl, hc1⟩ := HX7.out
    obtain rfl : r = .err c7 := HRX.out
    go_wp2_with fail
    exact bodyPost_ret (v := .tuple #[.agg #[.string hs, .slice A7 k7 cap7], .int .i64 c7]) (by simp [results, Tryd.results27, go_sem, R7]) rfl (upR_bad hc1 HBW7.out (g := w.heap.size + 1 + 1) (by omega) (set2 rfl))
   | ok xs =>
    obtain ⟨rfl, rfl, hA7⟩ := HX7.out
    obtain rfl : r = .ok (hs, xs) := HRX.out
    have HA7 := Lib.hid hA7
    clear hA7
    go_wp2_with fail
    refine bodyPost_ret (v := .tuple #[.agg #[.string hs, .slice A7 xs.length cap7], .int .i64 0]) (by simp [results, Tryd.results27, go_sem, R7]) rfl ?_
    have hset := set2 (w := wc) (p := w.heap.size + 1 + 1) (u := .string hs) (v := .slice A7 xs.length cap7) rfl
    exact ⟨A7, cap7, rfl, HA7.out.mono (zm hset (fun b h1 h2 e => by have := Option.some.inj e; have := HS69.out; omega)) hset.size (by have := HS69.out; omega) hset.size, zu HBW7.out (by omega) hset⟩
  ·
   have hcb : (((M : Int) - 1) != (y.len : Int)) = true := by rw [bne_iff_ne]; omega
   obtain rfl : r = .err 10 := by rw [<- HR.out]; exact upX_count HCC.out HTW.out (by rw [HFU.out, HXS3.out, HML.out]; exact hcnt)
   clear hcnt
   go_upto_region 8 with fail
   go_quiet ((go_at_call 18; exact Calls.quiet_of_same (KX.out _ (HDN.out _))))
   go_wp2_with fail
   exact bodyPost_ret (v := .tuple #[.agg #[.string ⟨#[]⟩, .slice none 0 0], .int .i64 10]) (by simp [results, Tryd.results27, go_sem, wR]) rfl (upR_bad (by decide) (below_drewN HBW.out _) (g := w.heap.size + 1 + 1) (by omega) (set2 rfl))
end Go.Proofs.YtjmeodadkjcmmaaDoor
