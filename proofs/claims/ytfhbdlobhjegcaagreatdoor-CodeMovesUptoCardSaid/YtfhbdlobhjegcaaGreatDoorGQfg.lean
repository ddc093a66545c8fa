import Derived.Test.YtfhbdlobhjegcaaGreatDoorQe
import Derived.Test.YtfhbdlobhjegcaaGreatDoorGQdp
namespace Go.Proofs.YtfhbdlobhjegcaaGreatDoor
open Go.RowKit Go.ChangeShapes Go.WideShapes Go.Deep Go.ChangeAt
set_option linter.unusedVariables false
set_option maxRecDepth 20000
def nilX : Px := .const (.mk 4 0 ⟨#[]⟩ [])
theorem nilX_w : PxW 0 nilX := .const _ (.mk 4 0 ⟨#[]⟩ [] (by decide) (by decide) (fun h => absurd rfl h) (by simp))
def codeOf (x : Px) : List IV := codeX x true 0
structure FnsAt (w : World) (F : Option Addr) (fc : Nat) (o : Nat) (x : Px) : Prop where
 le : 2 <= fc
 cap_ : fc <= maxLen
 at_ : ∃ b p A n c A' n' c', F = some ⟨b, p, none⟩ /\ b < w.heap.size ∧
  (w.cell? ⟨b, p, none⟩ = some (.int .i64 o) /\ w.cell? ⟨b, p + 1, none⟩ = some (.int .i64 o) /\ w.cell? ⟨b, p + 2, none⟩ = some (.int .i64 0) /\ w.cell? ⟨b, p + 3, none⟩ = some (.slice A n c)) ∧
  (w.cell? ⟨b, p + 4, none⟩ = some (.int .i64 0) /\ w.cell? ⟨b, p + 5, none⟩ = some (.int .i64 0) /\ w.cell? ⟨b, p + 6, none⟩ = some (.int .i64 0) /\ w.cell? ⟨b, p + 7, none⟩ = some (.slice A' n' c')) ∧
  InsAt w A n c (codeOf x) /\ InsAt w A' n' c' (codeOf nilX)
theorem FnsAt.below {w w' : World} {F : Option Addr} {fc o : Nat} {x : Px} (h : FnsAt w F fc o x) (hb : Below w.heap.size w w') : FnsAt w' F fc o x := by
 obtain ⟨h1, h2, b, p, A, n, c, A', n', c', hF, hl, ⟨a0, a1, a2, a3⟩, ⟨a4, a5, a6, a7⟩, i1, i2⟩ := h
 exact ⟨h1, h2, b, p, A, n, c, A', n', c', hF, Nat.lt_of_lt_of_le hl hb.size,
  ⟨(hb.cell (p := ⟨b, p, none⟩) hl).trans a0, (hb.cell (p := ⟨b, p + 1, none⟩) hl).trans a1, (hb.cell (p := ⟨b, p + 2, none⟩) hl).trans a2, (hb.cell (p := ⟨b, p + 3, none⟩) hl).trans a3⟩,
  ⟨(hb.cell (p := ⟨b, p + 4, none⟩) hl).trans a4, (hb.cell (p := ⟨b, p + 5, none⟩) hl).trans a5, (hb.cell (p := ⟨b, p + 6, none⟩) hl).trans a6, (hb.cell (p := ⟨b, p + 7, none⟩) hl).trans a7⟩, i1.below hb, i2.below hb⟩
set_option maxHeartbeats 4000000 in
theorem thingsMay_any {w : World} {F : Option Addr} {fc o : Nat} {x : Px} {A : Option Addr} {len cap : Nat} {h : Hp} (f1 f2 : Value) (hF : FnsAt w F fc o x) (hA : HpAt w A len cap h) (lim : Int) :
  Calls Tryz.prog 44 #[.agg #[.slice F 2 fc, f1, f2, .slice A len cap, .int .i64 lim]] w fun e w' => e = .returned (.bool true) /\ Below w.heap.size w w' := by
 obtain ⟨hA, hok, hsm⟩ := hA
 have hL := hA.size
 have hcap := hA.cap_
 have hcap2 : cap <= 9223372036854775807 := by unfold maxLen at hcap; omega
 have hle := hA.le
 obtain ⟨hfc, hfc2, b, p, A1, n1, c1, A2, n2, c2, rfl, hl, ⟨_, _, a2, _⟩, _, _, _⟩ := hF
 have hfc3 : fc <= 9223372036854775807 := by unfold maxLen at hfc2; omega
 obtain ⟨wb, hwb⟩ : ∃ wb, w.alloc (.cells #[.slice (some ⟨b, p, none⟩) 2 fc, f1, f2, .slice A len cap, .int .i64 lim] 46) = wb := ⟨_, rfl⟩
 have hb : Below w.heap.size w wb := by rw [<- hwb]; exact (Below.refl _ _).alloc (Nat.le_refl _) _
 have z0 : wb.cell? ⟨w.heap.size, 0, none⟩ = some (.slice (some ⟨b, p, none⟩) 2 fc) := by rw [<- hwb]; exact za _ _ _ 0
 have z3 : wb.cell? ⟨w.heap.size, 3, none⟩ = some (.slice A len cap) := by rw [<- hwb]; exact za _ _ _ 3
 have z5 : wb.cell? ⟨b, p + 2, none⟩ = some (.int .i64 0) := (hb.cell (p := ⟨b, p + 2, none⟩) hl).trans a2
 have hlt : w.heap.size < wb.heap.size := by rw [<- hwb]; simp
 have hlb : b < wb.heap.size := Nat.lt_of_lt_of_le hl hb.size
 have HWB := Lib.hid hwb
 have HB := Lib.hid hb
 have HA := Lib.hid (hA.below hb)
 clear hA hok hwb hb hcap a2 hfc2
 go_enter Tryz.func44, Tryz.ntmps44
 go_upto_region 1 with fail
 rw [HWB.out]
 go_wp2_with fail
 refine (beginsOf_any HA.out (by omega)).mono ?_
 rintro e w1 ⟨A', rfl, hb1, hB1⟩
 have HB1 := Lib.hid hb1
 have HG1 := Lib.hid hB1
 have y0 := (hb1.cell (p := ⟨w.heap.size, 0, none⟩) hlt).trans z0
 have y3 := (hb1.cell (p := ⟨w.heap.size, 3, none⟩) hlt).trans z3
 have y5 := (hb1.cell (p := ⟨b, p + 2, none⟩) hlb).trans z5
 have hlt1 : w.heap.size < w1.heap.size := Nat.lt_of_lt_of_le hlt hb1.size
 have hlb1 : b < w1.heap.size := Nat.lt_of_lt_of_le hlb hb1.size
 have HA1 := Lib.hid (HA.out.below hb1)
 clear hb1 hB1 z0 z3 z5
 go_wp2_with fail
 go_loopg [6] len (fun g i wr => ∃ a : Nat, g = len - a /\ a <= len /\ i = .int .i64 a /\ Below w1.heap.size w1 wr)
 case atStart => exact ⟨0, by omega, by omega, rfl, Below.refl _ _⟩
 obtain ⟨a, hg, hal, rfl, hbr⟩ := hrel
 have HG := Lib.hid hg
 have HBR := Lib.hid hbr
 have x0 := (hbr.cell (p := ⟨w.heap.size, 0, none⟩) hlt1).trans y0
 have x3 := (hbr.cell (p := ⟨w.heap.size, 3, none⟩) hlt1).trans y3
 have x5 := (hbr.cell (p := ⟨b, p + 2, none⟩) hlb1).trans y5
 have hltr : w.heap.size < wr.heap.size := Nat.lt_of_lt_of_le hlt1 hbr.size
 clear hg hbr
 have hla : (a : Int) < (len : Int) \/ a = len := by omega
 rcases hla with hla | rfl
 ·
  obtain ⟨b3, o3, hAb, hbw, hbc⟩ := HG1.out.at_ (by omega)
  subst hAb
  have v0 := (HBR.out.cell (p := ⟨b3, o3 + a, none⟩) hbw).trans (hbc a (by omega))
  have ha0 : (0 : Int) <= (a : Int) := by omega
  have hac : (a : Int) < (cap : Int) := by omega
  clear hbc
  cases hbeg : begB a
  ·
   rw [hbeg] at v0
   go_wp2_with fail
   go_roundg (len - (a + 1))
   case rel => exact ⟨a + 1, rfl, by omega, by go_num, HBR.out⟩
   case measure => have := HG.out; omega
  rw [hbeg] at v0
  rcases begB_cases h (by omega) hbeg with rfl | ⟨i, hi, hai⟩
  ·
   obtain ⟨b2, o2, hA2, hb2w, _, c0, c1, c2⟩ := (HA1.out.below HBR.out).nth (flat_0 h)
   obtain ⟨b5, o5, hA5, hb5w, h1l, d0, d1, d2⟩ := (HA1.out.below HBR.out).nth (flat_1 h)
   subst hA2
   obtain ⟨rfl, rfl⟩ : b2 = b5 /\ o2 = o5 := by simpa using hA5
   simp only [cloW, zeroW, Nat.zero_mul, Nat.add_zero] at c0 c1 c2 d0 d1 d2 v0
   have h1c : (1 : Int) < (cap : Int) := by omega
   have h1l2 : (1 : Int) < (len : Int) := by omega
   have h0c : (0 : Int) < (cap : Int) := by omega
   have h2f : (0 : Int) < (fc : Int) := by omega
   go_wp2_with fail
   go_quiet (fail)
   go_wp2_with fail
   go_roundg (len - (0 + 1))
   case rel => exact ⟨0 + 1, rfl, by omega, by go_num, by first | exact HBR.out | exact below_drewN HBR.out _⟩
   case measure => have := HG.out; omega
  obtain ⟨q0, _, _⟩ := flat_at h i hi
  rw [<- hai] at q0
  clear hai
  obtain ⟨b2, o2, hA2, hb2w, _, c0, c1, c2⟩ := (HA1.out.below HBR.out).nth q0
  subst hA2
  simp only [pairW] at c0 c1 c2
  clear q0
  go_wp2_with fail
  go_quiet (fail)
  go_wp2_with fail
  go_roundg (len - (a + 1))
  case rel => exact ⟨a + 1, rfl, by omega, by go_num, by first | exact HBR.out | exact below_drewN HBR.out _⟩
  case measure => have := HG.out; omega
 go_wp2_with fail
 go_ret
 exact ⟨rfl, HB.out.trans ((HB1.out.trans (HBR.out.mono HB1.out.size)).mono HB.out.size)⟩
set_option maxHeartbeats 4000000 in
theorem worldMay_any {w : World} {F : Option Addr} {fc o : Nat} {x : Px} {A : Option Addr} {len cap : Nat} {h : Hp} (hF : FnsAt w F fc o x) (hA : HpAt w A len cap h) (hx : PxW o x) (ho : o <= 6) (hlen : (codeOf x).length <= 6000) :
  Calls Tryz.prog 17 #[.agg #[.slice F 2 fc, .slice none 0 0, .slice none 0 0, .slice A len cap, .int .i64 60000]] w fun e w' => e = .returned (.bool true) /\ Below w.heap.size w w' := by
 have hF2 := hF
 obtain ⟨hfc, hfc2, b, p, A1, n1, c1, A2, n2, c2, rfl, hl, ⟨a0, a1, a2, a3⟩, ⟨a4, a5, a6, a7⟩, i1, i2⟩ := hF
 have hfc3 : fc <= 9223372036854775807 := by unfold maxLen at hfc2; omega
 obtain ⟨wb, hwb⟩ : ∃ wb, w.alloc (.cells #[.slice (some ⟨b, p, none⟩) 2 fc, .slice none 0 0, .slice none 0 0, .slice A len cap, .int .i64 60000] 46) = wb := ⟨_, rfl⟩
 have hb : Below w.heap.size w wb := by rw [<- hwb]; exact (Below.refl _ _).alloc (Nat.le_refl _) _
 have z0 : wb.cell? ⟨w.heap.size, 0, none⟩ = some (.slice (some ⟨b, p, none⟩) 2 fc) := by rw [<- hwb]; exact za _ _ _ 0
 have z1 : wb.cell? ⟨w.heap.size, 1, none⟩ = some (.slice none 0 0) := by rw [<- hwb]; exact za _ _ _ 1
 have z2 : wb.cell? ⟨w.heap.size, 2, none⟩ = some (.slice none 0 0) := by rw [<- hwb]; exact za _ _ _ 2
 have z3 : wb.cell? ⟨w.heap.size, 3, none⟩ = some (.slice A len cap) := by rw [<- hwb]; exact za _ _ _ 3
 have z4 : wb.cell? ⟨w.heap.size, 4, none⟩ = some (.int .i64 60000) := by rw [<- hwb]; exact za _ _ _ 4
 have hlt : w.heap.size < wb.heap.size := by rw [<- hwb]; simp
 have HWB := Lib.hid hwb
 have HB := Lib.hid hb
 have HA := Lib.hid (hA.below hb)
 have hn1 : n1 = (codeOf x).length := i1.size.symm
 have hn2 : n2 = 3 := by rw [<- i2.size]; rfl
 have HK1 := Lib.hid (fun (W : World) (hW : Below w.heap.size w W) (f0 f1 f2 f3 f4 : Value) => funcMay_any (f0 := f0) (f1 := f1) (f2 := f2) (f3 := f3) (f4 := f4) o (i1.below hW) ho (by omega) (code_head x true 0) (by have h := chk_all x hx hlen; rw [hn1]; exact h) (fun s m hm _ => prims_of x hx true 0 s m hm))
 have HK2 := Lib.hid (fun (W : World) (hW : Below w.heap.size w W) (f0 f1 f2 f3 f4 : Value) => (show Calls Tryz.prog 43 #[.agg #[f0, f1, f2, f3, f4], .agg #[.int .i64 0, .int .i64 0, .int .i64 0, .slice A2 n2 c2]] W fun e w' => e = .returned (.bool true) /\ Below W.heap.size W w' from
  funcMay_any (f0 := f0) (f1 := f1) (f2 := f2) (f3 := f3) (f4 := f4) 0 (i2.below hW) (by decide) (by omega) rfl (by have h := chk_all nilX nilX_w (by decide); rw [hn2]; exact h) (fun s m hm _ => prims_of nilX nilX_w true 0 s m hm)))
 have HKT := Lib.hid (fun (W : World) (hW : Below w.heap.size w W) => thingsMay_any (.slice none 0 0) (.slice none 0 0) (hF2.below hW) (hA.below hW) 60000)
 have HA0 := Lib.hid (show ∀ W, Below w.heap.size w W -> (W.cell? ⟨b, p, none⟩ = some (.int .i64 o) /\ W.cell? ⟨b, p + 1, none⟩ = some (.int .i64 o) /\ W.cell? ⟨b, p + 2, none⟩ = some (.int .i64 0) /\ W.cell? ⟨b, p + 3, none⟩ = some (.slice A1 n1 c1)) /\ W.cell? ⟨b, p + 4, none⟩ = some (.int .i64 0) /\ W.cell? ⟨b, p + 5, none⟩ = some (.int .i64 0) /\ W.cell? ⟨b, p + 6, none⟩ = some (.int .i64 0) /\ W.cell? ⟨b, p + 7, none⟩ = some (.slice A2 n2 c2) from fun W hW =>
  ⟨⟨(hW.cell (p := ⟨b, p, none⟩) hl).trans a0, (hW.cell (p := ⟨b, p + 1, none⟩) hl).trans a1, (hW.cell (p := ⟨b, p + 2, none⟩) hl).trans a2, (hW.cell (p := ⟨b, p + 3, none⟩) hl).trans a3⟩,
  (hW.cell (p := ⟨b, p + 4, none⟩) hl).trans a4, (hW.cell (p := ⟨b, p + 5, none⟩) hl).trans a5, (hW.cell (p := ⟨b, p + 6, none⟩) hl).trans a6, (hW.cell (p := ⟨b, p + 7, none⟩) hl).trans a7⟩)
 clear hA hF2 hwb hb a0 a1 a2 a3 a4 a5 a6 a7 i1 i2 hn1 hn2 hfc2 hx hlen
 go_enter Tryz.func17, Tryz.ntmps17
 go_upto_region 1 with fail
 rw [HWB.out]
 go_wp2_with fail
 refine (heapMay_any HA.out).mono ?_
 rintro e w1 ⟨rfl, hb1⟩
 have y0 := (hb1.cell (p := ⟨w.heap.size, 0, none⟩) hlt).trans z0
 have y1 := (hb1.cell (p := ⟨w.heap.size, 1, none⟩) hlt).trans z1
 have y2 := (hb1.cell (p := ⟨w.heap.size, 2, none⟩) hlt).trans z2
 have y3 := (hb1.cell (p := ⟨w.heap.size, 3, none⟩) hlt).trans z3
 have y4 := (hb1.cell (p := ⟨w.heap.size, 4, none⟩) hlt).trans z4
 have hlt1 : w.heap.size < w1.heap.size := Nat.lt_of_lt_of_le hlt hb1.size
 have HB1 := Lib.hid (HB.out.trans (hb1.mono HB.out.size))
 clear hb1 z0 z1 z2 z3 z4
 go_wp2_with fail
 go_loopg [3] 0 (fun g i wr => i = .int .i64 0 /\ w1 = wr)
 case atStart => exact ⟨rfl, rfl⟩
 obtain ⟨rfl, rfl⟩ := hrel
 go_wp2_with fail
 go_loopg [4] 0 (fun g i wr => i = .int .i64 0 /\ w1 = wr)
 case atStart => exact ⟨rfl, rfl⟩
 obtain ⟨rfl, rfl⟩ := hrel
 go_wp2_with fail
 go_loopg [5] 2 (fun g i wr => ∃ k : Nat, g = 2 - k /\ k <= 2 /\ i = .int .i64 k /\ Below w1.heap.size w1 wr)
 case atStart => exact ⟨0, by omega, by omega, rfl, Below.refl _ _⟩
 obtain ⟨k, hg, hk, rfl, hbr⟩ := hrel
 have HG := Lib.hid hg
 have HBR := Lib.hid (HB1.out.trans (hbr.mono HB1.out.size))
 have HB2 := Lib.hid hbr
 have x0 := (hbr.cell (p := ⟨w.heap.size, 0, none⟩) hlt1).trans y0
 have x1 := (hbr.cell (p := ⟨w.heap.size, 1, none⟩) hlt1).trans y1
 have x2 := (hbr.cell (p := ⟨w.heap.size, 2, none⟩) hlt1).trans y2
 have x3 := (hbr.cell (p := ⟨w.heap.size, 3, none⟩) hlt1).trans y3
 have x4 := (hbr.cell (p := ⟨w.heap.size, 4, none⟩) hlt1).trans y4
 obtain ⟨⟨v0, v1, v2, v3⟩, v4, v5, v6, v7⟩ := HA0.out wr HBR.out
 have hf0 : (0 : Int) < (fc : Int) := by omega
 have hf1 : (1 : Int) < (fc : Int) := by omega
 clear hg hbr
 have hk3 : k = 0 \/ k = 1 \/ k = 2 := by omega
 rcases hk3 with rfl | rfl | rfl
 ·
  go_wp2_with fail
  go_region_with (refine (HK1.out _ (HBR.out.drew) _ _ _ _ _).mono ?_; rintro e w5 ⟨rfl, hb5⟩; have HB5 := Lib.hid (HB2.out.drew.trans (hb5.mono HB2.out.size)); clear hb5)
  all_goals
   go_wp2_with fail
   go_roundg (2 - (0 + 1))
   case rel => exact ⟨0 + 1, rfl, by omega, by go_num, HB5.out⟩
   case measure => have := HG.out; omega
 ·
  go_wp2_with fail
  go_region_with (refine (HK2.out _ (HBR.out.drew) _ _ _ _ _).mono ?_; rintro e w5 ⟨rfl, hb5⟩; have HB5 := Lib.hid (HB2.out.drew.trans (hb5.mono HB2.out.size)); clear hb5)
  all_goals
   go_wp2_with fail
   go_roundg (2 - (1 + 1))
   case rel => exact ⟨1 + 1, rfl, by omega, by go_num, HB5.out⟩
   case measure => have := HG.out; omega
 go_wp2_with fail
 refine (HKT.out _ HBR.out).mono ?_
 rintro e w5 ⟨rfl, hb5⟩
 go_wp2_with fail
 go_ret
 exact ⟨rfl, HBR.out.trans (hb5.mono HBR.out.size)⟩
/- Contract of the reference's WorldCopy at the law's world. -/
theorem IV.one (x : IV) : ∀ u ∈ x.cells, u.oneCell' = true := by
 intro u hu
 simp only [IV.cells, List.mem_cons, List.not_mem_nil, or_false] at hu
 rcases hu with rfl | rfl | rfl | rfl | rfl | rfl | rfl | rfl <;> rfl
def kitIV : Kit IV where
 k := 8
 cells := IV.cells
 len x := rfl
 one := IV.one
 ok w x := True
 uses x b := False
 lt w x b h hb := hb.elim
 kept w w' x row h hg hn := trivial
theorem OwnAt.ins {ty : TypeId} {base : Nat} {w : World} {v : Value} {X : List IV} (h : OwnAt kitIV ty base w v X) : ∃ A cap, v = .slice A X.length cap /\ InsAt w A X.length cap X /\ ∀ a, A = some a -> base <= a.block := by
 obtain ⟨A, cap, rfl, h1, h2, hr, hA⟩ := h.form
 refine ⟨A, cap, rfl, ⟨rfl, h1, h2, fun h0 => ?_⟩, hA⟩
 obtain ⟨b, o, rfl, hl, hc⟩ := hr.at_ h0
 refine ⟨b, o, rfl, hl, fun i hi => ?_⟩
 obtain ⟨_, hc⟩ := hc i (by simpa using hi)
 rw [List.getElem_map] at hc
 exact hc
theorem InsAt.grown {w w' : World} {A : Option Addr} {n c : Nat} {C : List IV} {row : Option Nat} (h : InsAt w A n c C) (hg : w.grownBy w' row) (hne : ∀ b, inSl A n b -> row ≠ some b) : InsAt w' A n c C :=
 ⟨h.size, h.le, h.cap_, fun h0 => by
  obtain ⟨b, o, rfl, hl, hc⟩ := h.at_ h0
  have hb : w'.heap[b]? = w.heap[b]? := hg.block b hl (fun e => hne b ⟨_, rfl, h0, rfl⟩ e.symm)
  exact ⟨b, o, rfl, Nat.lt_of_lt_of_le hl hg.size, fun i hi j hj => by rw [World.cell?_of_block (a := ⟨b, _, none⟩) hb]; exact hc i hi j hj⟩⟩
theorem InsAt.lt {w : World} {A : Option Addr} {n c : Nat} {C : List IV} (h : InsAt w A n c C) {b : Nat} (hb : inSl A n b) : b < w.heap.size := by
 obtain ⟨a, rfl, h0, rfl⟩ := hb
 obtain ⟨b, o, e, hl, _⟩ := h.at_ h0
 cases e
 exact hl
structure FV where
 p : Int
 l : Int
 c : Int
 A : Option Addr
 n : Nat
 cap : Nat
 C : List IV
def FV.cells (x : FV) : List Value := [.int .i64 x.p, .int .i64 x.l, .int .i64 x.c, .slice x.A x.n x.cap]
def kitFV : Kit FV where
 k := 4
 cells := FV.cells
 len x := rfl
 one x u hu := by
  simp only [FV.cells, List.mem_cons, List.not_mem_nil, or_false] at hu
  rcases hu with rfl | rfl | rfl | rfl <;> rfl
 ok w x := InsAt w x.A x.n x.cap x.C
 uses x b := inSl x.A x.n b
 lt w x b h hb := h.lt hb
 kept w w' x row h hg hn := h.grown hg hn
theorem infoInstr : (Tryz.prog.info? 51).map (fun i => (i.zero, i.size, i.bytes)) = some (some (.agg #[.int .i64 0, .int .i64 0, .int .i64 0, .string ByteArray.empty, .string ByteArray.empty, .int .i64 0, .int .i64 0, .string ByteArray.empty]), 8, 88) := by kernel_rfl
theorem infoFunc : (Tryz.prog.info? 32).map (fun i => (i.zero, i.size, i.bytes)) = some (some (.agg #[.int .i64 0, .int .i64 0, .int .i64 0, .slice none 0 0]), 4, 48) := by kernel_rfl
theorem wpList_iv {base : Nat} {ops : Array Oper} {rest : List Oper} {o : Oper} {act : Act} {Q : Exit -> Act -> World -> Prop} {w : World} (hgd : o.guard = none) (s y : Operand)
  (ho : o.op = .call { callee := .builtin .append, args := #[s, y], argTypes := #[30, 30] })
  {v : Value} {X : List IV} (hO : OwnAt kitIV 51 base w v X) (x : IV) (cs : Array Value) (hcs : cs.toList = x.cells)
  (hs : act.eval s = v) (hy : act.eval y = .slice (some ⟨w.heap.size, 0, none⟩) 1 1) (hb : X.length + 1 <= 1073741825) (hbase : base <= w.heap.size)
  (h : ∀ v' w', OwnAt kitIV 51 base w' v' (X ++ [x]) -> w.grownBy w' v.ownBlock -> (v'.ownBlock = v.ownBlock \/ ∃ b, v'.ownBlock = some b /\ w.heap.size <= b) -> wpList Tryz.prog ops Q rest (act.put o.dst v') w') : wpList Tryz.prog ops Q (o :: rest) act (w.alloc (.cells cs 51)) := by
 obtain ⟨i0, hi, hz0, hz1, hz2⟩ := info_parts infoInstr
 exact wpList_own hgd s y ho Tryz.underlying30 hi hz0 hz1 hz2 rfl (by decide) hO x cs hcs trivial (fun b hb => hb.elim) (fun b hb => hb.elim) hs hy (by unfold maxLen; omega) hbase h
theorem wpList_fv {base : Nat} {ops : Array Oper} {rest : List Oper} {o : Oper} {act : Act} {Q : Exit -> Act -> World -> Prop} {w : World} (hgd : o.guard = none) (s y : Operand)
  (ho : o.op = .call { callee := .builtin .append, args := #[s, y], argTypes := #[39, 39] })
  {v : Value} {X : List FV} (hO : OwnAt kitFV 32 base w v X) (x : FV) (cs : Array Value) (hcs : cs.toList = x.cells) (hx : kitFV.ok w x) (hfrom : ∀ b, kitFV.uses x b -> base <= b) (hap : ∀ b, kitFV.uses x b -> v.ownBlock ≠ some b)
  (hs : act.eval s = v) (hy : act.eval y = .slice (some ⟨w.heap.size, 0, none⟩) 1 1) (hb : X.length + 1 <= 1073741825) (hbase : base <= w.heap.size)
  (h : ∀ v' w', OwnAt kitFV 32 base w' v' (X ++ [x]) -> w.grownBy w' v.ownBlock -> (v'.ownBlock = v.ownBlock \/ ∃ b, v'.ownBlock = some b /\ w.heap.size <= b) -> wpList Tryz.prog ops Q rest (act.put o.dst v') w') : wpList Tryz.prog ops Q (o :: rest) act (w.alloc (.cells cs 32)) := by
 obtain ⟨i0, hi, hz0, hz1, hz2⟩ := info_parts infoFunc
 exact wpList_own hgd s y ho Tryz.underlying39 hi hz0 hz1 hz2 rfl (by decide) hO x cs hcs hx hfrom hap hs hy (by unfold maxLen; omega) hbase h
theorem wrows_1 {W : World} {q : Nat} {A : Option Addr} {m c : Nat} {ws : List Wd} (h0 : W.cell? ⟨q, 0, none⟩ = some (.slice A m c)) (hq : q < W.heap.size) (h : WdsAt W A m c ws) : WRows W (some ⟨q, 0, none⟩) 1 [ws] :=
 ⟨rfl, fun _ => ⟨q, 0, rfl, hq, fun i hi => by
  obtain rfl : i = 0 := by simpa using hi
  exact ⟨A, m, c, h.size, h0, h⟩⟩⟩
def NewW (wb wx : World) (len : Nat) (ws : List Wd) (lim : Int) (v : Value) : Prop := ∃ (p : Nat) (A : Option Addr) (c : Nat), v = .pointer (some ⟨p, 0, none⟩) /\ wb.heap.size <= p /\ p < wx.heap.size ∧
 wx.cell? ⟨p, 0, none⟩ = some (.slice none 0 0) /\ wx.cell? ⟨p, 1, none⟩ = some (.slice none 0 0) /\ wx.cell? ⟨p, 2, none⟩ = some (.slice none 0 0) /\ wx.cell? ⟨p, 3, none⟩ = some (.slice A len c) /\ wx.cell? ⟨p, 4, none⟩ = some (.int .i64 lim) ∧
 WdsAt wx A len c ws /\ (∀ b, inSl A len b -> wb.heap.size <= b /\ b ≠ p) /\ (∀ o, wx.frozen? ⟨p, o, none⟩ = false) /\ Below wb.heap.size wb wx
theorem WdsAt.lt {w : World} {A : Option Addr} {len c : Nat} {ws : List Wd} (h : WdsAt w A len c ws) {b : Nat} (hb : inSl A len b) : b < w.heap.size := by
 obtain ⟨a, rfl, h0, rfl⟩ := hb
 obtain ⟨b, o, e, hl, _⟩ := h.at_ h0
 cases e
 exact hl
theorem newW_last {wb w3 : World} {len c : Nat} {ws : List Wd} {lim : Int} {A : Option Addr} {T : TypeId} (hb : Below wb.heap.size wb w3) (hw : WdsAt w3 A len c ws) (fw : ∀ b, inSl A len b -> wb.heap.size <= b) :
  NewW wb (w3.alloc (.cells #[.slice none 0 0, .slice none 0 0, .slice none 0 0, .slice A len c, .int .i64 lim] T)) len ws lim (.pointer (some ⟨w3.heap.size, 0, none⟩)) :=
 ⟨w3.heap.size, A, c, rfl, hb.size, by simp, za _ _ _ 0, za _ _ _ 1, za _ _ _ 2, za _ _ _ 3, za _ _ _ 4, hw.below ((Below.refl _ _).alloc (Nat.le_refl _) _), fun b hbb => ⟨fw b hbb, fun e => Nat.lt_irrefl _ (e ▸ hw.lt hbb)⟩, fun o => ze _ _ _ o, hb.alloc hb.size _⟩
theorem newW_set {wb w3 : World} {len c p : Nat} {ws : List Wd} {lim : Int} {A : Option Addr} {u0 u1 u2 u3 u4 : Value} (hb : Below wb.heap.size wb w3) (hw : WdsAt w3 A len c ws) (fw : ∀ b, inSl A len b -> wb.heap.size <= b) (pw : ∀ b, inSl A len b -> b ≠ p)
  (hp : wb.heap.size <= p) (hp3 : p < w3.heap.size) (c0 : w3.cell? ⟨p, 0, none⟩ = some u0) (c1 : w3.cell? ⟨p, 1, none⟩ = some u1) (c2 : w3.cell? ⟨p, 2, none⟩ = some u2) (c3 : w3.cell? ⟨p, 3, none⟩ = some u3) (c4 : w3.cell? ⟨p, 4, none⟩ = some u4) (cf : ∀ o, w3.frozen? ⟨p, o, none⟩ = false) :
  NewW wb (((((w3.setCell ⟨p, 0, none⟩ (.slice none 0 0)).setCell ⟨p, 1, none⟩ (.slice none 0 0)).setCell ⟨p, 2, none⟩ (.slice none 0 0)).setCell ⟨p, 3, none⟩ (.slice A len c)).setCell ⟨p, 4, none⟩ (.int .i64 lim)) len ws lim (.pointer (some ⟨p, 0, none⟩)) := by
 have HW : ∀ b, inSl A len b -> (some p : Option Nat) ≠ some b := fun b hbb e => pw b hbb (Option.some.inj e).symm
 refine ⟨p, A, c, rfl, hp, by simpa using hp3, ?_, ?_, ?_, ?_, ?_, ?_, fun b hbb => ⟨fw b hbb, pw b hbb⟩, fun o => by rw [World.frozen?_setCell, World.frozen?_setCell, World.frozen?_setCell, World.frozen?_setCell, World.frozen?_setCell]; exact cf o, ((((hb.setCell hp _).setCell hp _).setCell hp _).setCell hp _).setCell hp _⟩
 ·
  exact zg (zg (zg (zg (zh c0) (by decide)) (by decide)) (by decide)) (by decide)
 ·
  exact zg (zg (zg (zh (zg c1 (by decide))) (by decide)) (by decide)) (by decide)
 ·
  exact zg (zg (zh (zg (zg c2 (by decide)) (by decide))) (by decide)) (by decide)
 ·
  exact zg (zh (zg (zg (zg c3 (by decide)) (by decide)) (by decide))) (by decide)
 ·
  exact zh (zg (zg (zg (zg c4 (by decide)) (by decide)) (by decide)) (by decide))
 exact ((((hw.grown (zd _ _ _ _) HW).grown (zd _ _ _ _) HW).grown (zd _ _ _ _) HW).grown (zd _ _ _ _) HW).grown (zd _ _ _ _) HW
theorem grown_set5 (w : World) (g : Nat) (u0 u1 u2 u3 u4 : Value) : w.grownBy (((((w.setCell ⟨g, 0, none⟩ u0).setCell ⟨g, 1, none⟩ u1).setCell ⟨g, 2, none⟩ u2).setCell ⟨g, 3, none⟩ u3).setCell ⟨g, 4, none⟩ u4) (some g) :=
 ((((zd _ _ _ _).trans (zd _ _ _ _)).trans (zd _ _ _ _)).trans (zd _ _ _ _)).trans (zd _ _ _ _)
theorem fns_of_own {ty : TypeId} {base : Nat} {w : World} {A : Option Addr} {n c : Nat} {X : List FV} {o : Nat} {x : Px} (h : OwnAt kitFV ty base w (.slice A n c) X) (hX : X.map (fun f => (f.p, f.l, f.c, f.C)) = [((o : Int), (o : Int), (0 : Int), codeOf x), (0, 0, 0, codeOf nilX)]) : FnsAt w A c o x := by
 obtain ⟨A', c', hv, h1, h2, hr, _⟩ := h.form
 simp only [Value.slice.injEq] at hv
 obtain ⟨rfl, rfl, rfl⟩ := hv
 match X, hX with
 | [⟨p0, l0, c0, A0, n0, k0, C0⟩, ⟨p1, l1, c1, A1, n1, k1, C1⟩], hX =>
  simp only [List.map_cons, List.map_nil, List.cons.injEq, Prod.mk.injEq, and_true] at hX
  obtain ⟨⟨rfl, rfl, rfl, rfl⟩, rfl, rfl, rfl, rfl⟩ := hX
  obtain ⟨b, p, rfl, hl, hc⟩ := hr.at_ (by simp)
  have r0 := (hc 0 (by simp)).2
  have r1 := (hc 1 (by simp)).2
  have i0 : InsAt w A0 n0 k0 (codeOf x) := h.each _ (List.mem_cons_self ..)
  have i1 : InsAt w A1 n1 k1 (codeOf nilX) := h.each _ (List.mem_cons_of_mem _ (List.mem_cons_self ..))
  refine ⟨h1, h2, b, p, A0, n0, k0, A1, n1, k1, rfl, hl, ⟨?_, ?_, ?_, ?_⟩, ⟨?_, ?_, ?_, ?_⟩, i0, i1⟩
  ·
   exact r0 0 (by simp [kitFV, FV.cells])
  ·
   exact r0 1 (by simp [kitFV, FV.cells])
  ·
   exact r0 2 (by simp [kitFV, FV.cells])
  ·
   exact r0 3 (by simp [kitFV, FV.cells])
  ·
   exact r1 0 (by simp [kitFV, FV.cells])
  ·
   exact r1 1 (by simp [kitFV, FV.cells])
  ·
   exact r1 2 (by simp [kitFV, FV.cells])
  exact r1 3 (by simp [kitFV, FV.cells])
structure WcL (wc wr : World) (p : Nat) (v : Value) (X : List FV) : Prop where
 grow : wc.grownBy wr (some p)
 own : OwnAt kitFV 32 wc.heap.size wr v X
 cell : wr.cell? ⟨p, 0, none⟩ = some v
 rest : ∀ j, 1 <= j -> wr.cell? ⟨p, j, none⟩ = wc.cell? ⟨p, j, none⟩
 frozen : ∀ j, wr.frozen? ⟨p, j, none⟩ = false
theorem WcL.heap {wc wq w5 w6 : World} {p : Nat} {v : Value} {X : List FV} (hL : WcL wc wq p v X) (hb5 : Below wq.heap.size wq w5) (hg6 : w5.grownBy w6 v.ownBlock) (hp : p < wc.heap.size) : w6.heap[p]? = wq.heap[p]? := by
 have h1 : p < wq.heap.size := Nat.lt_of_lt_of_le hp hL.grow.size
 refine (hg6.block p (Nat.lt_of_lt_of_le h1 hb5.size) fun e => ?_).trans (hb5.block p h1)
 have := (hL.own.row.lt p e.symm).1
 omega
theorem WcL.step {wc wq w5 w6 : World} {p : Nat} {v v' : Value} {X X' : List FV} (hL : WcL wc wq p v X) (hb5 : Below wq.heap.size wq w5) (hg6 : w5.grownBy w6 v.ownBlock) (hO6 : OwnAt kitFV 32 wc.heap.size w6 v' X') (hp : p < wc.heap.size) :
  WcL wc (w6.setCell ⟨p, 0, none⟩ v') p v' X' := by
 have hh := hL.heap hb5 hg6 hp
 have hc : ∀ j, w6.cell? ⟨p, j, none⟩ = wq.cell? ⟨p, j, none⟩ := fun j => World.cell?_of_block (a := ⟨p, j, none⟩) hh
 have hg := zd w6 p 0 v'
 have hs1 := hL.grow.size
 have hs2 := hb5.size
 have hs3 := hg6.size
 refine ⟨⟨?_, ?_, ?_, ?_, fun k hk hne => ?_⟩, hO6.other hg hp, zh ((hc 0).trans hL.cell), fun j hj => ?_, fun j => ?_⟩
 ·
  exact hg.os.trans (hg6.os.trans (hb5.os.trans hL.grow.os))
 ·
  exact hg.tape.trans (hg6.tape.trans (hb5.tape.trans hL.grow.tape))
 ·
  exact hg.output.trans (hg6.output.trans (hb5.output.trans hL.grow.output))
 ·
  have := hg.size
  omega
 ·
  have hk2 : k < wq.heap.size := by omega
  rw [hg.block k (by omega) hne, hg6.block k (by omega) (fun e => by have := (hL.own.row.lt k e.symm).1; omega), hb5.block k hk2]
  exact hL.grow.block k hk hne
 ·
  have e : w6.cell? ⟨p, j, none⟩ = wc.cell? ⟨p, j, none⟩ := (hc j).trans (hL.rest j hj)
  have h1 : (⟨p, 0, none⟩ : Addr) ≠ ⟨p, j, none⟩ := by intro e; cases e; omega
  rw [<- e]
  exact World.cell?_setCell_other (h := h1) ..
 rw [World.frozen?_setCell, World.frozen?_of_block (a := ⟨p, j, none⟩) hh]
 exact hL.frozen j
set_option maxHeartbeats 4000000 in
theorem worldCopy_any {w : World} {F : Option Addr} {fc o : Nat} {x : Px} {A : Option Addr} {len cap : Nat} {ws : List Wd} (lim : Int) (hF : FnsAt w F fc o x) (hA : WdsAt w A len cap ws) (hl : len <= 60000) (hC : (codeOf x).length <= 6000) :
  Calls Tryz.prog 19 #[.agg #[.slice F 2 fc, .slice none 0 0, .slice none 0 0, .slice A len cap, .int .i64 lim]] w fun e w' => ∃ F' fc' A' cap', e = .returned (.agg #[.slice F' 2 fc', .slice none 0 0, .slice none 0 0, .slice A' len cap', .int .i64 lim]) /\ FnsAt w' F' fc' o x /\ WdsAt w' A' len cap' ws /\ Below w.heap.size w w' := by
 obtain ⟨wb, hwb⟩ : ∃ wb, (w.alloc (.cells #[.slice F 2 fc, .slice none 0 0, .slice none 0 0, .slice A len cap, .int .i64 lim] 46)).alloc (.cells #[.slice none 0 0, .slice none 0 0, .slice none 0 0, .slice none 0 0, .int .i64 0] 46) = wb := ⟨_, rfl⟩
 have hb : Below w.heap.size w wb := by rw [<- hwb]; exact ((Below.refl _ _).alloc (Nat.le_refl _) _).alloc (by simp) _
 have z0 : wb.cell? ⟨w.heap.size, 0, none⟩ = some (.slice F 2 fc) := by rw [<- hwb]; exact cell_first _ _ _ _ _ 0
 have z1 : wb.cell? ⟨w.heap.size, 1, none⟩ = some (.slice none 0 0) := by rw [<- hwb]; exact cell_first _ _ _ _ _ 1
 have z2 : wb.cell? ⟨w.heap.size, 2, none⟩ = some (.slice none 0 0) := by rw [<- hwb]; exact cell_first _ _ _ _ _ 2
 have z3 : wb.cell? ⟨w.heap.size, 3, none⟩ = some (.slice A len cap) := by rw [<- hwb]; exact cell_first _ _ _ _ _ 3
 have z4 : wb.cell? ⟨w.heap.size, 4, none⟩ = some (.int .i64 lim) := by rw [<- hwb]; exact cell_first _ _ _ _ _ 4
 have hlt : w.heap.size < wb.heap.size := by rw [<- hwb]; simp; omega
 have hz2 : w.heap.size + 2 <= wb.heap.size := by rw [<- hwb]; simp
 have z5 : ∀ j, wb.cell? ⟨w.heap.size + 1, j, none⟩ = (#[.slice none 0 0, .slice none 0 0, .slice none 0 0, .slice none 0 0, .int .i64 0] : Array Value)[j]? := by rw [<- hwb]; exact fun j => cell_second _ _ _ _ _ j
 have z6 : ∀ j, wb.frozen? ⟨w.heap.size + 1, j, none⟩ = false := by rw [<- hwb]; intro j; simp
 have Z5 := Lib.hid z5
 have Z6 := Lib.hid z6
 clear z5 z6
 have KW := Lib.hid (show ∀ (W : World) (q : Nat), Below wb.heap.size wb W -> W.cell? ⟨q, 0, none⟩ = some (.slice A len cap) -> q < W.heap.size -> Calls Tryz.prog 48 #[.slice (some ⟨q, 0, none⟩) 1 1] W (fun e w' => ∃ A' cap', e = .returned (.slice A' len cap') /\ WdsAt w' A' len cap' ws /\ (∀ a, A' = some a -> W.heap.size <= a.block) /\ Below W.heap.size W w') from by
  intro W q hW h0 hq
  have h1 := hA.below (hb.trans (hW.mono hb.size))
  have hsz : ws.length = len := hA.size
  refine (wordsCopy_any (some ⟨q, 0, none⟩) 1 1 [ws] W (by unfold maxLen; omega) (Nat.le_refl _) (wrows_1 h0 hq h1) (by simp; omega)).mono ?_
  rintro e w' ⟨v, rfl, hO, hb'⟩
  obtain ⟨A', cap', rfl, h2, h3⟩ := hO.wds
  simp only [List.flatten_cons, List.flatten_nil, List.append_nil, hsz] at h2 h3 ⊢
  exact ⟨A', cap', rfl, h2, h3, hb'⟩)
 have HWB := Lib.hid hwb
 have HB := Lib.hid hb
 have HF := Lib.hid (hF.below hb)
 clear hF hA hwb hb
 go_enter Tryz.func19, Tryz.ntmps19
 go_upto_region 1 with fail
 rw [HWB.out]
 go_cut [3] (fun v wx => NewW wb wx len ws lim v)
 case first =>
  go_region_law (first | (go_simp; go_at_call 48; (with_reducible show Calls _ _ _ ((wb.alloc (.cells #[.slice A len cap] 42)).drew) _); have hW0 := (show Below wb.heap.size wb ((wb.alloc (.cells #[.slice A len cap] 42)).drew) from (by (with_reducible repeat' (first | exact Below.refl _ _ | apply Below.drew | apply below_drewN | refine Below.alloc ?_ ?_ _)); all_goals (try simp); all_goals (try omega))); refine (KW.out ((wb.alloc (.cells #[.slice A len cap] 42)).drew) (wb.heap.size) hW0 (za _ _ _ 0) (by first | (simp; done) | (simp; omega))).mono ?_; rintro e w3 ⟨A', c', rfl, hw3, hA3, hb3⟩; have hs3 := hb3.size; have hb3' := hW0.trans (hb3.mono hW0.size); have hl3 := Nat.lt_of_lt_of_le hlt hb3'.size; have HB3 := Lib.hid hb3'; have m4 := (hb3'.cell (p := ⟨w.heap.size, 4, none⟩) hlt).trans z4; have m3 := (hb3'.cell (p := ⟨w.heap.size, 3, none⟩) hlt).trans z3; have HW3 := Lib.hid hw3; have HA3 := Lib.hid hA3; have HFW := Lib.hid (show ∀ b, inSl A' len b -> wb.heap.size <= b from fun b hbb => by obtain ⟨a, ha, _, rfl⟩ := hbb; exact Nat.le_trans hW0.size (hA3 a ha)); clear hb3 hb3' hw3 hA3 hW0) | (go_simp; go_at_call 48; (with_reducible show Calls _ _ _ (((wb.alloc (.cells #[.slice A len cap] 42)).alloc (.cells #[.slice none 0 0, .slice none 0 0, .slice none 0 0, .slice none 0 0, .int .i64 0] 46)).drew) _); have hW0 := (show Below wb.heap.size wb (((wb.alloc (.cells #[.slice A len cap] 42)).alloc (.cells #[.slice none 0 0, .slice none 0 0, .slice none 0 0, .slice none 0 0, .int .i64 0] 46)).drew) from (by (with_reducible repeat' (first | exact Below.refl _ _ | apply Below.drew | apply below_drewN | refine Below.alloc ?_ ?_ _)); all_goals (try simp); all_goals (try omega))); refine (KW.out (((wb.alloc (.cells #[.slice A len cap] 42)).alloc (.cells #[.slice none 0 0, .slice none 0 0, .slice none 0 0, .slice none 0 0, .int .i64 0] 46)).drew) (wb.heap.size) hW0 (cell_first _ _ _ _ _ 0) (by first | (simp; done) | (simp; omega))).mono ?_; rintro e w3 ⟨A', c', rfl, hw3, hA3, hb3⟩; have hs3 := hb3.size; have hb3' := hW0.trans (hb3.mono hW0.size); have hl3 := Nat.lt_of_lt_of_le hlt hb3'.size; have HB3 := Lib.hid hb3'; have m4 := (hb3'.cell (p := ⟨w.heap.size, 4, none⟩) hlt).trans z4; have m3 := (hb3'.cell (p := ⟨w.heap.size, 3, none⟩) hlt).trans z3; have HW3 := Lib.hid hw3; have HA3 := Lib.hid hA3; have HFW := Lib.hid (show ∀ b, inSl A' len b -> wb.heap.size <= b from fun b hbb => by obtain ⟨a, ha, _, rfl⟩ := hbb; exact Nat.le_trans hW0.size (hA3 a ha)); have hpl : wb.heap.size + 1 < w3.heap.size := Nat.lt_of_lt_of_le (by first | (simp; done) | (simp; omega)) hs3; have n0 : w3.cell? ⟨wb.heap.size + 1, 0, none⟩ = some (.slice none 0 0) := (hb3.cell (p := ⟨wb.heap.size + 1, 0, none⟩) (by first | (simp; done) | (simp; omega))).trans (cell_second _ _ _ _ _ 0); have q0 : w3.frozen? ⟨wb.heap.size + 1, 0, none⟩ = false := (hb3.frozen (p := ⟨wb.heap.size + 1, 0, none⟩) (by first | (simp; done) | (simp; omega))).trans (by simp); have n1 : w3.cell? ⟨wb.heap.size + 1, 1, none⟩ = some (.slice none 0 0) := (hb3.cell (p := ⟨wb.heap.size + 1, 1, none⟩) (by first | (simp; done) | (simp; omega))).trans (cell_second _ _ _ _ _ 1); have q1 : w3.frozen? ⟨wb.heap.size + 1, 1, none⟩ = false := (hb3.frozen (p := ⟨wb.heap.size + 1, 1, none⟩) (by first | (simp; done) | (simp; omega))).trans (by simp); have n2 : w3.cell? ⟨wb.heap.size + 1, 2, none⟩ = some (.slice none 0 0) := (hb3.cell (p := ⟨wb.heap.size + 1, 2, none⟩) (by first | (simp; done) | (simp; omega))).trans (cell_second _ _ _ _ _ 2); have q2 : w3.frozen? ⟨wb.heap.size + 1, 2, none⟩ = false := (hb3.frozen (p := ⟨wb.heap.size + 1, 2, none⟩) (by first | (simp; done) | (simp; omega))).trans (by simp); have n3 : w3.cell? ⟨wb.heap.size + 1, 3, none⟩ = some (.slice none 0 0) := (hb3.cell (p := ⟨wb.heap.size + 1, 3, none⟩) (by first | (simp; done) | (simp; omega))).trans (cell_second _ _ _ _ _ 3); have q3 : w3.frozen? ⟨wb.heap.size + 1, 3, none⟩ = false := (hb3.frozen (p := ⟨wb.heap.size + 1, 3, none⟩) (by first | (simp; done) | (simp; omega))).trans (by simp); have n4 : w3.cell? ⟨wb.heap.size + 1, 4, none⟩ = some (.int .i64 0) := (hb3.cell (p := ⟨wb.heap.size + 1, 4, none⟩) (by first | (simp; done) | (simp; omega))).trans (cell_second _ _ _ _ _ 4); have q4 : w3.frozen? ⟨wb.heap.size + 1, 4, none⟩ = false := (hb3.frozen (p := ⟨wb.heap.size + 1, 4, none⟩) (by first | (simp; done) | (simp; omega))).trans (by simp); have HP := Lib.hid (show ∀ b, inSl A' len b -> b ≠ wb.heap.size + 1 from fun b hbb => by obtain ⟨a, ha, _, rfl⟩ := hbb; have h := hA3 a ha; simp at h; omega); have HQ := Lib.hid (show ∀ j, w3.frozen? ⟨wb.heap.size + 1, j, none⟩ = false from fun j => (hb3.frozen (p := ⟨wb.heap.size + 1, j, none⟩) (by first | (simp; done) | (simp; omega))).trans (by simp)); clear hb3 hb3' hw3 hA3 hW0) | (go_simp; go_at_call 48; (with_reducible show Calls _ _ _ (((wb.alloc (.cells #[.slice none 0 0, .slice none 0 0, .slice none 0 0, .slice none 0 0, .int .i64 0] 46)).alloc (.cells #[.slice A len cap] 42)).drew) _); have hW0 := (show Below wb.heap.size wb (((wb.alloc (.cells #[.slice none 0 0, .slice none 0 0, .slice none 0 0, .slice none 0 0, .int .i64 0] 46)).alloc (.cells #[.slice A len cap] 42)).drew) from (by (with_reducible repeat' (first | exact Below.refl _ _ | apply Below.drew | apply below_drewN | refine Below.alloc ?_ ?_ _)); all_goals (try simp); all_goals (try omega))); refine (KW.out (((wb.alloc (.cells #[.slice none 0 0, .slice none 0 0, .slice none 0 0, .slice none 0 0, .int .i64 0] 46)).alloc (.cells #[.slice A len cap] 42)).drew) (wb.heap.size + 1) hW0 (cell_second _ _ _ _ _ 0) (by first | (simp; done) | (simp; omega))).mono ?_; rintro e w3 ⟨A', c', rfl, hw3, hA3, hb3⟩; have hs3 := hb3.size; have hb3' := hW0.trans (hb3.mono hW0.size); have hl3 := Nat.lt_of_lt_of_le hlt hb3'.size; have HB3 := Lib.hid hb3'; have m4 := (hb3'.cell (p := ⟨w.heap.size, 4, none⟩) hlt).trans z4; have m3 := (hb3'.cell (p := ⟨w.heap.size, 3, none⟩) hlt).trans z3; have HW3 := Lib.hid hw3; have HA3 := Lib.hid hA3; have HFW := Lib.hid (show ∀ b, inSl A' len b -> wb.heap.size <= b from fun b hbb => by obtain ⟨a, ha, _, rfl⟩ := hbb; exact Nat.le_trans hW0.size (hA3 a ha)); have hpl : wb.heap.size < w3.heap.size := Nat.lt_of_lt_of_le (by first | (simp; done) | (simp; omega)) hs3; have n0 : w3.cell? ⟨wb.heap.size, 0, none⟩ = some (.slice none 0 0) := (hb3.cell (p := ⟨wb.heap.size, 0, none⟩) (by first | (simp; done) | (simp; omega))).trans (cell_first _ _ _ _ _ 0); have q0 : w3.frozen? ⟨wb.heap.size, 0, none⟩ = false := (hb3.frozen (p := ⟨wb.heap.size, 0, none⟩) (by first | (simp; done) | (simp; omega))).trans (by simp); have n1 : w3.cell? ⟨wb.heap.size, 1, none⟩ = some (.slice none 0 0) := (hb3.cell (p := ⟨wb.heap.size, 1, none⟩) (by first | (simp; done) | (simp; omega))).trans (cell_first _ _ _ _ _ 1); have q1 : w3.frozen? ⟨wb.heap.size, 1, none⟩ = false := (hb3.frozen (p := ⟨wb.heap.size, 1, none⟩) (by first | (simp; done) | (simp; omega))).trans (by simp); have n2 : w3.cell? ⟨wb.heap.size, 2, none⟩ = some (.slice none 0 0) := (hb3.cell (p := ⟨wb.heap.size, 2, none⟩) (by first | (simp; done) | (simp; omega))).trans (cell_first _ _ _ _ _ 2); have q2 : w3.frozen? ⟨wb.heap.size, 2, none⟩ = false := (hb3.frozen (p := ⟨wb.heap.size, 2, none⟩) (by first | (simp; done) | (simp; omega))).trans (by simp); have n3 : w3.cell? ⟨wb.heap.size, 3, none⟩ = some (.slice none 0 0) := (hb3.cell (p := ⟨wb.heap.size, 3, none⟩) (by first | (simp; done) | (simp; omega))).trans (cell_first _ _ _ _ _ 3); have q3 : w3.frozen? ⟨wb.heap.size, 3, none⟩ = false := (hb3.frozen (p := ⟨wb.heap.size, 3, none⟩) (by first | (simp; done) | (simp; omega))).trans (by simp); have n4 : w3.cell? ⟨wb.heap.size, 4, none⟩ = some (.int .i64 0) := (hb3.cell (p := ⟨wb.heap.size, 4, none⟩) (by first | (simp; done) | (simp; omega))).trans (cell_first _ _ _ _ _ 4); have q4 : w3.frozen? ⟨wb.heap.size, 4, none⟩ = false := (hb3.frozen (p := ⟨wb.heap.size, 4, none⟩) (by first | (simp; done) | (simp; omega))).trans (by simp); have HP := Lib.hid (show ∀ b, inSl A' len b -> b ≠ wb.heap.size from fun b hbb => by obtain ⟨a, ha, _, rfl⟩ := hbb; have h := hA3 a ha; simp at h; omega); have HQ := Lib.hid (show ∀ j, w3.frozen? ⟨wb.heap.size, j, none⟩ = false from fun j => (hb3.frozen (p := ⟨wb.heap.size, j, none⟩) (by first | (simp; done) | (simp; omega))).trans (by simp)); clear hb3 hb3' hw3 hA3 hW0))
  all_goals (go_wp2_with fail)
  all_goals go_meet
  all_goals (first | (with_reducible exact newW_last HB3.out HW3.out HFW.out) | (with_reducible exact newW_set HB3.out HW3.out HFW.out HP.out (Nat.le_refl _) hpl n0 n1 n2 n3 n4 HQ.out) | (with_reducible exact newW_set HB3.out HW3.out HFW.out HP.out (Nat.le_succ _) hpl n0 n1 n2 n3 n4 HQ.out))
 obtain ⟨p, A', c', rfl, hp0, hp1, c0, c1, c2, c3, c4, hw, hAp, hfr, hbc⟩ := hcut
 obtain ⟨hfc, hfc2, bF, pF, A1, n1, k1, A2, n2, k2, rfl, hlF, ⟨a0, a1, a2, a3⟩, ⟨a4, a5, a6, a7⟩, i1, i2⟩ := HF.out
 have hfc3 : fc <= 9223372036854775807 := by unfold maxLen at hfc2; omega
 have y0 := (hbc.cell (p := ⟨w.heap.size, 0, none⟩) hlt).trans z0
 have y1 := (hbc.cell (p := ⟨w.heap.size, 1, none⟩) hlt).trans z1
 have hltc : w.heap.size < wc.heap.size := Nat.lt_of_lt_of_le hlt hbc.size
 have hpw : w.heap.size + 1 < p := by omega
 have hpc : w.heap.size + 1 < wc.heap.size := by omega
 have HBC := Lib.hid hbc
 have HW := Lib.hid hw
 have HAP := Lib.hid hAp
 have I1 := Lib.hid i1
 have I2 := Lib.hid i2
 have HST := Lib.hid (show WcL wc wc p (.slice none 0 0) [] from ⟨zb (Below.refl _ _) _, OwnAt.start _ _ _ _, c0, fun _ _ => rfl, hfr⟩)
 have HC1 := Lib.hid c1
 have HC2 := Lib.hid c2
 have HC3 := Lib.hid c3
 have HC4 := Lib.hid c4
 have Y5 := Lib.hid (show ∀ j, wc.cell? ⟨w.heap.size + 1, j, none⟩ = (#[.slice none 0 0, .slice none 0 0, .slice none 0 0, .slice none 0 0, .int .i64 0] : Array Value)[j]? from fun j => (hbc.cell (p := ⟨w.heap.size + 1, j, none⟩) (by show w.heap.size + 1 < _; omega)).trans (Z5.out j))
 have Y6 := Lib.hid (show ∀ j, wc.frozen? ⟨w.heap.size + 1, j, none⟩ = false from fun j => (hbc.frozen (p := ⟨w.heap.size + 1, j, none⟩) (by show w.heap.size + 1 < _; omega)).trans (Z6.out j))
 have H0 := Lib.hid z0
 have H2 := Lib.hid z2
 have HA0 := Lib.hid (And.intro a0 (And.intro a1 (And.intro a2 a3)))
 have HA4 := Lib.hid (And.intro a4 (And.intro a5 (And.intro a6 a7)))
 clear hbc hw hAp c0 c1 c2 c3 c4 hfr z0 z1 z2 z3 z4 a0 a1 a2 a3 a4 a5 a6 a7 i1 i2 hfc2
 go_wp2_with fail
 go_loopg [4] 0 (fun g i wr => i = .int .i64 0 /\ wc = wr)
 case atStart => exact ⟨rfl, rfl⟩
 obtain ⟨rfl, rfl⟩ := hrel
 go_wp2_with fail
 go_loopg [5] 2 (fun g i wr => ∃ (k : Nat) (v : Value) (X : List FV), g = 2 - k /\ k <= 2 /\ i = .int .i64 k /\ WcL wc wr p v X /\ X.map (fun f => (f.p, f.l, f.c, f.C)) = [((o : Int), (o : Int), (0 : Int), codeOf x), (0, 0, 0, codeOf nilX)].take k)
 case atStart => exact ⟨0, _, [], by omega, by omega, rfl, HST.out, rfl⟩
 obtain ⟨k, v, X, hg, hk, rfl, hL, hX⟩ := hrel
 have hBr : Below wb.heap.size wb wr := zp HBC.out hp0 hL.grow
 have HG := Lib.hid hg
 have HL := Lib.hid hL
 have HX := Lib.hid hX
 have HBR := Lib.hid hBr
 have hsz := hL.grow.size
 have hpr : p < wr.heap.size := Nat.lt_of_lt_of_le hp1 hsz
 have hltr : w.heap.size < wr.heap.size := Nat.lt_of_lt_of_le hltc hsz
 have x0 := (hBr.cell (p := ⟨w.heap.size, 0, none⟩) hlt).trans H0.out
 have x2 := (hBr.cell (p := ⟨w.heap.size, 2, none⟩) hlt).trans H2.out
 have x4 := hL.cell
 have x5 := hL.frozen 0
 have hk3 : (k : Int) < 2 \/ k = 2 := by omega
 rcases hk3 with hk3 | rfl
 ·
  have hsel : ∃ (q : Int) (Ak : Option Addr) (nk ck : Nat) (Ck : List IV), (wr.cell? ⟨bF, pF + k * 4, none⟩ = some (.int .i64 q) /\ wr.cell? ⟨bF, pF + k * 4 + 1, none⟩ = some (.int .i64 q) /\ wr.cell? ⟨bF, pF + k * 4 + 2, none⟩ = some (.int .i64 0) /\ wr.cell? ⟨bF, pF + k * 4 + 3, none⟩ = some (.slice Ak nk ck)) /\ InsAt wb Ak nk ck Ck /\ Ck.length <= 6000 /\ [((o : Int), (o : Int), (0 : Int), codeOf x), (0, 0, 0, codeOf nilX)].take (k + 1) = [((o : Int), (o : Int), (0 : Int), codeOf x), (0, 0, 0, codeOf nilX)].take k ++ [(q, q, 0, Ck)] := by
   obtain ⟨a0, a1, a2, a3⟩ := HA0.out
   obtain ⟨a4, a5, a6, a7⟩ := HA4.out
   obtain rfl | rfl : k = 0 \/ k = 1 := by omega
   ·
    simp only [Nat.zero_mul, Nat.add_zero]
    exact ⟨_, _, _, _, _, ⟨(hBr.cell (p := ⟨bF, pF, none⟩) hlF).trans a0, (hBr.cell (p := ⟨bF, pF + 1, none⟩) hlF).trans a1, (hBr.cell (p := ⟨bF, pF + 2, none⟩) hlF).trans a2, (hBr.cell (p := ⟨bF, pF + 3, none⟩) hlF).trans a3⟩, I1.out, hC, rfl⟩
   simp only [Nat.one_mul, Nat.add_assoc]
   exact ⟨_, _, _, _, _, ⟨(hBr.cell (p := ⟨bF, pF + 4, none⟩) hlF).trans a4, (hBr.cell (p := ⟨bF, pF + 5, none⟩) hlF).trans a5, (hBr.cell (p := ⟨bF, pF + 6, none⟩) hlF).trans a6, (hBr.cell (p := ⟨bF, pF + 7, none⟩) hlF).trans a7⟩, I2.out, by decide, rfl⟩
  obtain ⟨q, Ak, nk, ck, Ck, ⟨b0, b1, b2, b3⟩, hI, hCk, hT⟩ := hsel
  have hkf : (k : Int) < (fc : Int) := by omega
  have hk0 : (0 : Int) <= (k : Int) := Int.natCast_nonneg _
  have hnk : Ck.length = nk := hI.size
  have hcc := hI.cap_
  have hnc := hI.le
  have hck3 : ck <= 9223372036854775807 := by unfold maxLen at hcc; omega
  have HI := Lib.hid hI
  have HT := Lib.hid hT
  have hnk6 : nk <= 6000 := by omega
  clear hg hL hX hBr hI hT hcc
  go_wp2_with fail
  obtain ⟨wo, hwo⟩ : ∃ wo : World, wr.alloc (.cells #[.int .i64 q, .int .i64 q, .int .i64 0, .slice Ak nk ck] 32) = wo := ⟨_, rfl⟩
  have hbo : Below wr.heap.size wr wo := by rw [<- hwo]; exact (Below.refl _ _).alloc (Nat.le_refl _) _
  have e0 : wo.cell? ⟨wr.heap.size, 0, none⟩ = some (.int .i64 q) := by rw [<- hwo]; exact za _ _ _ 0
  have e1 : wo.cell? ⟨wr.heap.size, 1, none⟩ = some (.int .i64 q) := by rw [<- hwo]; exact za _ _ _ 1
  have e2 : wo.cell? ⟨wr.heap.size, 2, none⟩ = some (.int .i64 0) := by rw [<- hwo]; exact za _ _ _ 2
  have e3 : wo.cell? ⟨wr.heap.size, 3, none⟩ = some (.slice Ak nk ck) := by rw [<- hwo]; exact za _ _ _ 3
  have e4 : wo.frozen? ⟨wr.heap.size, 3, none⟩ = false := by rw [<- hwo]; exact ze _ _ _ _
  have hso : wr.heap.size < wo.heap.size := by rw [<- hwo]; simp
  rw [hwo]
  have HBO := Lib.hid hbo
  have HBW := Lib.hid (HBR.out.trans (hbo.mono HBR.out.size))
  clear hwo hbo b0 b1 b2 b3
  obtain ⟨wq, rfl⟩ : ∃ wq : World, wq = wr := ⟨_, rfl⟩
  go_loopg [7, 8] nk (fun g v7 i wi => ∃ j : Nat, g = nk - j /\ j <= nk /\ i = .int .i64 j /\ OwnAt kitIV 51 wo.heap.size wi v7 (Ck.take j) /\ Below wo.heap.size wo wi)
  case atStart => exact ⟨0, by omega, by omega, rfl, OwnAt.start _ _ _ _, Below.refl _ _⟩
  obtain ⟨j, hgj, hjn, rfl, hO, hbi⟩ := hrel
  have HGJ := Lib.hid hgj
  have HO := Lib.hid hO
  have HBI := Lib.hid hbi
  have f3 := (hbi.cell (p := ⟨wq.heap.size, 3, none⟩) hso).trans e3
  have f4 := (hbi.frozen (p := ⟨wq.heap.size, 3, none⟩) hso).trans e4
  have hsi := hbi.size
  have hqi : wq.heap.size < wr.heap.size := Nat.lt_of_lt_of_le hso hsi
  clear hgj hO hbi
  have hjn2 : (j : Int) < (nk : Int) \/ j = nk := by omega
  rcases hjn2 with hjn2 | rfl
  ·
   have hjc : j < Ck.length := by omega
   obtain ⟨y, hy⟩ : ∃ y, Ck[j] = y := ⟨_, rfl⟩
   obtain ⟨b5, o5, hA5, hb5, _, d0, d1, d2, d3, d4, d5, d6, d7⟩ := (HI.out.below (HBW.out.trans (HBI.out.mono HBW.out.size))).nth (i := j) (x := y) (by rw [<- hy]; exact List.getElem?_eq_getElem hjc)
   subst hA5
   have hj0 : (0 : Int) <= (j : Int) := Int.natCast_nonneg _
   have hjk : (j : Int) < (ck : Int) := by omega
   have HLJ := Lib.hid (show (Ck.take j).length + 1 <= 1073741825 from by rw [List.length_take]; omega)
   have HTJ := Lib.hid (show Ck.take (j + 1) = Ck.take j ++ [y] from by rw [List.take_succ_eq_append_getElem hjc, hy])
   clear hy
   go_wp2_with (at_builtin; refine wpList_iv rfl (.tmp 61) (.tmp 67) rfl HO.out y _ rfl rfl rfl HLJ.out hsi ?_; intro v' w1 hO' hg' _)
   have hb1 : Below wo.heap.size wo w1 := HBI.out.grown hg' HBI.out.size (fun b hb => (HO.out.row.lt b hb).1)
   go_roundg (nk - (j + 1))
   case rel => exact ⟨j + 1, rfl, by omega, by go_num, by rw [HTJ.out]; exact hO', hb1⟩
   case measure => have := HGJ.out; omega
  obtain ⟨A5, c5, rfl, hI5, hA5⟩ := HO.out.ins
  rw [List.take_of_length_le (by omega)] at hI5 ⊢
  rw [hnk] at hI5 ⊢
  have hs : wq.heap.size + 1 <= wo.heap.size := hso
  have hbq : Below wq.heap.size wq wr := HBO.out.trans (HBI.out.mono HBO.out.size)
  have g0 := (HBI.out.cell (p := ⟨wq.heap.size, 0, none⟩) hso).trans e0
  have g1 := (HBI.out.cell (p := ⟨wq.heap.size, 1, none⟩) hso).trans e1
  have g2 := (HBI.out.cell (p := ⟨wq.heap.size, 2, none⟩) hso).trans e2
  go_upto_region 16 with fail
  obtain ⟨w5, hw5⟩ : ∃ w5 : World, wr.setCell ⟨wq.heap.size, 3, none⟩ (.slice A5 j c5) = w5 := ⟨_, rfl⟩
  have hg5 : wr.grownBy w5 (some wq.heap.size) := by rw [<- hw5]; exact zd _ _ _ _
  have h0 : w5.cell? ⟨wq.heap.size, 0, none⟩ = some (.int .i64 q) := by rw [<- hw5]; exact zg g0 (by decide)
  have h1 : w5.cell? ⟨wq.heap.size, 1, none⟩ = some (.int .i64 q) := by rw [<- hw5]; exact zg g1 (by decide)
  have h2 : w5.cell? ⟨wq.heap.size, 2, none⟩ = some (.int .i64 0) := by rw [<- hw5]; exact zg g2 (by decide)
  have h3 : w5.cell? ⟨wq.heap.size, 3, none⟩ = some (.slice A5 j c5) := by rw [<- hw5]; exact zh f3
  have hb5 : Below wq.heap.size wq w5 := zp hbq (Nat.le_refl _) hg5
  have HB5 := Lib.hid hb5
  have HO5 := Lib.hid (HL.out.own.new hb5)
  have k4 := (hb5.cell (p := ⟨p, 0, none⟩) hpr).trans x4
  have HI5 := Lib.hid (hI5.grown hg5 (fun b hbb e => by obtain ⟨a, ha, _, rfl⟩ := hbb; have h := hA5 a ha; have := Option.some.inj e; omega))
  have HA5 := Lib.hid hA5
  have hs5 := hb5.size
  have hbase5 : wc.heap.size <= w5.heap.size := by omega
  have HLX := Lib.hid (show X.length + 1 <= 1073741825 from by have h := congrArg List.length HX.out; rw [List.length_map] at h; rw [h, List.length_take]; simp; omega)
  have hpq : p ≠ wq.heap.size := by omega
  rw [hw5]
  clear hw5 hg5 hb5 g0 g1 g2 hI5 hA5 hbq f3 f4
  go_wp2_with (at_builtin; refine wpList_fv rfl (.tmp 72) (.tmp 74) rfl HO5.out ⟨q, q, 0, A5, j, c5, Ck⟩ _ rfl HI5.out (fun b hbb => by obtain ⟨a, ha, _, rfl⟩ := hbb; have h := HA5.out a ha; omega) (fun b hbb e => by obtain ⟨a, ha, _, rfl⟩ := hbb; have h := HA5.out a ha; have := (HL.out.own.row.lt _ e).2; omega) rfl rfl HLX.out hbase5 ?_; intro v6 w6 hO6 hg6 _; obtain ⟨A6, c6, hv6, _, _, _, _⟩ := hO6.form; obtain ⟨n6, hn6⟩ : ∃ n6, (X ++ [(⟨q, q, 0, A5, j, c5, Ck⟩ : FV)]).length = n6 := ⟨_, rfl⟩; rw [hn6] at hv6; subst hv6; have hh6 := HL.out.heap HB5.out hg6 hp1; have m0 := (World.cell?_of_block (a := ⟨p, 0, none⟩) hh6).trans HL.out.cell; have m1 := (World.frozen?_of_block (a := ⟨p, 0, none⟩) hh6).trans (HL.out.frozen 0); have HS6 := Lib.hid (HL.out.step HB5.out hg6 hO6 hp1); clear hh6 hO6 hg6)
  go_roundg (2 - (k + 1))
  case rel => exact ⟨k + 1, _, _, rfl, by omega, by go_num, HS6.out, by rw [List.map_append, HX.out, HT.out]; rfl⟩
  case measure => have := HG.out; omega
 have w5 := HW.out.grown HL.out.grow (fun b hbb e => (HAP.out b hbb).2 (Option.some.inj e).symm)
 have HW5 := Lib.hid w5
 obtain ⟨AX, cX, hvX, _, hcX, _, _⟩ := HL.out.own.form
 have hXl : X.length = 2 := by have h := congrArg List.length HX.out; rw [List.length_map] at h; rw [h]; rfl
 rw [hXl] at hvX
 subst hvX
 have c1 := (HL.out.rest 1 (by decide)).trans HC1.out
 have c2 := (HL.out.rest 2 (by decide)).trans HC2.out
 have c3 := (HL.out.rest 3 (by decide)).trans HC3.out
 have c4 := (HL.out.rest 4 (by decide)).trans HC4.out
 have hlt1 : w.heap.size + 1 < wr.heap.size := Nat.lt_of_lt_of_le hpc hsz
 have hR : wr.heap[w.heap.size + 1]? = wc.heap[w.heap.size + 1]? := HL.out.grow.block _ hpc (fun e => by have := Option.some.inj e; omega)
 have e0 := (World.cell?_of_block (a := ⟨w.heap.size + 1, 0, none⟩) hR).trans (Y5.out 0)
 have e1 := (World.cell?_of_block (a := ⟨w.heap.size + 1, 1, none⟩) hR).trans (Y5.out 1)
 have e2 := (World.cell?_of_block (a := ⟨w.heap.size + 1, 2, none⟩) hR).trans (Y5.out 2)
 have e3 := (World.cell?_of_block (a := ⟨w.heap.size + 1, 3, none⟩) hR).trans (Y5.out 3)
 have e4 := (World.cell?_of_block (a := ⟨w.heap.size + 1, 4, none⟩) hR).trans (Y5.out 4)
 have q0 := (World.frozen?_of_block (a := ⟨w.heap.size + 1, 0, none⟩) hR).trans (Y6.out 0)
 have q1 := (World.frozen?_of_block (a := ⟨w.heap.size + 1, 1, none⟩) hR).trans (Y6.out 1)
 have q2 := (World.frozen?_of_block (a := ⟨w.heap.size + 1, 2, none⟩) hR).trans (Y6.out 2)
 have q3 := (World.frozen?_of_block (a := ⟨w.heap.size + 1, 3, none⟩) hR).trans (Y6.out 3)
 have q4 := (World.frozen?_of_block (a := ⟨w.heap.size + 1, 4, none⟩) hR).trans (Y6.out 4)
 simp only [List.getElem?_toArray, List.getElem?_cons_zero, List.getElem?_cons_succ] at e0 e1 e2 e3 e4
 clear hg hL hX hBr w5 hR
 go_wp2_with fail
 go_loopg [9] 0 (fun g i wx => i = .int .i64 0 /\ wr = wx)
 case atStart => exact ⟨rfl, rfl⟩
 obtain ⟨rfl, rfl⟩ := hrel
 go_wp2_with fail
 have hg5 := grown_set5 wr (w.heap.size + 1) (.slice AX 2 cX) (.slice none 0 0) (.slice none 0 0) (.slice A' len c') (.int .i64 lim)
 have s0 := zg (j := 4) (u := .int .i64 lim) (zg (j := 3) (u := .slice A' len c') (zg (j := 2) (u := .slice none 0 0) (zg (j := 1) (u := .slice none 0 0) (zh (u := .slice AX 2 cX) e0) (by decide)) (by decide)) (by decide)) (by decide)
 have s1 := zg (j := 4) (u := .int .i64 lim) (zg (j := 3) (u := .slice A' len c') (zg (j := 2) (u := .slice none 0 0) (zh (u := .slice none 0 0) (zg (j := 0) (u := .slice AX 2 cX) e1 (by decide))) (by decide)) (by decide)) (by decide)
 have s2 := zg (j := 4) (u := .int .i64 lim) (zg (j := 3) (u := .slice A' len c') (zh (u := .slice none 0 0) (zg (j := 1) (u := .slice none 0 0) (zg (j := 0) (u := .slice AX 2 cX) e2 (by decide)) (by decide))) (by decide)) (by decide)
 have s3 := zg (j := 4) (u := .int .i64 lim) (zh (u := .slice A' len c') (zg (j := 2) (u := .slice none 0 0) (zg (j := 1) (u := .slice none 0 0) (zg (j := 0) (u := .slice AX 2 cX) e3 (by decide)) (by decide)) (by decide))) (by decide)
 have s4 := zh (u := .int .i64 lim) (zg (j := 3) (u := .slice A' len c') (zg (j := 2) (u := .slice none 0 0) (zg (j := 1) (u := .slice none 0 0) (zg (j := 0) (u := .slice AX 2 cX) e4 (by decide)) (by decide)) (by decide)) (by decide))
 have HFN := fns_of_own (HL.out.own.other hg5 hpc) HX.out
 have HWF := HW5.out.grown hg5 (fun b hbb e => by have h1 := (HAP.out b hbb).1; have h2 := Option.some.inj e; omega)
 refine bodyPost_ret (v := .agg #[.slice AX 2 cX, .slice none 0 0, .slice none 0 0, .slice A' len c', .int .i64 lim]) (by simp [results, Tryz.results19, go_sem, s0, s1, s2, s3, s4]) rfl ?_
 exact ⟨AX, cX, A', c', rfl, HFN, HWF, zp (HB.out.trans (HBR.out.mono HB.out.size)) (Nat.le_succ _) hg5⟩
end Go.Proofs.YtfhbdlobhjegcaaGreatDoor
