import Derived.Test.YtfhbdlobhjegcaaGreatDoorQm
import Derived.Test.YtfhbdlobhjegcaaGreatDoorGBase
namespace Go.Proofs.YtfhbdlobhjegcaaGreatDoor
open Go.RowKit Go.ChangeShapes Go.WideShapes Go.Deep Go.ChangeAt
set_option linter.unusedVariables false
set_option maxRecDepth 20000
theorem infoAct : (Tryz.prog.info? 124).map (fun i => (i.zero, i.size, i.bytes)) = some (some (.agg #[.int .i64 0, .int .i64 0, .int .i64 0, .int .i64 0, .string ByteArray.empty, .slice none 0 0, .slice none 0 0]), 7, 96) := by kernel_rfl
def kitAc : Kit { l : List Value // l.length = 7 /\ ∀ u ∈ l, u.oneCell' = true } where
 k := 7
 cells x := x.1
 len x := x.2.1
 one x := x.2.2
 ok w x := True
 uses x b := False
 lt w x b h hb := hb.elim
 kept w w' x row h hg hn := trivial
theorem step_act {base : Nat} {ops : Array Oper} {o : Oper} {act : Act} {KK : Act -> World -> Prop} {Q : Exit -> Act -> World -> Prop} {E : Prop} {w : World} (hgd : o.guard = none) (s y : Operand)
  (ho : o.op = .call { callee := .builtin .append, args := #[s, y], argTypes := #[82, 82] })
  (x : { l : List Value // l.length = 7 /\ ∀ u ∈ l, u.oneCell' = true }) (cs : Array Value) (hcs : cs.toList = x.1)
  (hs : act.eval s = .slice none 0 0) (hy : act.eval y = .slice (some ⟨w.heap.size, 0, none⟩) 1 1) (hbase : base <= w.heap.size)
  (h : ∀ v' w', OwnAt kitAc 124 base w' v' [x] -> w.grownBy w' none -> KK (act.put o.dst v') w') :
  if Region.wanted o (yielded ops act.tmps) = true then Oper.wp Tryz.prog o act (w.alloc (.cells cs 124)).drew KK Q else E := by
 obtain ⟨i0, hi, hz0, hz1, hz2⟩ := info_parts infoAct
 have hw : Region.wanted o (yielded ops act.tmps) = true := by simp [Region.wanted, hgd]
 rw [if_pos hw]
 obtain ⟨v', w', hr, h1, h2, h3⟩ := run_own (rt := o.type) (sl := 82) (w := w.drew) Tryz.underlying82 hi hz0 hz1 hz2 rfl (by decide) (OwnAt.start kitAc 124 base w.drew) x cs hcs trivial (fun b hb => hb.elim) (fun b hb => hb.elim) ⟨by decide, by decide⟩ hbase
 unfold Oper.wp execOp
 have hr2 : (Builtin.append_ #[82, 82] o.type #[.slice none 0 0, .slice (some ⟨w.heap.size, 0, none⟩) 1 1]).run Tryz.prog (w.alloc (.cells cs 124)).drew = .ok v' w' := hr
 simp only [ho, resolve, invoke, builtin, Sem.run_bind, Sem.run_pure, Result.andThen_ok, List.map_toArray, List.map_cons, List.map_nil, hs, hy, hr2]
 exact h v' w' h1 ((zb ((Below.refl _ _).drew) _).trans h2)
structure Begun (w w' : World) (G o : Nat) (L : List Wd) (T ca : Nat) (AL : Option Addr) (cl : Nat) : Prop where
 grown : w.grownBy w' (some G)
 new : w.heap.size <= T
 lt : T < w'.heap.size
 ca1 : 1 <= ca
 ca2 : ca <= 9223372036854775807
 g5 : w'.cell? ⟨G, 5, none⟩ = some (.slice (some ⟨T, 0, none⟩) 1 ca)
 gk : ∀ j, j ≠ 5 -> w'.cell? ⟨G, j, none⟩ = w.cell? ⟨G, j, none⟩
 gf : ∀ j, w'.frozen? ⟨G, j, none⟩ = w.frozen? ⟨G, j, none⟩
 t0 : w'.cell? ⟨T, 0, none⟩ = some (.int .i64 0)
 t1 : w'.cell? ⟨T, 1, none⟩ = some (.int .i64 0)
 t5 : w'.cell? ⟨T, 5, none⟩ = some (.slice AL o cl)
 t6 : w'.cell? ⟨T, 6, none⟩ = some (.slice none 0 0)
 tf : ∀ j, w'.frozen? ⟨T, j, none⟩ = false
 loc : WdsAt w' AL o cl L
 apart : ∀ b, inSl AL o b -> w.heap.size <= b /\ b ≠ T
theorem own7 {w : World} {base : Nat} {v : Value} {x : { l : List Value // l.length = 7 /\ ∀ u ∈ l, u.oneCell' = true }} (h : OwnAt kitAc 124 base w v [x]) : ∃ T ca, v = .slice (some ⟨T, 0, none⟩) 1 ca /\ base <= T /\ T < w.heap.size /\ 1 <= ca /\ ca <= 9223372036854775807 /\ (∀ j u, x.1[j]? = some u -> w.cell? ⟨T, j, none⟩ = some u) /\ ∀ j, w.frozen? ⟨T, j, none⟩ = false := by
 obtain ⟨A, cap, hv, hc1, hc2, hr, hA⟩ := h.form
 have hrow := h.row
 obtain ⟨hlen, ⟨h0, h1⟩ | ⟨g, cap', cur, hv', hb, hg, hn, hcm, hsz, htk⟩⟩ := hrow
 ·
  exact absurd h1 (by simp)
 have hlt : g < w.heap.size := by
  obtain ⟨hlt, _⟩ := Array.getElem?_eq_some_iff.1 hg
  exact hlt
 refine ⟨g, cap', by rw [hv']; rfl, hb, hlt, by simpa using hn, by unfold maxLen at hcm; omega, ?_, ?_⟩
 ·
  rw [hv'] at hv
  cases hv
  obtain ⟨b, o, hA2, hl, hc⟩ := hr.at_ (by simp)
  cases hA2
  obtain ⟨_, hc⟩ := hc 0 (by simp)
  intro j u hj
  have h7 := hc j (List.getElem?_eq_some_iff.1 hj).1
  simp only [Nat.zero_mul, Nat.zero_add] at h7
  exact h7.trans hj
 intro j
 simp [World.frozen?, hg]
theorem begun_end {w wb wr w9 : World} {G o T ca cl : Nat} {AL : Option Addr} {L : List Wd} {u5 : Value} (hG : G < w.heap.size) (hab : Below w.heap.size w wr) (h6 : wr.grownBy w9 none) (hT1 : wr.heap.size <= T) (hT2 : T < w9.heap.size) (hc1 : 1 <= ca) (hc2 : ca <= 9223372036854775807)
  (hT : ∀ (j : Nat) u, [Value.int .i64 0, .int .i64 0, .int .i64 5, .int .i64 0, .string ⟨#[]⟩, .slice AL o cl, .slice none 0 0][j]? = some u -> w9.cell? ⟨T, j, none⟩ = some u) (hTf : ∀ j, w9.frozen? ⟨T, j, none⟩ = false)
  (hL : WdsAt wr AL o cl L) (hAL : ∀ a, AL = some a -> wb.heap.size <= a.block) (hw : w.heap.size <= wb.heap.size) (g5 : w9.cell? ⟨G, 5, none⟩ = some u5) : Begun w (w9.setCell ⟨G, 5, none⟩ (.slice (some ⟨T, 0, none⟩) 1 ca)) G o L T ca AL cl := by
 have hGr : G < wr.heap.size := Nat.lt_of_lt_of_le hG hab.size
 have hne : T ≠ G := by omega
 have hs := hab.size
 have hblk : w9.heap[G]? = w.heap[G]? := (h6.block _ hGr (by simp)).trans (hab.block _ hG)
 have hgs := zd w9 G 5 (.slice (some ⟨T, 0, none⟩) 1 ca)
 have hg := ((zb hab (some G)).trans ⟨h6.os, h6.tape, h6.output, h6.size, fun k hk _ => h6.block k hk (by simp)⟩).trans hgs
 refine ⟨hg, by omega, Nat.lt_of_lt_of_le hT2 hgs.size, hc1, hc2, zh g5, fun j hj => ?_, fun j => ?_, set_otherB (hT 0 _ rfl) hne, set_otherB (hT 1 _ rfl) hne, set_otherB (hT 5 _ rfl) hne, set_otherB (hT 6 _ rfl) hne, fun j => by rw [World.frozen?_setCell]; exact hTf j, ?_, ?_⟩
 ·
  have h1 : (⟨G, 5, none⟩ : Addr) ≠ ⟨G, j, none⟩ := by intro e; cases e; exact hj rfl
  rw [World.cell?_setCell_other (h := h1) ..]
  exact World.cell?_of_block (a := ⟨G, j, none⟩) hblk
 ·
  rw [World.frozen?_setCell]
  exact World.frozen?_of_block (a := ⟨G, j, none⟩) hblk
 ·
  refine (hL.grown h6 (fun b hb => by simp)).grown hgs (fun b hb e => ?_)
  obtain ⟨a, ha, _, rfl⟩ := hb
  have h1 := hAL a ha
  have h2 := Option.some.inj e
  omega
 rintro b ⟨a, ha, h0, rfl⟩
 have h1 := hAL a ha
 obtain ⟨b2, o2, hA2, hl, _⟩ := hL.at_ h0
 rw [ha] at hA2
 cases hA2
 exact ⟨by omega, by simp only at hl ⊢; omega⟩
set_option maxHeartbeats 4000000 in
theorem begin_any {w : World} {G b p fc o : Nat} {AA : Option Addr} {cap : Nat} {L : List Wd} (hG : G < w.heap.size) (g0 : w.cell? ⟨G, 0, none⟩ = some (.slice (some ⟨b, p, none⟩) 2 fc)) (hfc : 2 <= fc) (hfc2 : fc <= 9223372036854775807) (hb : b < w.heap.size) (f1 : w.cell? ⟨b, p + 1, none⟩ = some (.int .i64 o)) (g5 : w.cell? ⟨G, 5, none⟩ = some (.slice none 0 0)) (gf : w.frozen? ⟨G, 5, none⟩ = false) (hA : WdsAt w AA o cap L) (ho : o <= 100) :
  Calls Tryz.prog 21 #[.pointer (some ⟨G, 0, none⟩), .int .i64 0, .agg #[.int .i64 5, .int .i64 0, .string ⟨#[]⟩], .slice AA o cap] w fun e w' => e = .returned (.tuple #[]) /\ ∃ T ca AL cl, Begun w w' G o L T ca AL cl := by
 obtain ⟨wa, hwa⟩ : ∃ wa, w.alloc (.cells #[.int .i64 5, .int .i64 0, .string ⟨#[]⟩] 49) = wa := ⟨_, rfl⟩
 have hba : Below w.heap.size w wa := by rw [<- hwa]; exact (Below.refl _ _).alloc (Nat.le_refl _) _
 have z0 : wa.cell? ⟨w.heap.size, 0, none⟩ = some (.int .i64 5) := by rw [<- hwa]; exact za _ _ _ 0
 have z1 : wa.cell? ⟨w.heap.size, 1, none⟩ = some (.int .i64 0) := by rw [<- hwa]; exact za _ _ _ 1
 have z2 : wa.cell? ⟨w.heap.size, 2, none⟩ = some (.string ⟨#[]⟩) := by rw [<- hwa]; exact za _ _ _ 2
 have hlta : w.heap.size < wa.heap.size := by rw [<- hwa]; simp
 obtain ⟨wb, hwb⟩ : ∃ wb, wa.alloc (.cells #[.slice AA o cap] 42) = wb := ⟨_, rfl⟩
 have hbb : Below wa.heap.size wa wb := by rw [<- hwb]; exact (Below.refl _ _).alloc (Nat.le_refl _) _
 have y0 : wb.cell? ⟨wa.heap.size, 0, none⟩ = some (.slice AA o cap) := by rw [<- hwb]; exact za _ _ _ 0
 have hltb : wa.heap.size < wb.heap.size := by rw [<- hwb]; simp
 have hb2 := hba.trans (hbb.mono hba.size)
 have HWA := Lib.hid hwa
 have HWB := Lib.hid hwb
 have hR : WRows wb (some ⟨wa.heap.size, 0, none⟩) 1 [L] := ⟨rfl, fun _ => ⟨wa.heap.size, 0, rfl, hltb, fun i hi => by
  match i, hi with
  | 0, _ => exact ⟨AA, o, cap, hA.size, y0, hA.below hb2⟩⟩⟩
 have KC := Lib.hid (wordsCopy_any (some ⟨wa.heap.size, 0, none⟩) 1 1 [L] wb (by unfold maxLen; omega) (Nat.le_refl _) hR (by simp [hA.size]; omega))
 have HB2 := Lib.hid hb2
 have HBB := Lib.hid hbb
 have HLS := Lib.hid hA.size
 have HF1 := Lib.hid f1
 have hG2 := Nat.lt_of_lt_of_le hG hb2.size
 have hb3 := Nat.lt_of_lt_of_le hb hb2.size
 have g0b := (hb2.cell (p := ⟨G, 0, none⟩) hG).trans g0
 have g5b := (hb2.cell (p := ⟨G, 5, none⟩) hG).trans g5
 have gfb := (hb2.frozen (p := ⟨G, 5, none⟩) hG).trans gf
 have f1b := (hb2.cell (p := ⟨b, p + 1, none⟩) hb).trans f1
 have x0b := (hbb.cell (p := ⟨w.heap.size, 0, none⟩) hlta).trans z0
 have x1b := (hbb.cell (p := ⟨w.heap.size, 1, none⟩) hlta).trans z1
 have x2b := (hbb.cell (p := ⟨w.heap.size, 2, none⟩) hlta).trans z2
 have hltb2 : w.heap.size < wb.heap.size := by omega
 have hsz2 := hb2.size
 clear hA g0 g5 gf f1 hwa hwb hba hbb hb2 hR z0 z1 z2 y0
 go_enter Tryz.func21, Tryz.ntmps21
 go_upto_region 1 with fail
 rw [HWA.out]
 go_wp2_with fail
 rw [HWB.out]
 refine KC.out.mono ?_
 rintro e w1 ⟨v, rfl, hO, hb1⟩
 obtain ⟨AL, cl, rfl, hL, hAL⟩ := hO.wds
 rw [show ([L] : List (List Wd)).flatten = L from by simp] at hL
 rw [show ([L] : List (List Wd)).flatten.length = o from by simp [HLS.out]]
 rw [HLS.out] at hL
 have hlc := hL.le
 have hcc := hL.cap_
 have hcl : cl <= 9223372036854775807 := by unfold maxLen at hcc; omega
 have g01 := (hb1.cell (p := ⟨G, 0, none⟩) hG2).trans g0b
 have g51 := (hb1.cell (p := ⟨G, 5, none⟩) hG2).trans g5b
 have gf1 := (hb1.frozen (p := ⟨G, 5, none⟩) hG2).trans gfb
 have f11 := (hb1.cell (p := ⟨b, p + 1, none⟩) hb3).trans f1b
 have x01 := (hb1.cell (p := ⟨w.heap.size, 0, none⟩) hltb2).trans x0b
 have x11 := (hb1.cell (p := ⟨w.heap.size, 1, none⟩) hltb2).trans x1b
 have x21 := (hb1.cell (p := ⟨w.heap.size, 2, none⟩) hltb2).trans x2b
 have HL := Lib.hid hL
 have HB1 := Lib.hid hb1
 have HAL := Lib.hid hAL
 have hlt1 := hb1.size
 clear hO hL hb1 hAL hcc g0b g5b gfb f1b x0b x1b x2b
 go_wp2_with fail
 go_loopg [8] 0 (fun g i wr => g = 0 /\ i = .slice AL o cl /\ wr = w1)
 case atStart => exact ⟨rfl, rfl, rfl⟩
 obtain ⟨rfl, rfl, rfl⟩ := hrel
 go_wp2_with fail
 have hsz : w.heap.size < wr.heap.size := Nat.lt_of_lt_of_le hltb2 hlt1
 have hGr : G < wr.heap.size := Nat.lt_of_lt_of_le hG2 hlt1
 have hne : w.heap.size ≠ G := by omega
 go_region_law (refine step_act (base := wr.heap.size) (by rfl) (.tmp 32) (.tmp 37) (by rfl) ⟨[.int .i64 0, .int .i64 0, .int .i64 5, .int .i64 0, .string ⟨#[]⟩, .slice AL o cl, .slice none 0 0], rfl, fun u hu => by simp only [List.mem_cons, List.not_mem_nil, or_false] at hu; rcases hu with rfl | rfl | rfl | rfl | rfl | rfl | rfl <;> rfl⟩ _ rfl (by rfl) (by rfl) (Nat.le_refl _) ?_; intro v9 w9 h5 h6; obtain ⟨T, ca, hv9, hT1, hT2, hc1, hc2, hT, hTf⟩ := own7 h5; subst hv9; have g59 := h6.cell g51 (by simp); have f59 := (World.frozen?_of_block (a := ⟨G, 5, none⟩) (h6.block _ hGr (by simp))).trans gf1; have H6 := Lib.hid h6; have HT := Lib.hid hT; have HTF := Lib.hid hTf; clear h5 h6 hT hTf)
 all_goals
  go_wp2_with fail
  exact bodyPost_end (v := .tuple #[]) (results_none rfl _ _ _) rfl ⟨rfl, T, ca, AL, cl, begun_end hG (HB2.out.trans (HB1.out.mono hsz2)) H6.out hT1 hT2 hc1 hc2 HT.out HTF.out HL.out HAL.out hsz2 g59⟩
/- Contract of the reference's CalledOf at the law's world. -/
def zWorld : Value := .agg #[.slice none 0 0, .slice none 0 0, .slice none 0 0, .slice none 0 0, .int .i64 0]
def CdPost (o : Nat) (x : Px) (w : World) (r : End) (e : Ending) (w' : World) : Prop := match r with
 | .ok (y, hp) => ∃ F fc A len cap, e = .returned (.tuple #[.agg #[.slice F 2 fc, .slice none 0 0, .slice none 0 0, .slice A len cap, .int .i64 60000], y.agg, .int .i64 0]) /\ WIn hp y /\ FnsAt w' F fc o x /\ HpAt w' A len cap hp /\ Below w.heap.size w w'
 | .error er => e = .returned (.tuple #[zWorld, noW.agg, .int .i64 er]) /\ Below w.heap.size w w'
theorem Tur.new {w0 w w1 : World} {G T : Nat} (h : Tur w0 w G T) (hb : Below w1.heap.size w1 w0) (hG : w1.heap.size <= G) (hT : w1.heap.size <= T) : Below w1.heap.size w1 w :=
 ⟨h.os.trans hb.os, h.tape.trans hb.tape, h.output.trans hb.output, Nat.le_trans hb.size h.size, fun b hl => (h.block b (Nat.lt_of_lt_of_le hl hb.size) (by omega) (by omega)).trans (hb.block b hl)⟩
theorem WdsAt.tur {w0 w : World} {G T : Nat} {A : Option Addr} {len cap : Nat} {ws : List Wd} (h : WdsAt w0 A len cap ws) (ht : Tur w0 w G T) (ha : ∀ b, inSl A len b -> b ≠ G /\ b ≠ T) : WdsAt w A len cap ws :=
 ⟨h.size, h.le, h.cap_, fun h0 => by
  obtain ⟨b, o, rfl, hl, hc⟩ := h.at_ h0
  obtain ⟨n1, n2⟩ := ha b ⟨_, rfl, h0, rfl⟩
  have hb : w.heap[b]? = w0.heap[b]? := ht.block b hl n1 n2
  refine ⟨b, o, rfl, Nat.lt_of_lt_of_le hl ht.size, fun i hi => ?_⟩
  obtain ⟨c0, c1, c2⟩ := hc i hi
  exact ⟨by rw [World.cell?_of_block (a := ⟨b, _, none⟩) hb]; exact c0, by rw [World.cell?_of_block (a := ⟨b, _, none⟩) hb]; exact c1, by rw [World.cell?_of_block (a := ⟨b, _, none⟩) hb]; exact c2⟩⟩
theorem path_err {o : Nat} {x : Px} (hx : PxW o x) {L : List Wd} {s : SE} {r : End} (h : Path (codeOf x) L s r) : ∀ er, r = .error er -> er ≠ 0 := by
 induction h with
 | next _ _ ih => exact ih
 | stop h =>
  intro er he
  subst he
  cases h with
  | primE h hl hn hr =>
   have hmem := List.mem_of_getElem? h
   have har := (prim_ar (prims_of x hx true 0 _ _ hmem).1).1
   exact primW_err (by rw [har, hl]) hr
structure Two (w w' : World) (p q : Nat) : Prop where
 os : w'.os = w.os
 tape : w'.tape = w.tape
 output : w'.output = w.output
 size : w.heap.size <= w'.heap.size
 block : ∀ b, b < w.heap.size -> b ≠ p -> b ≠ q -> w'.heap[b]? = w.heap[b]?
theorem Two.refl (w : World) (p q : Nat) : Two w w p q := ⟨rfl, rfl, rfl, Nat.le_refl _, fun _ _ _ _ => rfl⟩
theorem Two.grown {w w' w'' : World} {p q g : Nat} (h : Two w w' p q) (hg : w'.grownBy w'' (some g)) (hp : g = p \/ g = q) : Two w w'' p q :=
 ⟨hg.os.trans h.os, hg.tape.trans h.tape, hg.output.trans h.output, Nat.le_trans h.size hg.size, fun b hl h1 h2 => (hg.block b (Nat.lt_of_lt_of_le hl h.size) (fun e => by have := Option.some.inj e; rcases hp with hp | hp <;> omega)).trans (h.block b hl h1 h2)⟩
theorem Two.set {w w' : World} {p q g j : Nat} {v : Value} (h : Two w w' p q) (hp : g = p \/ g = q) : Two w (w'.setCell ⟨g, j, none⟩ v) p q := h.grown (zd w' g j v) hp
theorem Two.drew {w w' : World} {p q : Nat} (h : Two w w' p q) : Two w w'.drew p q := ⟨h.os, h.tape, h.output, h.size, h.block⟩
theorem Two.below {w w' : World} {p q n : Nat} (h : Two w w' p q) (hn : n <= w.heap.size) (hp : n <= p) (hq : n <= q) : Below n w w' :=
 ⟨h.os, h.tape, h.output, h.size, fun b hl => h.block b (by omega) (by omega) (by omega)⟩
section
variable {w w' : World} {p q : Nat}
theorem Two.big (h : Two w w' p q) (hp : ∀ j, 5 <= j -> w.cell? ⟨p, j, none⟩ = none) (hq : ∀ j, 5 <= j -> w.cell? ⟨q, j, none⟩ = none) {b j : Nat} {v : Value} (hl : b < w.heap.size) (hj : 5 <= j) (hc : w.cell? ⟨b, j, none⟩ = some v) : w'.heap[b]? = w.heap[b]? :=
 h.block b hl (fun e => by subst e; rw [hp j hj] at hc; cases hc) (fun e => by subst e; rw [hq j hj] at hc; cases hc)
theorem InsAt.two {A : Option Addr} {n c : Nat} {C : List IV} (x : InsAt w A n c C) (h : Two w w' p q) (hp : ∀ j, 5 <= j -> w.cell? ⟨p, j, none⟩ = none) (hq : ∀ j, 5 <= j -> w.cell? ⟨q, j, none⟩ = none) : InsAt w' A n c C :=
 ⟨x.size, x.le, x.cap_, fun h0 => by
  obtain ⟨b, o, hA, hl, hc⟩ := x.at_ h0
  obtain ⟨y, hy⟩ : ∃ y, C[0]? = some y := ⟨_, List.getElem?_eq_getElem (by have := x.size; omega)⟩
  obtain ⟨b2, o2, hA2, _, _, _, _, _, _, _, _, _, c7⟩ := x.nth hy
  rw [hA] at hA2
  cases hA2
  have hb := h.big hp hq hl (by omega) c7
  exact ⟨b, o, hA, Nat.lt_of_lt_of_le hl h.size, fun i hi j hj => by rw [World.cell?_of_block (a := ⟨b, _, none⟩) hb]; exact hc i hi j hj⟩⟩
theorem FnsAt.two {F : Option Addr} {fc o : Nat} {x : Px} (y : FnsAt w F fc o x) (h : Two w w' p q) (hp : ∀ j, 5 <= j -> w.cell? ⟨p, j, none⟩ = none) (hq : ∀ j, 5 <= j -> w.cell? ⟨q, j, none⟩ = none) : FnsAt w' F fc o x := by
 obtain ⟨h1, h2, b, p', A, n, c, A', n', c', hF, hl, ⟨a0, a1, a2, a3⟩, ⟨a4, a5, a6, a7⟩, i1, i2⟩ := y
 have hb := h.big hp hq hl (by omega) a7
 have k : ∀ {j v}, w.cell? ⟨b, j, none⟩ = some v -> w'.cell? ⟨b, j, none⟩ = some v := fun {j v} hv => (World.cell?_of_block (a := ⟨b, j, none⟩) hb).trans hv
 exact ⟨h1, h2, b, p', A, n, c, A', n', c', hF, Nat.lt_of_lt_of_le hl h.size, ⟨k a0, k a1, k a2, k a3⟩, ⟨k a4, k a5, k a6, k a7⟩, i1.two h hp hq, i2.two h hp hq⟩
theorem HpAt.two {A : Option Addr} {len cap : Nat} {hp' : Hp} (y : HpAt w A len cap hp') (h : Two w w' p q) (hp : ∀ j, 5 <= j -> w.cell? ⟨p, j, none⟩ = none) (hq : ∀ j, 5 <= j -> w.cell? ⟨q, j, none⟩ = none) : HpAt w' A len cap hp' :=
 ⟨⟨y.wds.size, y.wds.le, y.wds.cap_, fun h0 => by
  obtain ⟨b, o, hA, hl, hc⟩ := y.wds.at_ h0
  obtain ⟨_, _, c2⟩ := hc 1 (by rw [flat_len]; omega)
  have hb := h.big hp hq hl (by omega) c2
  exact ⟨b, o, hA, Nat.lt_of_lt_of_le hl h.size, fun i hi => by
   obtain ⟨d0, d1, d2⟩ := hc i hi
   exact ⟨by rw [World.cell?_of_block (a := ⟨b, _, none⟩) hb]; exact d0, by rw [World.cell?_of_block (a := ⟨b, _, none⟩) hb]; exact d1, by rw [World.cell?_of_block (a := ⟨b, _, none⟩) hb]; exact d2⟩⟩⟩, y.ok, y.small⟩
end
theorem go_ready {v6 v10 v11 v0 : World} {G T o fc ca cl len cap : Nat} {F A AL : Option Addr} {x : Px} {L : List Wd} (hGs : v6.heap.size = G) (hF : FnsAt v6 F fc o x) (hb : Below v6.heap.size v6 v10) (hlG : G < v10.heap.size)
  (kg : v10.cell? ⟨G, 0, none⟩ = some (.slice F 2 fc) /\ v10.cell? ⟨G, 1, none⟩ = some (.slice none 0 0) /\ v10.cell? ⟨G, 2, none⟩ = some (.slice none 0 0) /\ v10.cell? ⟨G, 3, none⟩ = some (.slice A len cap) /\ v10.cell? ⟨G, 4, none⟩ = some (.int .i64 60000) /\ v10.cell? ⟨G, 5, none⟩ = some (.slice none 0 0) /\ v10.cell? ⟨G, 6, none⟩ = some (.int .i64 20000) /\ v10.cell? ⟨G, 7, none⟩ = some (.bool false) /\ ∀ j, v10.frozen? ⟨G, j, none⟩ = false)
  (hA : WdsAt v6 A len cap (flat [])) (hbeg : Begun v10 v11 G o L T ca AL cl) (hw0 : v11.alloc (.cells #[.int .i64 0, .int .i64 0, .string ⟨#[]⟩] 49) = v0) :
  EC.Ok ⟨v0, G, T, F, fc, ca, AL, o, cl, o, x, L⟩ /\ Eng ⟨v0, G, T, F, fc, ca, AL, o, cl, o, x, L⟩ v0 0 [] [] 20000 A len cap (.slice none 0 0) /\ (∀ w, Tur v0 w G T -> Below v6.heap.size v6 w) := by
 have h0 : Below v11.heap.size v11 v0 := by rw [<- hw0]; exact (Below.refl _ _).alloc (Nat.le_refl _) _
 have hs0 := h0.size
 have hn := hbeg.new
 have hlt := hbeg.lt
 have hgs := hbeg.grown.size
 have hbs := hb.size
 have h6 : Below v6.heap.size v6 v11 := ⟨hbeg.grown.os.trans hb.os, hbeg.grown.tape.trans hb.tape, hbeg.grown.output.trans hb.output, Nat.le_trans hb.size hgs, fun b hl => (hbeg.grown.block b (Nat.lt_of_lt_of_le hl hb.size) (fun e => by have := Option.some.inj e; omega)).trans (hb.block b hl)⟩
 have h60 : Below v6.heap.size v6 v0 := h6.trans (h0.mono h6.size)
 have ht : ∀ w, Tur v0 w G T -> Below v6.heap.size v6 w := fun w hw => hw.new h60 (by omega) (by omega)
 have hG1 : G < v11.heap.size := by omega
 have kG : ∀ j, j ≠ 5 -> v0.cell? ⟨G, j, none⟩ = v10.cell? ⟨G, j, none⟩ := fun j hj => (h0.cell (p := ⟨G, j, none⟩) hG1).trans (hbeg.gk j hj)
 have kT : ∀ j, v0.cell? ⟨T, j, none⟩ = v11.cell? ⟨T, j, none⟩ := fun j => h0.cell (p := ⟨T, j, none⟩) hlt
 obtain ⟨g0, g1, g2, g3, g4, g5, g6, g7, gf⟩ := kg
 have hloc := hbeg.loc.below h0
 refine ⟨⟨by show G < v0.heap.size; omega, by show T < v0.heap.size; omega, by show G ≠ T; omega, hbeg.ca1, hbeg.ca2, fun w hw => hF.below (ht w hw), fun w hw => hloc.tur hw (fun b hb2 => ?_)⟩, ⟨Tur.refl _ _ _, (kG 0 (by decide)).trans g0, (kG 1 (by decide)).trans g1, (kG 2 (by decide)).trans g2, (kG 3 (by decide)).trans g3, (kG 4 (by decide)).trans g4, (h0.cell (p := ⟨G, 5, none⟩) hG1).trans hbeg.g5, (kG 6 (by decide)).trans g6, (kG 7 (by decide)).trans g7,
  fun j => (h0.frozen (p := ⟨G, j, none⟩) hG1).trans ((hbeg.gf j).trans (gf j)), (kT 0).trans hbeg.t0, (kT 1).trans hbeg.t1, (kT 5).trans hbeg.t5, (kT 6).trans hbeg.t6, fun j => (h0.frozen (p := ⟨T, j, none⟩) hlt).trans (hbeg.tf j), hA.below h60, fun b hb2 => ?_, OwnAt.start _ _ _ _⟩, ht⟩
 ·
  obtain ⟨k1, k2⟩ := hbeg.apart b hb2
  exact ⟨by show b ≠ G; omega, k2⟩
 have h1 := hA.lt hb2
 exact ⟨by show b ≠ G; omega, by show b ≠ T; omega, by simp [Value.ownBlock]⟩
structure Out8 (w w' : World) (p q : Nat) (v0 v1 v2 v3 v4 u0 u1 u2 : Value) : Prop where
 a0 : w'.cell? ⟨p, 0, none⟩ = some v0
 a1 : w'.cell? ⟨p, 1, none⟩ = some v1
 a2 : w'.cell? ⟨p, 2, none⟩ = some v2
 a3 : w'.cell? ⟨p, 3, none⟩ = some v3
 a4 : w'.cell? ⟨p, 4, none⟩ = some v4
 b0 : w'.cell? ⟨q, 0, none⟩ = some u0
 b1 : w'.cell? ⟨q, 1, none⟩ = some u1
 b2 : w'.cell? ⟨q, 2, none⟩ = some u2
 two : Two w w' p q
theorem out8_ab {w : World} {p q : Nat} (v0 v1 v2 v3 v4 u0 u1 u2 : Value) {x0 x1 x2 x3 x4 y0 y1 y2 : Value} (hpq : p ≠ q) (a0 : w.cell? ⟨p, 0, none⟩ = some x0) (a1 : w.cell? ⟨p, 1, none⟩ = some x1) (a2 : w.cell? ⟨p, 2, none⟩ = some x2) (a3 : w.cell? ⟨p, 3, none⟩ = some x3) (a4 : w.cell? ⟨p, 4, none⟩ = some x4) (b0 : w.cell? ⟨q, 0, none⟩ = some y0) (b1 : w.cell? ⟨q, 1, none⟩ = some y1) (b2 : w.cell? ⟨q, 2, none⟩ = some y2) :
  Out8 w ((((((((w.setCell ⟨p, 0, none⟩ v0).setCell ⟨p, 1, none⟩ v1).setCell ⟨p, 2, none⟩ v2).setCell ⟨p, 3, none⟩ v3).setCell ⟨p, 4, none⟩ v4).setCell ⟨q, 0, none⟩ u0).setCell ⟨q, 1, none⟩ u1).setCell ⟨q, 2, none⟩ u2) p q v0 v1 v2 v3 v4 u0 u1 u2 :=
 have hqp := hpq.symm
 ⟨set_otherB (set_otherB (set_otherB (zg (zg (zg (zg (zh (a0)) (by decide)) (by decide)) (by decide)) (by decide)) hpq) hpq) hpq,
  set_otherB (set_otherB (set_otherB (zg (zg (zg (zh (zg (a1) (by decide))) (by decide)) (by decide)) (by decide)) hpq) hpq) hpq,
  set_otherB (set_otherB (set_otherB (zg (zg (zh (zg (zg (a2) (by decide)) (by decide))) (by decide)) (by decide)) hpq) hpq) hpq,
  set_otherB (set_otherB (set_otherB (zg (zh (zg (zg (zg (a3) (by decide)) (by decide)) (by decide))) (by decide)) hpq) hpq) hpq,
  set_otherB (set_otherB (set_otherB (zh (zg (zg (zg (zg (a4) (by decide)) (by decide)) (by decide)) (by decide))) hpq) hpq) hpq,
  zg (zg (zh (set_otherB (set_otherB (set_otherB (set_otherB (set_otherB (b0) hqp) hqp) hqp) hqp) hqp)) (by decide)) (by decide),
  zg (zh (zg (set_otherB (set_otherB (set_otherB (set_otherB (set_otherB (b1) hqp) hqp) hqp) hqp) hqp) (by decide))) (by decide),
  zh (zg (zg (set_otherB (set_otherB (set_otherB (set_otherB (set_otherB (b2) hqp) hqp) hqp) hqp) hqp) (by decide)) (by decide)),
  Two.set (Two.set (Two.set (Two.set (Two.set (Two.set (Two.set (Two.set (Two.refl _ _ _) (Or.inl rfl)) (Or.inl rfl)) (Or.inl rfl)) (Or.inl rfl)) (Or.inl rfl)) (Or.inr rfl)) (Or.inr rfl)) (Or.inr rfl)⟩
set_option maxHeartbeats 8000000 in
theorem calledOf_any {w : World} {F : Option Addr} {fc o : Nat} {x : Px} {A : Option Addr} {len cap : Nat} {AA : Option Addr} {cA : Nat} {L : List Wd} {r : End} (hF : FnsAt w F fc o x) (hA : HpAt w A len cap []) (hx : PxW o x) (ho : o <= 6) (hlen : (codeOf x).length <= 6000) (hL : WdsAt w AA o cA L) (hLok : ∀ y ∈ L, WOk y) (hpath : Path (codeOf x) L ⟨0, [], []⟩ r) :
  Calls Tryz.prog 9 #[.agg #[.slice F 2 fc, .slice none 0 0, .slice none 0 0, .slice A len cap, .int .i64 60000], .agg #[.int .i64 5, .int .i64 0, .string ⟨#[]⟩], .slice AA o cA, .int .i64 20000] w (CdPost o x w r) := by
 obtain ⟨w1, hw1⟩ : ∃ w1, w.alloc (.cells #[.slice F 2 fc, .slice none 0 0, .slice none 0 0, .slice A len cap, .int .i64 60000] 46) = w1 := ⟨_, rfl⟩
 have bw1 : Below w.heap.size w w1 := by rw [<- hw1]; exact (Below.refl _ _).alloc (Nat.le_refl _) _
 have lw1 : w.heap.size < w1.heap.size := by rw [<- hw1]; simp
 have sw1 : w1.heap.size = w.heap.size + 1 := by rw [<- hw1]; simp
 have z00 : w1.cell? ⟨w.heap.size, 0, none⟩ = some (.slice F 2 fc) := by rw [<- hw1]; exact za _ _ _ 0
 have z01 : w1.cell? ⟨w.heap.size, 1, none⟩ = some (.slice none 0 0) := by rw [<- hw1]; exact za _ _ _ 1
 have z02 : w1.cell? ⟨w.heap.size, 2, none⟩ = some (.slice none 0 0) := by rw [<- hw1]; exact za _ _ _ 2
 have z03 : w1.cell? ⟨w.heap.size, 3, none⟩ = some (.slice A len cap) := by rw [<- hw1]; exact za _ _ _ 3
 have z04 : w1.cell? ⟨w.heap.size, 4, none⟩ = some (.int .i64 60000) := by rw [<- hw1]; exact za _ _ _ 4
 obtain ⟨w2, hw2⟩ : ∃ w2, w1.alloc (.cells #[.int .i64 5, .int .i64 0, .string ⟨#[]⟩] 49) = w2 := ⟨_, rfl⟩
 have bw2 : Below w1.heap.size w1 w2 := by rw [<- hw2]; exact (Below.refl _ _).alloc (Nat.le_refl _) _
 have lw2 : w1.heap.size < w2.heap.size := by rw [<- hw2]; simp
 have sw2 : w2.heap.size = w1.heap.size + 1 := by rw [<- hw2]; simp
 have z10 : w2.cell? ⟨w1.heap.size, 0, none⟩ = some (.int .i64 5) := by rw [<- hw2]; exact za _ _ _ 0
 have z11 : w2.cell? ⟨w1.heap.size, 1, none⟩ = some (.int .i64 0) := by rw [<- hw2]; exact za _ _ _ 1
 have z12 : w2.cell? ⟨w1.heap.size, 2, none⟩ = some (.string ⟨#[]⟩) := by rw [<- hw2]; exact za _ _ _ 2
 obtain ⟨w3, hw3⟩ : ∃ w3, w2.alloc (.cells #[.slice none 0 0, .slice none 0 0, .slice none 0 0, .slice none 0 0, .int .i64 0] 46) = w3 := ⟨_, rfl⟩
 have bw3 : Below w2.heap.size w2 w3 := by rw [<- hw3]; exact (Below.refl _ _).alloc (Nat.le_refl _) _
 have lw3 : w2.heap.size < w3.heap.size := by rw [<- hw3]; simp
 have sw3 : w3.heap.size = w2.heap.size + 1 := by rw [<- hw3]; simp
 have z20 : w3.cell? ⟨w2.heap.size, 0, none⟩ = some (.slice none 0 0) := by rw [<- hw3]; exact za _ _ _ 0
 have z21 : w3.cell? ⟨w2.heap.size, 1, none⟩ = some (.slice none 0 0) := by rw [<- hw3]; exact za _ _ _ 1
 have z22 : w3.cell? ⟨w2.heap.size, 2, none⟩ = some (.slice none 0 0) := by rw [<- hw3]; exact za _ _ _ 2
 have z23 : w3.cell? ⟨w2.heap.size, 3, none⟩ = some (.slice none 0 0) := by rw [<- hw3]; exact za _ _ _ 3
 have z24 : w3.cell? ⟨w2.heap.size, 4, none⟩ = some (.int .i64 0) := by rw [<- hw3]; exact za _ _ _ 4
 have zf2 : ∀ j, w3.frozen? ⟨w2.heap.size, j, none⟩ = false := by intro j; rw [<- hw3]; exact ze _ _ _ _
 obtain ⟨wb, hwb⟩ : ∃ wb, w3.alloc (.cells #[.int .i64 0, .int .i64 0, .string ⟨#[]⟩] 49) = wb := ⟨_, rfl⟩
 have bwb : Below w3.heap.size w3 wb := by rw [<- hwb]; exact (Below.refl _ _).alloc (Nat.le_refl _) _
 have lwb : w3.heap.size < wb.heap.size := by rw [<- hwb]; simp
 have swb : wb.heap.size = w3.heap.size + 1 := by rw [<- hwb]; simp
 have z30 : wb.cell? ⟨w3.heap.size, 0, none⟩ = some (.int .i64 0) := by rw [<- hwb]; exact za _ _ _ 0
 have z31 : wb.cell? ⟨w3.heap.size, 1, none⟩ = some (.int .i64 0) := by rw [<- hwb]; exact za _ _ _ 1
 have z32 : wb.cell? ⟨w3.heap.size, 2, none⟩ = some (.string ⟨#[]⟩) := by rw [<- hwb]; exact za _ _ _ 2
 have zf3 : ∀ j, wb.frozen? ⟨w3.heap.size, j, none⟩ = false := by intro j; rw [<- hwb]; exact ze _ _ _ _
 have b3b := bwb
 have b2b := bw3.trans (b3b.mono bw3.size)
 have b1b := bw2.trans (b2b.mono bw2.size)
 have b0b := bw1.trans (b1b.mono bw1.size)
 have HB := Lib.hid b0b
 have q0 : w.heap.size < wb.heap.size := by omega
 have e0 := Lib.hid b1b
 have q1 : w1.heap.size < wb.heap.size := by omega
 have e1 := Lib.hid b2b
 have q2 : w2.heap.size < wb.heap.size := by omega
 have e2 := Lib.hid b3b
 have q3 : w3.heap.size < wb.heap.size := by omega
 have K0 := Lib.hid (show ∀ W, Below wb.heap.size wb W -> W.cell? ⟨w.heap.size, 0, none⟩ = some (.slice F 2 fc) /\ W.cell? ⟨w.heap.size, 1, none⟩ = some (.slice none 0 0) /\ W.cell? ⟨w.heap.size, 2, none⟩ = some (.slice none 0 0) /\ W.cell? ⟨w.heap.size, 3, none⟩ = some (.slice A len cap) /\ W.cell? ⟨w.heap.size, 4, none⟩ = some (.int .i64 60000) from fun W hW => ⟨(hW.cell (p := ⟨w.heap.size, 0, none⟩) q0).trans ((b1b.cell (p := ⟨w.heap.size, 0, none⟩) lw1).trans z00), (hW.cell (p := ⟨w.heap.size, 1, none⟩) q0).trans ((b1b.cell (p := ⟨w.heap.size, 1, none⟩) lw1).trans z01), (hW.cell (p := ⟨w.heap.size, 2, none⟩) q0).trans ((b1b.cell (p := ⟨w.heap.size, 2, none⟩) lw1).trans z02), (hW.cell (p := ⟨w.heap.size, 3, none⟩) q0).trans ((b1b.cell (p := ⟨w.heap.size, 3, none⟩) lw1).trans z03), (hW.cell (p := ⟨w.heap.size, 4, none⟩) q0).trans ((b1b.cell (p := ⟨w.heap.size, 4, none⟩) lw1).trans z04)⟩)
 have K1 := Lib.hid (show ∀ W, Below wb.heap.size wb W -> W.cell? ⟨w1.heap.size, 0, none⟩ = some (.int .i64 5) /\ W.cell? ⟨w1.heap.size, 1, none⟩ = some (.int .i64 0) /\ W.cell? ⟨w1.heap.size, 2, none⟩ = some (.string ⟨#[]⟩) from fun W hW => ⟨(hW.cell (p := ⟨w1.heap.size, 0, none⟩) q1).trans ((b2b.cell (p := ⟨w1.heap.size, 0, none⟩) lw2).trans z10), (hW.cell (p := ⟨w1.heap.size, 1, none⟩) q1).trans ((b2b.cell (p := ⟨w1.heap.size, 1, none⟩) lw2).trans z11), (hW.cell (p := ⟨w1.heap.size, 2, none⟩) q1).trans ((b2b.cell (p := ⟨w1.heap.size, 2, none⟩) lw2).trans z12)⟩)
 have K2 := Lib.hid (show ∀ W, Below wb.heap.size wb W -> W.cell? ⟨w2.heap.size, 0, none⟩ = some (.slice none 0 0) /\ W.cell? ⟨w2.heap.size, 1, none⟩ = some (.slice none 0 0) /\ W.cell? ⟨w2.heap.size, 2, none⟩ = some (.slice none 0 0) /\ W.cell? ⟨w2.heap.size, 3, none⟩ = some (.slice none 0 0) /\ W.cell? ⟨w2.heap.size, 4, none⟩ = some (.int .i64 0) from fun W hW => ⟨(hW.cell (p := ⟨w2.heap.size, 0, none⟩) q2).trans ((b3b.cell (p := ⟨w2.heap.size, 0, none⟩) lw3).trans z20), (hW.cell (p := ⟨w2.heap.size, 1, none⟩) q2).trans ((b3b.cell (p := ⟨w2.heap.size, 1, none⟩) lw3).trans z21), (hW.cell (p := ⟨w2.heap.size, 2, none⟩) q2).trans ((b3b.cell (p := ⟨w2.heap.size, 2, none⟩) lw3).trans z22), (hW.cell (p := ⟨w2.heap.size, 3, none⟩) q2).trans ((b3b.cell (p := ⟨w2.heap.size, 3, none⟩) lw3).trans z23), (hW.cell (p := ⟨w2.heap.size, 4, none⟩) q2).trans ((b3b.cell (p := ⟨w2.heap.size, 4, none⟩) lw3).trans z24)⟩)
 have K3 := Lib.hid (show ∀ W, Below wb.heap.size wb W -> W.cell? ⟨w3.heap.size, 0, none⟩ = some (.int .i64 0) /\ W.cell? ⟨w3.heap.size, 1, none⟩ = some (.int .i64 0) /\ W.cell? ⟨w3.heap.size, 2, none⟩ = some (.string ⟨#[]⟩) from fun W hW => ⟨(hW.cell (p := ⟨w3.heap.size, 0, none⟩) q3).trans z30, (hW.cell (p := ⟨w3.heap.size, 1, none⟩) q3).trans z31, (hW.cell (p := ⟨w3.heap.size, 2, none⟩) q3).trans z32⟩)
 have KF2 := Lib.hid (show ∀ W, Below wb.heap.size wb W -> ∀ j, W.frozen? ⟨w2.heap.size, j, none⟩ = false from fun W hW j => (hW.frozen (p := ⟨w2.heap.size, j, none⟩) q2).trans ((b3b.frozen (p := ⟨w2.heap.size, j, none⟩) lw3).trans (zf2 j)))
 have KF3 := Lib.hid (show ∀ W, Below wb.heap.size wb W -> ∀ j, W.frozen? ⟨w3.heap.size, j, none⟩ = false from fun W hW j => (hW.frozen (p := ⟨w3.heap.size, j, none⟩) q3).trans (zf3 j))
 have zn2 : ∀ j, 5 <= j -> w3.cell? ⟨w2.heap.size, j, none⟩ = none := fun j hj => by rw [<- hw3, za]; simp; omega
 have zn3 : ∀ j, 5 <= j -> wb.cell? ⟨w3.heap.size, j, none⟩ = none := fun j hj => by rw [<- hwb, za]; simp; omega
 have KN := Lib.hid (show ∀ W, Below wb.heap.size wb W -> (∀ j, 5 <= j -> W.cell? ⟨w2.heap.size, j, none⟩ = none) /\ (∀ j, 5 <= j -> W.cell? ⟨w3.heap.size, j, none⟩ = none) from fun W hW => ⟨fun j hj => (hW.cell (p := ⟨w2.heap.size, j, none⟩) q2).trans ((b3b.cell (p := ⟨w2.heap.size, j, none⟩) lw3).trans (zn2 j hj)), fun j hj => (hW.cell (p := ⟨w3.heap.size, j, none⟩) q3).trans (zn3 j hj)⟩)
 rw [sw1] at K1
 have sw12 : w2.heap.size = w.heap.size + 1 + 1 := by rw [sw2, sw1]
 have sw13 : w3.heap.size = w.heap.size + 1 + 1 + 1 := by rw [sw3, sw12]
 have sw1b : wb.heap.size = w.heap.size + 1 + 1 + 1 + 1 := by rw [swb, sw13]
 rw [sw12] at K2 KF2 KN
 rw [sw13] at K3 KF3 KN
 have HF := Lib.hid (show ∀ W, Below wb.heap.size wb W -> FnsAt W F fc o x from fun W hW => hF.below (b0b.trans (hW.mono b0b.size)))
 have HA := Lib.hid (show ∀ W, Below wb.heap.size wb W -> HpAt W A len cap [] from fun W hW => hA.below (b0b.trans (hW.mono b0b.size)))
 have HL := Lib.hid (show ∀ W, Below wb.heap.size wb W -> WdsAt W AA o cA L from fun W hW => hL.below (b0b.trans (hW.mono b0b.size)))
 have HX := Lib.hid (And.intro hx (And.intro hlen (And.intro hLok hpath)))
 have hll : L.length = o := hL.size
 have hlc : o <= cA := hL.le
 have hcc := hL.cap_
 have hcA : cA <= 9223372036854775807 := by unfold maxLen at hcc; omega
 have hlen6 : len <= 60000 := hA.small
 obtain ⟨fb, fp, rfl, hfc, hfc2, HF0⟩ : ∃ fb fp, F = some ⟨fb, fp, none⟩ /\ 2 <= fc /\ fc <= 9223372036854775807 /\ Hid (∀ W, Below wb.heap.size wb W -> W.cell? ⟨fb, fp, none⟩ = some (.int .i64 o)) := by
  obtain ⟨h1, h2, fb, fp, A1, n1, c1, A2, n2, c2, rfl, hl, ⟨a0, _⟩, _⟩ := hF
  exact ⟨fb, fp, rfl, h1, by unfold maxLen at h2; omega, Lib.hid (fun W hW => ((b0b.trans (hW.mono b0b.size)).cell (p := ⟨fb, fp, none⟩) hl).trans a0)⟩
 have Hw1 := Lib.hid hw1
 have Hw2 := Lib.hid hw2
 have Hw3 := Lib.hid hw3
 have Hwb := Lib.hid hwb
 clear hF hA hx hlen hL hLok hpath hcc hw1 hw2 hw3 hwb bw1 bw2 bw3 bwb b3b b2b b1b b0b lw1 lw2 lw3 lwb z00 z01 z02 z03 z04 z10 z11 z12 z20 z21 z22 z23 z24 z30 z31 z32 zf2 zf3 zn2 zn3
 go_enter Tryz.func9, Tryz.ntmps9
 go_upto_region 1 with fail
 rw [Hw1.out, Hw2.out, Hw3.out, Hwb.out]
 obtain ⟨x00, x01, x02, x03, x04⟩ := K0.out wb (Below.refl _ _)
 go_wp2_with fail
 refine (worldMay_any (HF.out wb (Below.refl _ _)) (HA.out wb (Below.refl _ _)) HX.out.1 ho HX.out.2.1).mono ?_
 rintro e w4 ⟨rfl, hb4⟩
 have HB4 := Lib.hid hb4
 obtain ⟨x40, x41, x42, x43, x44⟩ := K0.out w4 hb4
 obtain ⟨y40, y41, y42⟩ := K1.out w4 hb4
 clear hb4 x00 x01 x02 x03 x04
 have hin : inB 20000 0 20000 = true := by decide
 go_wp2_with (go_at_call 14; refine (in_any _ _ _ _).mono ?_; rintro e w' ⟨rfl, rfl⟩; rw [hin])
 refine (valueMay_any (HA.out w4 HB4.out).wds (by omega) 60000 ⟨5, 0, ⟨#[]⟩⟩ (Or.inr rfl)).mono ?_
 rintro e w5 ⟨rfl, hb5⟩
 have HB5 := Lib.hid (HB4.out.trans (hb5.mono HB4.out.size))
 clear hb5 x40 x41 x42 x43 x44 y40 y41 y42
 go_wp2_with fail
 go_loopg [11, 12] o (fun g ok i wr => ∃ k : Nat, g = o - k /\ k <= o /\ ok = .bool true /\ i = .int .i64 k /\ Below wb.heap.size wb wr)
 case atStart => exact ⟨0, by omega, by omega, rfl, rfl, HB5.out⟩
 obtain ⟨k, hg, hk, rfl, rfl, hbr⟩ := hrel
 have HG := Lib.hid hg
 have HBR := Lib.hid hbr
 obtain ⟨x0, x1, x2, x3, x4⟩ := K0.out wr hbr
 clear hg hbr
 have hko : (k : Int) < (o : Int) \/ o = k := by omega
 rcases hko with hko | rfl
 ·
  have hks : k < L.length := by omega
  obtain ⟨ab, ao, rfl, habw, _, v0, v1, v2⟩ := (HL.out wr HBR.out).nth (List.getElem?_eq_getElem hks)
  have hk0 : (0 : Int) <= (k : Int) := by omega
  have hkc : (k : Int) < (cA : Int) := by omega
  have hyo : VOk [] L[k] := Or.inl (Or.inl (HX.out.2.2.1 _ (List.getElem_mem hks)))
  generalize L[k] = y at v0 v1 v2 hyo
  have KV := Lib.hid (fun (W : World) (hW : Below wr.heap.size wr W) => valueMay_any ((HA.out wr HBR.out).wds.below hW) (by omega) 60000 y hyo)
  clear hyo
  go_wp2_with fail
  go_region_with (refine (KV.out _ ((Below.refl _ _).drew)).mono ?_; rintro e w6 ⟨rfl, hb6⟩; have HB6 := Lib.hid (HBR.out.trans (((Below.refl wr.heap.size wr).drew.trans hb6).mono HBR.out.size)); clear hb6)
  all_goals
   go_wp2_with fail
   go_roundg (o - (k + 1))
   case rel => exact ⟨k + 1, rfl, by omega, rfl, by go_num, HB6.out⟩
   case measure => have := HG.out; omega
 clear hk
 go_wp2_with fail
 refine (worldCopy_any 60000 (HF.out wr HBR.out) (HA.out wr HBR.out).wds (by omega) HX.out.2.1).mono ?_
 rintro e w4' ⟨F', fc', A', cap', rfl, hF', hA', hb6⟩
 obtain ⟨w7, hw7⟩ : ∃ w7, w4'.alloc (.cells #[.slice F' 2 fc', .slice none 0 0, .slice none 0 0, .slice A' len cap', .int .i64 60000, .slice none 0 0, .int .i64 20000, .bool false] 84) = w7 := ⟨_, rfl⟩
 have hb67 : Below w4'.heap.size w4' w7 := by rw [<- hw7]; exact (Below.refl _ _).alloc (Nat.le_refl _) _
 have l7 : w4'.heap.size < w7.heap.size := by rw [<- hw7]; simp
 have g0 : w7.cell? ⟨w4'.heap.size, 0, none⟩ = some (.slice F' 2 fc') := by rw [<- hw7]; exact za _ _ _ 0
 have g1 : w7.cell? ⟨w4'.heap.size, 1, none⟩ = some (.slice none 0 0) := by rw [<- hw7]; exact za _ _ _ 1
 have g2 : w7.cell? ⟨w4'.heap.size, 2, none⟩ = some (.slice none 0 0) := by rw [<- hw7]; exact za _ _ _ 2
 have g3 : w7.cell? ⟨w4'.heap.size, 3, none⟩ = some (.slice A' len cap') := by rw [<- hw7]; exact za _ _ _ 3
 have g4 : w7.cell? ⟨w4'.heap.size, 4, none⟩ = some (.int .i64 60000) := by rw [<- hw7]; exact za _ _ _ 4
 have g5 : w7.cell? ⟨w4'.heap.size, 5, none⟩ = some (.slice none 0 0) := by rw [<- hw7]; exact za _ _ _ 5
 have g6 : w7.cell? ⟨w4'.heap.size, 6, none⟩ = some (.int .i64 20000) := by rw [<- hw7]; exact za _ _ _ 6
 have g7 : w7.cell? ⟨w4'.heap.size, 7, none⟩ = some (.bool false) := by rw [<- hw7]; exact za _ _ _ 7
 have gf : ∀ j, w7.frozen? ⟨w4'.heap.size, j, none⟩ = false := by intro j; rw [<- hw7]; exact ze _ _ _ _
 have HB7 := Lib.hid (HBR.out.trans ((hb6.trans (hb67.mono hb6.size)).mono HBR.out.size))
 have HFa := Lib.hid (hF'.below hb67)
 have HAa := Lib.hid (hA'.below hb67)
 have HW7 := Lib.hid hw7
 obtain ⟨G, hGe⟩ : ∃ G, w4'.heap.size = G := ⟨_, rfl⟩
 rw [hGe] at g0 g1 g2 g3 g4 g5 g6 g7 gf l7
 have hGw : wb.heap.size <= G := by have h1 := HBR.out.size; have h2 := hb6.size; omega
 have HF6 := Lib.hid hF'
 have HA6 := Lib.hid hA'
 have HB67 := Lib.hid hb67
 have HGE := Lib.hid hGe
 clear hF' hA' hb6 hb67 hw7 x0 x1 x2 x3 x4
 go_upto_region 13 with fail
 rw [HW7.out]
 obtain ⟨y0, y1, y2⟩ := K1.out w7 HB7.out
 go_wp2_with fail
 refine (kindOf_any g3 HAa.out l7 ⟨5, 0, ⟨#[]⟩⟩ (Or.inr rfl)).mono ?_
 rintro e w8 ⟨rfl, hb8⟩
 have hhd : headW ⟨5, 0, ⟨#[]⟩⟩ = cloW := rfl
 rw [hhd]
 clear hhd
 simp only [Wd.agg, cloW]
 go_upto_region 14 with fail
 obtain ⟨w9, hw9⟩ : ∃ w9, w8.alloc (.cells #[.int .i64 8, .int .i64 0, .string ⟨#[]⟩] 49) = w9 := ⟨_, rfl⟩
 obtain ⟨H, hHe⟩ : ∃ H, w8.heap.size = H := ⟨_, rfl⟩
 have hb89 : Below w8.heap.size w8 w9 := by rw [<- hw9]; exact (Below.refl _ _).alloc (Nat.le_refl _) _
 have l9 : H < w9.heap.size := by rw [<- hHe, <- hw9]; simp
 have h0 : w9.cell? ⟨H, 0, none⟩ = some (.int .i64 8) := by rw [<- hHe, <- hw9]; exact za _ _ _ 0
 have h1 : w9.cell? ⟨H, 1, none⟩ = some (.int .i64 0) := by rw [<- hHe, <- hw9]; exact za _ _ _ 1
 have HB9 := Lib.hid (hb8.trans (hb89.mono hb8.size))
 have KG := Lib.hid (show ∀ W, Below w7.heap.size w7 W -> W.cell? ⟨G, 0, none⟩ = some (.slice F' 2 fc') /\ W.cell? ⟨G, 1, none⟩ = some (.slice none 0 0) /\ W.cell? ⟨G, 2, none⟩ = some (.slice none 0 0) /\ W.cell? ⟨G, 3, none⟩ = some (.slice A' len cap') /\ W.cell? ⟨G, 4, none⟩ = some (.int .i64 60000) /\ W.cell? ⟨G, 5, none⟩ = some (.slice none 0 0) /\ W.cell? ⟨G, 6, none⟩ = some (.int .i64 20000) /\ W.cell? ⟨G, 7, none⟩ = some (.bool false) /\ ∀ j, W.frozen? ⟨G, j, none⟩ = false from fun W hW =>
  ⟨(hW.cell (p := ⟨G, 0, none⟩) l7).trans g0, (hW.cell (p := ⟨G, 1, none⟩) l7).trans g1, (hW.cell (p := ⟨G, 2, none⟩) l7).trans g2, (hW.cell (p := ⟨G, 3, none⟩) l7).trans g3, (hW.cell (p := ⟨G, 4, none⟩) l7).trans g4, (hW.cell (p := ⟨G, 5, none⟩) l7).trans g5, (hW.cell (p := ⟨G, 6, none⟩) l7).trans g6, (hW.cell (p := ⟨G, 7, none⟩) l7).trans g7, fun j => (hW.frozen (p := ⟨G, j, none⟩) l7).trans (gf j)⟩)
 have h7s := HB7.out.size
 have h9s := HB9.out.size
 have hHw : wb.heap.size <= H := by rw [<- hHe]; have h1 := hb8.size; omega
 have hHG : H ≠ G := by rw [<- hHe]; have h1 := hb8.size; omega
 have HB9b := Lib.hid (HB7.out.trans (HB9.out.mono h7s))
 obtain ⟨x0, x1, x2, x3, x4⟩ := K0.out w9 HB9b.out
 obtain ⟨y0, y1, y2⟩ := K1.out w9 HB9b.out
 have f0 := HF0.out w9 HB9b.out
 rw [hw9, hHe]
 have HWH := Lib.hid hHe
 clear hb8 hb89 g0 g1 g2 g3 g4 g5 g6 g7 gf hw9 hHe hGe
 have hf0 : (0 : Int) < (fc : Int) := by omega
 go_upto_region 18 with fail
 obtain ⟨hfca, hfcb, bF, pF, AC, nC, cC, A2, n2, c2, rfl, hlF, ⟨a0, a1, a2, a3⟩, _, i1, i2⟩ := HF6.out
 have hfcc : fc' <= 9223372036854775807 := by unfold maxLen at hfcb; omega
 have KB := Lib.hid (fun (W : World) (hW : Below w7.heap.size w7 W) => begin_any (Nat.lt_of_lt_of_le l7 hW.size) (KG.out W hW).1 hfca hfcc (Nat.lt_of_lt_of_le hlF (HB67.out.trans (hW.mono HB67.out.size)).size) (((HB67.out.trans (hW.mono HB67.out.size)).cell (p := ⟨bF, pF + 1, none⟩) hlF).trans a1) (KG.out W hW).2.2.2.2.2.1 ((KG.out W hW).2.2.2.2.2.2.2.2 5) (HL.out W (HB7.out.trans (hW.mono h7s))) (by omega))
 have KA := Lib.hid (fun (W : World) (hW : Below w7.heap.size w7 W) => engAt_any (KG.out W hW).2.2.2.1 (HAa.out.below hW) (Nat.lt_of_lt_of_le l7 hW.size) ⟨5, 0, ⟨#[]⟩⟩ (Or.inr rfl))
 have HI := Lib.hid i1
 have HC3 := Lib.hid (And.intro hlF a3)
 clear i1 i2 a0 a1 a2 a3 hfcb x0 x1 x2 x3 x4 f0
 go_region_with (first | (go_at_call 22; refine (KA.out _ HB9.out.drew).mono ?_; rintro e w10 ⟨rfl, hb10⟩; have HB10 := Lib.hid (HB9.out.drew.trans (hb10.mono h9s)); have h110 := (hb10.cell (p := ⟨H, 1, none⟩) l9).trans h1; clear hb10) | (go_at_call 21; refine (KB.out _ HB10.out).mono ?_; rintro e w11 ⟨rfl, T, ca, AL, cl, hbeg⟩; have HBG := Lib.hid hbeg; clear hbeg))
 all_goals
  obtain ⟨w0, hw0⟩ : ∃ w0, w11.alloc (.cells #[.int .i64 0, .int .i64 0, .string ⟨#[]⟩] 49) = w0 := ⟨_, rfl⟩
  obtain ⟨hok, heng, hbel⟩ := go_ready HGE.out HF6.out (HB67.out.trans (HB10.out.mono HB67.out.size)) (Nat.lt_of_lt_of_le l7 HB10.out.size) (KG.out _ HB10.out) HA6.out HBG.out hw0
  have KGO := Lib.hid (And.intro hok (And.intro heng hbel))
  have HW0 := Lib.hid hw0
  clear hok heng hbel hw0
  go_wp2_with fail
  obtain ⟨bC, oC, hAC, _, _⟩ := HI.out.at_ (by rw [<- HI.out.size]; exact codeX_len _ _ _)
  subst hAC
  have hbl := KGO.out.2.2
  have hnew := HBG.out.new
  have hltT := HBG.out.lt
  have hgsz := HBG.out.grown.size
  have h10s := HB10.out.size
  refine (go_any KGO.out.1 w11 HW0.out KGO.out.2.1 HX.out.1 HX.out.2.1 HX.out.2.2.1 HX.out.2.2.2 (by show w11.heap.size ≠ G; omega) (by show w11.heap.size ≠ T; omega) (bF := bF) (pF := pF) (bC := bC) (oC := oC) (nC := nC) (cC := cC) rfl (fun W hW => ?_)).mono ?_
  ·
   have h1 := hbl W hW
   exact ⟨Nat.lt_of_lt_of_le HC3.out.1 h1.size, (h1.cell (p := ⟨bF, pF + 3, none⟩) HC3.out.1).trans HC3.out.2, HI.out.below h1⟩
  intro e w12 hgo
  have hpe := path_err HX.out.1 HX.out.2.2.2
  cases r with
  | error er =>
   obtain ⟨rfl, htur⟩ := hgo
   have htur : Tur w11 w12 G T := htur
   have her := hpe er rfl
   simp only [Wd.agg, noW]
   have hb11 := zp (HB7.out.trans (HB10.out.mono h7s)) hGw HBG.out.grown
   have hb12 := htur.new hb11 hGw (by omega)
   go_upto_region 20 with fail
   obtain ⟨w13, hw13⟩ : ∃ w13, w12.alloc (.cells #[.int .i64 0, .int .i64 0, .string ⟨#[]⟩] 49) = w13 := ⟨_, rfl⟩
   obtain ⟨Y, hYe⟩ : ∃ Y, w12.heap.size = Y := ⟨_, rfl⟩
   have hb1213 : Below w12.heap.size w12 w13 := by rw [<- hw13]; exact (Below.refl _ _).alloc (Nat.le_refl _) _
   have hb13 := hb12.trans (hb1213.mono hb12.size)
   obtain ⟨a0, a1, a2, a3, a4⟩ := K2.out w13 hb13
   obtain ⟨b0, b1, b2⟩ := K3.out w13 hb13
   have fa := KF2.out w13 hb13
   have fb := KF3.out w13 hb13
   have fa0 := fa 0
   have fa1 := fa 1
   have fa2 := fa 2
   have fa3 := fa 3
   have fa4 := fa 4
   have fb0 := fb 0
   have fb1 := fb 1
   have fb2 := fb 2
   rw [hw13, hYe]
   have HB13 := Lib.hid hb13
   have hpq : w.heap.size + 1 + 1 ≠ w.heap.size + 1 + 1 + 1 := by omega
   have hqp : w.heap.size + 1 + 1 + 1 ≠ w.heap.size + 1 + 1 := by omega
   clear hb11 hb12 hb1213 hb13 hw13 hYe fa fb hpe
   go_wp2_with fail
   have ho8 := out8_ab (.slice none 0 0) (.slice none 0 0) (.slice none 0 0) (.slice none 0 0) (.int .i64 0) (.int .i64 0) (.int .i64 0) (.string ⟨#[]⟩) hpq a0 a1 a2 a3 a4 b0 b1 b2
   generalize (((((((w13.setCell ⟨w.heap.size + 1 + 1, 0, none⟩ (.slice none 0 0)).setCell ⟨w.heap.size + 1 + 1, 1, none⟩ (.slice none 0 0)).setCell ⟨w.heap.size + 1 + 1, 2, none⟩ (.slice none 0 0)).setCell ⟨w.heap.size + 1 + 1, 3, none⟩ (.slice none 0 0)).setCell ⟨w.heap.size + 1 + 1, 4, none⟩ (.int .i64 0)).setCell ⟨w.heap.size + 1 + 1 + 1, 0, none⟩ (.int .i64 0)).setCell ⟨w.heap.size + 1 + 1 + 1, 1, none⟩ (.int .i64 0)).setCell ⟨w.heap.size + 1 + 1 + 1, 2, none⟩ (.string ⟨#[]⟩) = WW at ho8 ⊢
   obtain ⟨s0, s1, s2, s3, s4, r0, r1, r2, htw⟩ := ho8
   have hbe : Below w.heap.size w WW := (HB.out.trans (HB13.out.mono HB.out.size)).trans (htw.below (HB.out.trans (HB13.out.mono HB.out.size)).size (by omega) (by omega))
   clear htw
   refine bodyPost_ret (v := .tuple #[zWorld, noW.agg, .int .i64 er]) (by simp [results, Tryz.results9, go_sem, s0, s1, s2, s3, s4, r0, r1, r2, zWorld, noW, Wd.agg]) rfl ?_
   exact ⟨rfl, hbe⟩
  | ok yh =>
   obtain ⟨⟨yk, yn, ys⟩, hp⟩ := yh
   obtain ⟨rfl, hin, A9, len9, cap9, hend⟩ := hgo
   have htur : Tur w11 w12 G T := hend.tur
   simp only [Wd.agg]
   have hb11 := zp (HB7.out.trans (HB10.out.mono h7s)) hGw HBG.out.grown
   have hb12 := htur.new hb11 hGw (by omega)
   go_upto_region 20 with fail
   obtain ⟨w13, hw13⟩ : ∃ w13, w12.alloc (.cells #[.int .i64 yk, .int .i64 yn, .string ys] 49) = w13 := ⟨_, rfl⟩
   obtain ⟨Y, hYe⟩ : ∃ Y, w12.heap.size = Y := ⟨_, rfl⟩
   have hb1213 : Below w12.heap.size w12 w13 := by rw [<- hw13]; exact (Below.refl _ _).alloc (Nat.le_refl _) _
   have hb13 := hb12.trans (hb1213.mono hb12.size)
   obtain ⟨a0, a1, a2, a3, a4⟩ := K2.out w13 hb13
   obtain ⟨b0, b1, b2⟩ := K3.out w13 hb13
   have fa := KF2.out w13 hb13
   have fb := KF3.out w13 hb13
   have fa0 := fa 0
   have fa1 := fa 1
   have fa2 := fa 2
   have fa3 := fa 3
   have fa4 := fa 4
   have fb0 := fb 0
   have fb1 := fb 1
   have fb2 := fb 2
   rw [hw13, hYe]
   have HB13 := Lib.hid hb13
   have hpq : w.heap.size + 1 + 1 ≠ w.heap.size + 1 + 1 + 1 := by omega
   have hqp : w.heap.size + 1 + 1 + 1 ≠ w.heap.size + 1 + 1 := by omega
   have hlY : Y < w13.heap.size := by rw [<- hYe, <- hw13]; simp
   have v0 : w13.cell? ⟨Y, 0, none⟩ = some (.int .i64 yk) := by rw [<- hYe, <- hw13]; exact za _ _ _ 0
   have v1 : w13.cell? ⟨Y, 1, none⟩ = some (.int .i64 yn) := by rw [<- hYe, <- hw13]; exact za _ _ _ 1
   have v2 : w13.cell? ⟨Y, 2, none⟩ = some (.string ys) := by rw [<- hYe, <- hw13]; exact za _ _ _ 2
   have hlG : G < w12.heap.size := Nat.lt_of_lt_of_le (by omega) htur.size
   have u0 : w13.cell? ⟨G, 0, none⟩ = some (.slice (some ⟨bF, pF, none⟩) 2 fc') := (hb1213.cell (p := ⟨G, 0, none⟩) hlG).trans hend.g0
   have u1 : w13.cell? ⟨G, 1, none⟩ = some (.slice none 0 0) := (hb1213.cell (p := ⟨G, 1, none⟩) hlG).trans hend.g1
   have u2 : w13.cell? ⟨G, 2, none⟩ = some (.slice none 0 0) := (hb1213.cell (p := ⟨G, 2, none⟩) hlG).trans hend.g2
   have u3 : w13.cell? ⟨G, 3, none⟩ = some (.slice A9 len9 cap9) := (hb1213.cell (p := ⟨G, 3, none⟩) hlG).trans hend.g3
   have u4 : w13.cell? ⟨G, 4, none⟩ = some (.int .i64 60000) := (hb1213.cell (p := ⟨G, 4, none⟩) hlG).trans hend.g4
   have hb612 : Below w4'.heap.size w4' w12 := htur.new (zp (HB67.out.trans (HB10.out.mono HB67.out.size)) (by have := HGE.out; omega) HBG.out.grown) (by have := HGE.out; omega) (by have := HGE.out; omega)
   have hF13 := HF6.out.below (hb612.trans (hb1213.mono hb612.size))
   have hH13 := hend.heap.below hb1213
   have HN := Lib.hid (KN.out w13 hb13)
   have HFH := Lib.hid (And.intro hF13 hH13)
   have HIN := Lib.hid hin
   have HYE := Lib.hid hYe
   have hYw : wb.heap.size <= Y := by rw [<- hYe]; exact hb12.size
   clear hb11 hb12 hb1213 hb13 hw13 hYe fa fb hpe hend hF13 hH13 hin
   have hn1 : w.heap.size + 1 + 1 ≠ Y := by omega
   have hn2 : w.heap.size + 1 + 1 + 1 ≠ Y := by omega
   have hn3 : w.heap.size + 1 + 1 ≠ G := by omega
   have hn4 : w.heap.size + 1 + 1 + 1 ≠ G := by omega
   go_upto_region 22 with fail
   go_region
   all_goals
    go_wp2_with fail
    have ho8 := out8_ab (.slice (some ⟨bF, pF, none⟩) 2 fc') (.slice none 0 0) (.slice none 0 0) (.slice A9 len9 cap9) (.int .i64 60000) (.int .i64 yk) (.int .i64 yn) (.string ys) hpq a0 a1 a2 a3 a4 b0 b1 b2
    generalize ((((((((w13.setCell ⟨w.heap.size + 1 + 1, 0, none⟩ (.slice (some ⟨bF, pF, none⟩) 2 fc')).setCell ⟨w.heap.size + 1 + 1, 1, none⟩ (.slice none 0 0)).setCell ⟨w.heap.size + 1 + 1, 2, none⟩ (.slice none 0 0)).setCell ⟨w.heap.size + 1 + 1, 3, none⟩ (.slice A9 len9 cap9)).setCell ⟨w.heap.size + 1 + 1, 4, none⟩ (.int .i64 60000)).setCell ⟨w.heap.size + 1 + 1 + 1, 0, none⟩ (.int .i64 yk)).setCell ⟨w.heap.size + 1 + 1 + 1, 1, none⟩ (.int .i64 yn)).setCell ⟨w.heap.size + 1 + 1 + 1, 2, none⟩ (.string ys)) = WW at ho8 ⊢
    obtain ⟨s0, s1, s2, s3, s4, r0, r1, r2, htw⟩ := ho8
    have hbe : Below w.heap.size w WW.drew := ((HB.out.trans (HB13.out.mono HB.out.size)).trans (htw.below (HB.out.trans (HB13.out.mono HB.out.size)).size (by omega) (by omega))).drew
    have hn := HN.out
    have hfe := HFH.out.1.two htw.drew hn.1 hn.2
    have hhe := HFH.out.2.two htw.drew hn.1 hn.2
    clear htw hn
    refine bodyPost_ret (v := .tuple #[.agg #[.slice (some ⟨bF, pF, none⟩) 2 fc', .slice none 0 0, .slice none 0 0, .slice A9 len9 cap9, .int .i64 60000], .agg #[.int .i64 yk, .int .i64 yn, .string ys], .int .i64 0]) (by simp [results, Tryz.results9, go_sem, s0, s1, s2, s3, s4, r0, r1, r2]) rfl ?_
    exact ⟨_, _, _, _, _, rfl, HIN.out, hfe, hhe, hbe⟩
end Go.Proofs.YtfhbdlobhjegcaaGreatDoor
