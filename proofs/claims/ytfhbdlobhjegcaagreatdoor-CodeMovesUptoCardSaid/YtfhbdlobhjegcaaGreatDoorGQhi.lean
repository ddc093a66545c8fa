import Derived.Test.YtfhbdlobhjegcaaGreatDoorGQfg
namespace Go.Proofs.YtfhbdlobhjegcaaGreatDoor
open Go.RowKit Go.ChangeShapes Go.WideShapes Go.Deep Go.ChangeAt
set_option linter.unusedVariables false
set_option maxRecDepth 20000
structure Tur (w0 w : World) (G T : Nat) : Prop where
 os : w.os = w0.os
 tape : w.tape = w0.tape
 output : w.output = w0.output
 size : w0.heap.size <= w.heap.size
 block : ∀ b, b < w0.heap.size -> b ≠ G -> b ≠ T -> w.heap[b]? = w0.heap[b]?
theorem Tur.refl (w : World) (G T : Nat) : Tur w w G T := ⟨rfl, rfl, rfl, Nat.le_refl _, fun _ _ _ _ => rfl⟩
theorem Tur.below {w0 w w' : World} {G T : Nat} (h : Tur w0 w G T) (hb : Below w.heap.size w w') : Tur w0 w' G T :=
 ⟨hb.os.trans h.os, hb.tape.trans h.tape, hb.output.trans h.output, Nat.le_trans h.size hb.size, fun b h1 h2 h3 => (hb.block b (Nat.lt_of_lt_of_le h1 h.size)).trans (h.block b h1 h2 h3)⟩
theorem Tur.grown {w0 w w' : World} {G T : Nat} {r : Option Nat} (h : Tur w0 w G T) (hg : w.grownBy w' r) (hr : ∀ b, r = some b -> b = G \/ b = T \/ w0.heap.size <= b) : Tur w0 w' G T :=
 ⟨hg.os.trans h.os, hg.tape.trans h.tape, hg.output.trans h.output, Nat.le_trans h.size hg.size, fun b h1 h2 h3 => (hg.block b (Nat.lt_of_lt_of_le h1 h.size) (fun e => by
  rcases hr b e.symm with h | h | h
  ·
   exact h2 h
  ·
   exact h3 h
  omega)).trans (h.block b h1 h2 h3)⟩
structure EC where
 w0 : World
 G : Nat
 T : Nat
 F : Option Addr
 fc : Nat
 ca : Nat
 AL : Option Addr
 nl : Nat
 cl : Nat
 o : Nat
 x : Px
 L : List Wd
structure EC.Ok (c : EC) : Prop where
 hG : c.G < c.w0.heap.size
 hT : c.T < c.w0.heap.size
 ne : c.G ≠ c.T
 ca1 : 1 <= c.ca
 ca2 : c.ca <= 9223372036854775807
 fns : ∀ w, Tur c.w0 w c.G c.T -> FnsAt w c.F c.fc c.o c.x
 loc : ∀ w, Tur c.w0 w c.G c.T -> WdsAt w c.AL c.nl c.cl c.L
structure Eng (c : EC) (w : World) (pc : Int) (st : List Wd) (hp : Hp) (fu : Int) (A : Option Addr) (len cap : Nat) (v : Value) : Prop where
 tur : Tur c.w0 w c.G c.T
 g0 : w.cell? ⟨c.G, 0, none⟩ = some (.slice c.F 2 c.fc)
 g1 : w.cell? ⟨c.G, 1, none⟩ = some (.slice none 0 0)
 g2 : w.cell? ⟨c.G, 2, none⟩ = some (.slice none 0 0)
 g3 : w.cell? ⟨c.G, 3, none⟩ = some (.slice A len cap)
 g4 : w.cell? ⟨c.G, 4, none⟩ = some (.int .i64 60000)
 g5 : w.cell? ⟨c.G, 5, none⟩ = some (.slice (some ⟨c.T, 0, none⟩) 1 c.ca)
 g6 : w.cell? ⟨c.G, 6, none⟩ = some (.int .i64 fu)
 g7 : w.cell? ⟨c.G, 7, none⟩ = some (.bool false)
 gf : ∀ j, w.frozen? ⟨c.G, j, none⟩ = false
 t0 : w.cell? ⟨c.T, 0, none⟩ = some (.int .i64 0)
 t1 : w.cell? ⟨c.T, 1, none⟩ = some (.int .i64 pc)
 t5 : w.cell? ⟨c.T, 5, none⟩ = some (.slice c.AL c.nl c.cl)
 t6 : w.cell? ⟨c.T, 6, none⟩ = some v
 tf : ∀ j, w.frozen? ⟨c.T, j, none⟩ = false
 heap : WdsAt w A len cap (flat hp)
 apart : ∀ b, inSl A len b -> b ≠ c.G /\ b ≠ c.T /\ v.ownBlock ≠ some b
 stack : OwnAt kitWd 49 c.w0.heap.size w v st
section
variable {c : EC} {w : World} {pc : Int} {st : List Wd} {hp : Hp} {fu : Int} {A : Option Addr} {len cap : Nat} {v : Value}
theorem Eng.ltG (h : Eng c w pc st hp fu A len cap v) (k : c.Ok) : c.G < w.heap.size := Nat.lt_of_lt_of_le k.hG h.tur.size
theorem Eng.ltT (h : Eng c w pc st hp fu A len cap v) (k : c.Ok) : c.T < w.heap.size := Nat.lt_of_lt_of_le k.hT h.tur.size
theorem Eng.new {w' : World} (h : Eng c w pc st hp fu A len cap v) (k : c.Ok) (hb : Below w.heap.size w w') : Eng c w' pc st hp fu A len cap v := by
 have hG := h.ltG k
 have hT := h.ltT k
 have kc : ∀ {b j : Nat} {u : Value}, b < w.heap.size -> w.cell? ⟨b, j, none⟩ = some u -> w'.cell? ⟨b, j, none⟩ = some u := fun {b j u} hl hc => (hb.cell (p := ⟨b, j, none⟩) hl).trans hc
 exact ⟨h.tur.below hb, kc hG h.g0, kc hG h.g1, kc hG h.g2, kc hG h.g3, kc hG h.g4, kc hG h.g5, kc hG h.g6, kc hG h.g7, fun j => (hb.frozen (p := ⟨c.G, j, none⟩) hG).trans (h.gf j), kc hT h.t0, kc hT h.t1, kc hT h.t5, kc hT h.t6, fun j => (hb.frozen (p := ⟨c.T, j, none⟩) hT).trans (h.tf j), h.heap.below hb, h.apart, h.stack.new hb⟩
theorem Eng.ownB (h : Eng c w pc st hp fu A len cap v) {b : Nat} (hb : v.ownBlock = some b) : c.w0.heap.size <= b /\ b < w.heap.size := h.stack.row.lt b hb
theorem set_otherB {w : World} {p q i j : Nat} {u v : Value} (h : w.cell? ⟨p, i, none⟩ = some v) (hne : p ≠ q) : (w.setCell ⟨q, j, none⟩ u).cell? ⟨p, i, none⟩ = some v := by
 have h1 : (⟨q, j, none⟩ : Addr) ≠ ⟨p, i, none⟩ := by intro e; cases e; exact hne rfl
 exact (World.cell?_setCell_other (h := h1) ..).trans h
theorem Eng.setPc (h : Eng c w pc st hp fu A len cap v) (k : c.Ok) (pc' : Int) : Eng c (w.setCell ⟨c.T, 1, none⟩ (.int .i64 pc')) pc' st hp fu A len cap v := by
 have hg := zd w c.T 1 (.int .i64 pc')
 have hn := k.ne
 exact ⟨h.tur.grown hg (fun b e => Or.inr (Or.inl (Option.some.inj e).symm)), set_otherB h.g0 hn, set_otherB h.g1 hn, set_otherB h.g2 hn, set_otherB h.g3 hn, set_otherB h.g4 hn, set_otherB h.g5 hn, set_otherB h.g6 hn, set_otherB h.g7 hn, fun j => by rw [World.frozen?_setCell]; exact h.gf j,
  zg h.t0 (by decide), zh h.t1, zg h.t5 (by decide), zg h.t6 (by decide), fun j => by rw [World.frozen?_setCell]; exact h.tf j, h.heap.grown hg (fun b hb e => (h.apart b hb).2.1 (Option.some.inj e).symm), h.apart, h.stack.other hg k.hT⟩
theorem Eng.setFu (h : Eng c w pc st hp fu A len cap v) (k : c.Ok) (fu' : Int) : Eng c (w.setCell ⟨c.G, 6, none⟩ (.int .i64 fu')) pc st hp fu' A len cap v := by
 have hg := zd w c.G 6 (.int .i64 fu')
 have hn := k.ne
 exact ⟨h.tur.grown hg (fun b e => Or.inl (Option.some.inj e).symm), zg h.g0 (by decide), zg h.g1 (by decide), zg h.g2 (by decide), zg h.g3 (by decide), zg h.g4 (by decide), zg h.g5 (by decide), zh h.g6, zg h.g7 (by decide), fun j => by rw [World.frozen?_setCell]; exact h.gf j,
  set_otherB h.t0 hn.symm, set_otherB h.t1 hn.symm, set_otherB h.t5 hn.symm, set_otherB h.t6 hn.symm, fun j => by rw [World.frozen?_setCell]; exact h.tf j, h.heap.grown hg (fun b hb e => (h.apart b hb).1 (Option.some.inj e).symm), h.apart, h.stack.other hg k.hG⟩
theorem Eng.setHp (h : Eng c w pc st hp fu A len cap v) (k : c.Ok) {A' : Option Addr} {len' cap' : Nat} {hp' : Hp} (hw : WdsAt w A' len' cap' (flat hp')) (ha : ∀ b, inSl A' len' b -> b ≠ c.G /\ b ≠ c.T /\ v.ownBlock ≠ some b) : Eng c (w.setCell ⟨c.G, 3, none⟩ (.slice A' len' cap')) pc st hp' fu A' len' cap' v := by
 have hg := zd w c.G 3 (.slice A' len' cap')
 have hn := k.ne
 exact ⟨h.tur.grown hg (fun b e => Or.inl (Option.some.inj e).symm), zg h.g0 (by decide), zg h.g1 (by decide), zg h.g2 (by decide), zh h.g3, zg h.g4 (by decide), zg h.g5 (by decide), zg h.g6 (by decide), zg h.g7 (by decide), fun j => by rw [World.frozen?_setCell]; exact h.gf j,
  set_otherB h.t0 hn.symm, set_otherB h.t1 hn.symm, set_otherB h.t5 hn.symm, set_otherB h.t6 hn.symm, fun j => by rw [World.frozen?_setCell]; exact h.tf j, hw.grown hg (fun b hb e => (ha b hb).1 (Option.some.inj e).symm), ha, h.stack.other hg k.hG⟩
theorem Eng.setSt (h : Eng c w pc st hp fu A len cap v) (k : c.Ok) {w' : World} {v' : Value} {st' : List Wd} (hg' : w.grownBy w' v.ownBlock) (hO : OwnAt kitWd 49 c.w0.heap.size w' v' st') (ha : ∀ b, inSl A len b -> v'.ownBlock ≠ some b) : Eng c (w'.setCell ⟨c.T, 6, none⟩ v') pc st' hp fu A len cap v' := by
 have hn := k.ne
 have kb : ∀ b, b < c.w0.heap.size -> w'.heap[b]? = w.heap[b]? := fun b hb => hg'.block b (Nat.lt_of_lt_of_le hb h.tur.size) (fun e => by have := (h.ownB e.symm).1; omega)
 have kc : ∀ {b j : Nat} {u : Value}, b < c.w0.heap.size -> w.cell? ⟨b, j, none⟩ = some u -> w'.cell? ⟨b, j, none⟩ = some u := fun {b j u} hl hc => (World.cell?_of_block (a := ⟨b, j, none⟩) (kb b hl)).trans hc
 have hg := zd w' c.T 6 v'
 have hG := k.hG
 have hT := k.hT
 exact ⟨(h.tur.grown hg' (fun b e => Or.inr (Or.inr (h.ownB e).1))).grown hg (fun b e => Or.inr (Or.inl (Option.some.inj e).symm)), set_otherB (kc hG h.g0) hn, set_otherB (kc hG h.g1) hn, set_otherB (kc hG h.g2) hn, set_otherB (kc hG h.g3) hn, set_otherB (kc hG h.g4) hn, set_otherB (kc hG h.g5) hn, set_otherB (kc hG h.g6) hn, set_otherB (kc hG h.g7) hn, fun j => by rw [World.frozen?_setCell, World.frozen?_of_block (a := ⟨c.G, j, none⟩) (kb c.G hG)]; exact h.gf j,
  zg (kc hT h.t0) (by decide), zg (kc hT h.t1) (by decide), zg (kc hT h.t5) (by decide), zh (kc hT h.t6), fun j => by rw [World.frozen?_setCell, World.frozen?_of_block (a := ⟨c.T, j, none⟩) (kb c.T hT)]; exact h.tf j, (h.heap.grown hg' (fun b hb => (h.apart b hb).2.2)).grown hg (fun b hb e => (h.apart b hb).2.1 (Option.some.inj e).symm), fun b hb => ⟨(h.apart b hb).1, (h.apart b hb).2.1, ha b hb⟩, hO.other hg hT⟩
end
theorem grown_set3 (w : World) (g : Nat) (u0 u1 u2 : Value) : w.grownBy (((w.setCell ⟨g, 0, none⟩ u0).setCell ⟨g, 1, none⟩ u1).setCell ⟨g, 2, none⟩ u2) (some g) :=
 ((zd _ _ _ _).trans (zd _ _ _ _)).trans (zd _ _ _ _)
theorem set3_0 {w : World} {p : Nat} {a u0 u1 u2 : Value} (h : w.cell? ⟨p, 0, none⟩ = some a) : (((w.setCell ⟨p, 0, none⟩ u0).setCell ⟨p, 1, none⟩ u1).setCell ⟨p, 2, none⟩ u2).cell? ⟨p, 0, none⟩ = some u0 := zg (zg (zh h) (by decide)) (by decide)
theorem set3_1 {w : World} {p : Nat} {a u0 u1 u2 : Value} (h : w.cell? ⟨p, 1, none⟩ = some a) : (((w.setCell ⟨p, 0, none⟩ u0).setCell ⟨p, 1, none⟩ u1).setCell ⟨p, 2, none⟩ u2).cell? ⟨p, 1, none⟩ = some u1 := zg (zh (zg h (by decide))) (by decide)
theorem set3_2 {w : World} {p : Nat} {a u0 u1 u2 : Value} (h : w.cell? ⟨p, 2, none⟩ = some a) : (((w.setCell ⟨p, 0, none⟩ u0).setCell ⟨p, 1, none⟩ u1).setCell ⟨p, 2, none⟩ u2).cell? ⟨p, 2, none⟩ = some u2 := zh (zg (zg h (by decide)) (by decide))
set_option maxHeartbeats 1000000 in
theorem top_any {w : World} {G T ca : Nat} (h : w.cell? ⟨G, 5, none⟩ = some (.slice (some ⟨T, 0, none⟩) 1 ca)) (h1 : 1 <= ca) (h2 : ca <= 9223372036854775807) :
  Calls Tryz.prog 50 #[.pointer (some ⟨G, 0, none⟩)] w fun e w' => e = .returned (.pointer (some ⟨T, 0, none⟩)) /\ ∃ n, w' = w.drewN n := by
 have h3 : (0 : Int) < (ca : Int) := by omega
 go_enter Tryz.func50, Tryz.ntmps50
 go_wp2_with fail
 go_quiet (fail)
 go_wp2_with fail
 go_ret
 exact ⟨rfl, _, rfl⟩
set_option maxHeartbeats 2000000 in
theorem engAt_any {w : World} {G : Nat} {A : Option Addr} {len cap : Nat} {h : Hp} (hg : w.cell? ⟨G, 3, none⟩ = some (.slice A len cap)) (hA : WdsAt w A len cap (flat h)) (hG : G < w.heap.size) (x : Wd) (hx : VOk h x) :
  Calls Tryz.prog 22 #[.pointer (some ⟨G, 0, none⟩), .agg #[.int .i64 x.k, .int .i64 x.n, .string x.s]] w fun e w' => e = .returned (.agg #[.int .i64 x.k, .int .i64 x.n, .string x.s]) /\ Below w.heap.size w w' := by
 have hmv : x.k = 5 -> ∃ (i : Nat) (y : Wd), x.n = i /\ (flat h)[i]? = some y /\ y.k ≠ 10 := by
  intro hk
  rcases hx with (hx | ⟨i, hi, rfl⟩) | rfl
  ·
   exact absurd hk hx.not5
  ·
   exact ⟨2 + 3 * i, _, by show pAt i = _; unfold pAt; omega, (flat_at h i hi).1, by decide⟩
  exact ⟨0, _, rfl, flat_0 h, by decide⟩
 obtain ⟨k, n, s⟩ := x
 obtain ⟨wb, hwb⟩ : ∃ wb, (w.alloc (.cells #[.int .i64 k, .int .i64 n, .string s] 49)).alloc (.cells #[.int .i64 0, .int .i64 0, .string ⟨#[]⟩] 49) = wb := ⟨_, rfl⟩
 have hb : Below w.heap.size w wb := by rw [<- hwb]; exact ((Below.refl _ _).alloc (Nat.le_refl _) _).alloc (by simp) _
 have z0 : wb.cell? ⟨w.heap.size, 0, none⟩ = some (.int .i64 k) := by rw [<- hwb]; exact cell_first _ _ _ _ _ 0
 have z1 : wb.cell? ⟨w.heap.size, 1, none⟩ = some (.int .i64 n) := by rw [<- hwb]; exact cell_first _ _ _ _ _ 1
 have z2 : wb.cell? ⟨w.heap.size, 2, none⟩ = some (.string s) := by rw [<- hwb]; exact cell_first _ _ _ _ _ 2
 have y0 : wb.cell? ⟨w.heap.size + 1, 0, none⟩ = some (.int .i64 0) := by rw [<- hwb]; exact cell_second _ _ _ _ _ 0
 have y1 : wb.cell? ⟨w.heap.size + 1, 1, none⟩ = some (.int .i64 0) := by rw [<- hwb]; exact cell_second _ _ _ _ _ 1
 have y2 : wb.cell? ⟨w.heap.size + 1, 2, none⟩ = some (.string ⟨#[]⟩) := by rw [<- hwb]; exact cell_second _ _ _ _ _ 2
 have yf : ∀ j, wb.frozen? ⟨w.heap.size + 1, j, none⟩ = false := by intro j; rw [<- hwb]; simp
 have g3 := (hb.cell (p := ⟨G, 3, none⟩) hG).trans hg
 have hlt : w.heap.size + 1 < wb.heap.size := by rw [<- hwb]; simp
 have KW := Lib.hid (fun (W : World) (hW : Below wb.heap.size wb W) => where_any (hA.below (hb.trans (hW.mono hb.size))) ⟨k, n, s⟩ hmv)
 have HWB := Lib.hid hwb
 have HB := Lib.hid hb
 clear hmv hx hA hg hb hwb
 go_enter Tryz.func22, Tryz.ntmps22
 go_upto_region 1 with fail
 rw [HWB.out]
 go_region_law (go_simp; go_at_call 49; refine (KW.out _ ?_).mono ?_; (first | exact (Below.refl _ _).drew | exact Below.refl _ _); rintro e w3 ⟨rfl, hb3⟩; have hb3' : Below wb.heap.size wb w3 := (by first | exact (Below.refl _ _).drew.trans hb3 | exact hb3); have HB3 := Lib.hid hb3'; have n0 := (hb3'.cell (p := ⟨w.heap.size + 1, 0, none⟩) hlt).trans y0; have n1 := (hb3'.cell (p := ⟨w.heap.size + 1, 1, none⟩) hlt).trans y1; have n2 := (hb3'.cell (p := ⟨w.heap.size + 1, 2, none⟩) hlt).trans y2; have q0 := (hb3'.frozen (p := ⟨w.heap.size + 1, 0, none⟩) hlt).trans (yf 0); have q1 := (hb3'.frozen (p := ⟨w.heap.size + 1, 1, none⟩) hlt).trans (yf 1); have q2 := (hb3'.frozen (p := ⟨w.heap.size + 1, 2, none⟩) hlt).trans (yf 2); clear hb3 hb3')
 all_goals
  go_wp2_with fail
  have s0 := set3_0 (u0 := .int .i64 k) (u1 := .int .i64 n) (u2 := .string s) n0
  have s1 := set3_1 (u0 := .int .i64 k) (u1 := .int .i64 n) (u2 := .string s) n1
  have s2 := set3_2 (u0 := .int .i64 k) (u1 := .int .i64 n) (u2 := .string s) n2
  refine bodyPost_ret (v := .agg #[.int .i64 k, .int .i64 n, .string s]) (by simp [results, Tryz.results22, go_sem, s0, s1, s2]) rfl ?_
  exact ⟨rfl, zp (HB.out.trans (HB3.out.mono HB.out.size)) (Nat.le_succ _) (grown_set3 _ _ _ _ _)⟩
def headW (x : Wd) : Wd := if x.k = 5 then (if x.n = 0 then cloW else pairW) else noW
set_option maxHeartbeats 2000000 in
theorem kindOf_any {w : World} {G : Nat} {A : Option Addr} {len cap : Nat} {h : Hp} (hg : w.cell? ⟨G, 3, none⟩ = some (.slice A len cap)) (hA : WdsAt w A len cap (flat h)) (hG : G < w.heap.size) (x : Wd) (hx : VOk h x) :
  Calls Tryz.prog 20 #[.pointer (some ⟨G, 0, none⟩), .agg #[.int .i64 x.k, .int .i64 x.n, .string x.s]] w fun e w' => e = .returned (headW x).agg /\ Below w.heap.size w w' := by
 have hh : x.k = 5 -> ∃ (i : Nat), x.n = i /\ (flat h)[i]? = some (headW x) := by
  intro hk
  unfold headW
  rw [if_pos hk]
  rcases hx with (hx | ⟨i, hi, rfl⟩) | rfl
  ·
   exact absurd hk hx.not5
  ·
   refine ⟨2 + 3 * i, by show pAt i = _; unfold pAt; omega, ?_⟩
   rw [if_neg (by show ¬ pAt i = 0; unfold pAt; omega)]
   exact (flat_at h i hi).1
  exact ⟨0, rfl, by rw [if_pos rfl]; exact flat_0 h⟩
 have hn5 : x.k ≠ 5 -> headW x = noW := fun hk => by unfold headW; rw [if_neg hk]
 obtain ⟨⟨yk, yn, ys⟩, hy⟩ : ∃ y, headW x = y := ⟨_, rfl⟩
 rw [hy] at hh hn5 ⊢
 obtain ⟨k, n, s⟩ := x
 simp only [Wd.agg] at hh hn5 ⊢
 obtain ⟨wb, hwb⟩ : ∃ wb, (w.alloc (.cells #[.int .i64 k, .int .i64 n, .string s] 49)).alloc (.cells #[.int .i64 0, .int .i64 0, .string ⟨#[]⟩] 49) = wb := ⟨_, rfl⟩
 have hb : Below w.heap.size w wb := by rw [<- hwb]; exact ((Below.refl _ _).alloc (Nat.le_refl _) _).alloc (by simp) _
 have z0 : wb.cell? ⟨w.heap.size, 0, none⟩ = some (.int .i64 k) := by rw [<- hwb]; exact cell_first _ _ _ _ _ 0
 have z1 : wb.cell? ⟨w.heap.size, 1, none⟩ = some (.int .i64 n) := by rw [<- hwb]; exact cell_first _ _ _ _ _ 1
 have z2 : wb.cell? ⟨w.heap.size, 2, none⟩ = some (.string s) := by rw [<- hwb]; exact cell_first _ _ _ _ _ 2
 have y0 : wb.cell? ⟨w.heap.size + 1, 0, none⟩ = some (.int .i64 0) := by rw [<- hwb]; exact cell_second _ _ _ _ _ 0
 have y1 : wb.cell? ⟨w.heap.size + 1, 1, none⟩ = some (.int .i64 0) := by rw [<- hwb]; exact cell_second _ _ _ _ _ 1
 have y2 : wb.cell? ⟨w.heap.size + 1, 2, none⟩ = some (.string ⟨#[]⟩) := by rw [<- hwb]; exact cell_second _ _ _ _ _ 2
 have yf : ∀ j, wb.frozen? ⟨w.heap.size + 1, j, none⟩ = false := by intro j; rw [<- hwb]; simp
 have g3 := (hb.cell (p := ⟨G, 3, none⟩) hG).trans hg
 have hlt : w.heap.size + 1 < wb.heap.size := by rw [<- hwb]; simp
 have hlt0 : w.heap.size < wb.heap.size := by omega
 have hGb : G < wb.heap.size := Nat.lt_of_lt_of_le hG hb.size
 have KA := Lib.hid (engAt_any g3 (hA.below hb) hGb ⟨k, n, s⟩ hx)
 have HWB := Lib.hid hwb
 have HB := Lib.hid hb
 have HA := Lib.hid (hA.below hb)
 have HH := Lib.hid hh
 have HN5 := Lib.hid hn5
 have hcap := hA.cap_
 have hle := hA.le
 have hcap2 : cap <= 9223372036854775807 := by unfold maxLen at hcap; omega
 clear hh hn5 hx hA hg hb hwb hy hcap
 go_enter Tryz.func20, Tryz.ntmps20
 go_upto_region 1 with fail
 rw [HWB.out]
 go_wp2_with fail
 refine KA.out.mono ?_
 rintro e w3 ⟨rfl, hb3⟩
 have hs3 := hb3.size
 obtain ⟨w4, hw4⟩ : ∃ w4, w3.alloc (.cells #[.int .i64 k, .int .i64 n, .string s] 49) = w4 := ⟨_, rfl⟩
 have hb34 : Below w3.heap.size w3 w4 := by rw [<- hw4]; exact (Below.refl _ _).alloc (Nat.le_refl _) _
 have hb4 := hb3.trans (hb34.mono hs3)
 have HB4 := Lib.hid hb4
 have p0 : w4.cell? ⟨w3.heap.size, 0, none⟩ = some (.int .i64 k) := by rw [<- hw4]; exact za _ _ _ 0
 have p1 : w4.cell? ⟨w3.heap.size, 1, none⟩ = some (.int .i64 n) := by rw [<- hw4]; exact za _ _ _ 1
 have n0 := (hb4.cell (p := ⟨w.heap.size + 1, 0, none⟩) hlt).trans y0
 have n1 := (hb4.cell (p := ⟨w.heap.size + 1, 1, none⟩) hlt).trans y1
 have n2 := (hb4.cell (p := ⟨w.heap.size + 1, 2, none⟩) hlt).trans y2
 have q0 := (hb4.frozen (p := ⟨w.heap.size + 1, 0, none⟩) hlt).trans (yf 0)
 have q1 := (hb4.frozen (p := ⟨w.heap.size + 1, 1, none⟩) hlt).trans (yf 1)
 have q2 := (hb4.frozen (p := ⟨w.heap.size + 1, 2, none⟩) hlt).trans (yf 2)
 have g34 := (hb4.cell (p := ⟨G, 3, none⟩) hGb).trans g3
 have HW4 := Lib.hid hw4
 have s0 := set3_0 (u0 := .int .i64 yk) (u1 := .int .i64 yn) (u2 := .string ys) n0
 have s1 := set3_1 (u0 := .int .i64 yk) (u1 := .int .i64 yn) (u2 := .string ys) n1
 have s2 := set3_2 (u0 := .int .i64 yk) (u1 := .int .i64 yn) (u2 := .string ys) n2
 have S0 := Lib.hid s0
 have S1 := Lib.hid s1
 have S2 := Lib.hid s2
 clear s0 s1 s2 hb3 hb34 hb4 hw4
 by_cases hk : k = 5
 ·
  obtain ⟨i, rfl, hi⟩ := HH.out hk
  subst hk
  obtain ⟨b5, o5, rfl, hb5, hil, d0, d1, d2⟩ := (HA.out.below HB4.out).nth hi
  simp only at d0 d1 d2
  have hi0 : (0 : Int) <= (i : Int) := Int.natCast_nonneg _
  have hic : (i : Int) < (cap : Int) := by omega
  have hil2 : (i : Int) < (len : Int) := by omega
  clear hi
  go_upto_region 2 with fail
  rw [HW4.out]
  go_wp2_with fail
  go_region
  all_goals
   go_wp2_with fail
   have s0 := S0.out
   have s1 := S1.out
   have s2 := S2.out
   refine bodyPost_ret (v := .agg #[.int .i64 yk, .int .i64 yn, .string ys]) (by simp [results, Tryz.results20, go_sem, s0, s1, s2]) rfl ?_
   exact ⟨rfl, (zp (HB.out.trans (HB4.out.mono HB.out.size)) (Nat.le_succ _) (grown_set3 _ _ _ _ _)).drew⟩
 have hyn := HN5.out hk
 simp only [noW, Wd.mk.injEq] at hyn
 obtain ⟨rfl, rfl, rfl⟩ := hyn
 go_upto_region 2 with fail
 rw [HW4.out]
 go_wp2_with fail
 have s0 := S0.out
 have s1 := S1.out
 have s2 := S2.out
 refine bodyPost_ret (v := .agg #[.int .i64 0, .int .i64 0, .string ⟨#[]⟩]) (by simp [results, Tryz.results20, go_sem, s0, s1, s2]) rfl ?_
 exact ⟨rfl, zp (HB.out.trans (HB4.out.mono HB.out.size)) (Nat.le_succ _) (grown_set3 _ _ _ _ _)⟩
theorem OwnAt.lower {α : Type} {K : Kit α} {ty : TypeId} {base base' : Nat} {w : World} {v : Value} {X : List α} (h : OwnAt K ty base w v X) (hb : base' <= base) : OwnAt K ty base' w v X := by
 refine ⟨⟨h.row.1, ?_⟩, h.each, fun x hx b hu => Nat.le_trans hb (h.from_ x hx b hu), h.apart⟩
 rcases h.row.2 with h2 | ⟨g, cap, cur, hv, hg, hr⟩
 ·
  exact Or.inl h2
 exact Or.inr ⟨g, cap, cur, hv, Nat.le_trans hb hg, hr⟩
theorem top_b {w : World} {G T ca : Nat} (h : w.cell? ⟨G, 5, none⟩ = some (.slice (some ⟨T, 0, none⟩) 1 ca)) (h1 : 1 <= ca) (h2 : ca <= 9223372036854775807) :
  Calls Tryz.prog 50 #[.pointer (some ⟨G, 0, none⟩)] w fun e w' => e = .returned (.pointer (some ⟨T, 0, none⟩)) /\ Below w.heap.size w w' :=
 (top_any h h1 h2).mono fun e w' ⟨h1, n, h2⟩ => ⟨h1, by rw [h2]; exact below_drewN (Below.refl _ _) _⟩
theorem WdsAt.drop {w : World} {b o n c : Nat} {ws : List Wd} (h : WdsAt w (some ⟨b, o, none⟩) n c ws) (k : Nat) (hk : k <= n) : WdsAt w (some ⟨b, o + k * 3, none⟩) (n - k) (c - k) (ws.drop k) :=
 ⟨by rw [List.length_drop, h.size], by have := h.le; omega, by have := h.cap_; omega, fun h0 => by
  obtain ⟨b', o', hA, hl, hc⟩ := h.at_ (by omega)
  obtain ⟨rfl, rfl⟩ : b = b' /\ o = o' := by simpa using hA
  refine ⟨b, o + k * 3, rfl, hl, fun i hi => ?_⟩
  rw [List.length_drop] at hi
  have := hc (k + i) (by omega)
  rw [List.getElem_drop]
  rw [show o + k * 3 + i * 3 = o + (k + i) * 3 by omega]
  exact this⟩
theorem WdsAt.take {w : World} {b o n c : Nat} {ws : List Wd} (h : WdsAt w (some ⟨b, o, none⟩) n c ws) (k : Nat) (hk : k <= n) : WdsAt w (some ⟨b, o, none⟩) k c (ws.take k) :=
 ⟨by rw [List.length_take, h.size]; omega, by have := h.le; omega, h.cap_, fun h0 => by
  obtain ⟨b', o', hA, hl, hc⟩ := h.at_ (by omega)
  obtain ⟨rfl, rfl⟩ : b = b' /\ o = o' := by simpa using hA
  refine ⟨b, o, rfl, hl, fun i hi => ?_⟩
  rw [List.length_take] at hi
  rw [List.getElem_take]
  exact hc i (by omega)⟩
theorem copy_1 {w : World} {q : Nat} {A : Option Addr} {m c : Nat} {ws : List Wd} (h0 : w.cell? ⟨q, 0, none⟩ = some (.slice A m c)) (hq : q < w.heap.size) (h : WdsAt w A m c ws) (hs : m <= 1099511627776) :
  Calls Tryz.prog 48 #[.slice (some ⟨q, 0, none⟩) 1 1] w (fun e w' => ∃ A' c', e = .returned (.slice A' m c') /\ OwnAt kitWd 49 w.heap.size w' (.slice A' m c') ws /\ Below w.heap.size w w') := by
 have hsz : ws.length = m := h.size
 refine (wordsCopy_any (some ⟨q, 0, none⟩) 1 1 [ws] w (by unfold maxLen; omega) (Nat.le_refl _) (wrows_1 h0 hq h) (by simp; omega)).mono ?_
 rintro e w' ⟨v, rfl, hO, hb⟩
 simp only [List.flatten_cons, List.flatten_nil, List.append_nil] at hO
 obtain ⟨A', c', rfl, _, _⟩ := hO.wds
 rw [hsz] at hO ⊢
 exact ⟨A', c', rfl, hO, hb⟩
set_option maxHeartbeats 4000000 in
theorem take_any {c : EC} (k : c.Ok) {w : World} {pc : Int} {st l : List Wd} {hp : Hp} {fu : Int} {A : Option Addr} {len cap : Nat} {v : Value} (h : Eng c w pc (st ++ l) hp fu A len cap v) (hs : (st ++ l).length <= 100000) (h1 : 1 <= l.length) (m : Int) (hm : m = l.length) :
  Calls Tryz.prog 52 #[.pointer (some ⟨c.G, 0, none⟩), .int .i64 m] w fun e w' => ∃ A' c' v', e = .returned (.slice A' l.length c') /\ WdsAt w' A' l.length c' l /\ (∀ b, inSl A' l.length b -> w.heap.size <= b /\ v'.ownBlock ≠ some b) /\ Eng c w' pc st hp fu A len cap v' /\ w.grownBy w' (some c.T) /\ ∀ b, v'.ownBlock = some b -> w.heap.size <= b := by
 obtain ⟨Av, cv, rfl, hst, hAv⟩ := h.stack.wds
 obtain ⟨N, hN⟩ : ∃ N, (st ++ l).length = N := ⟨_, rfl⟩
 rw [hN] at h hst hs
 rw [List.length_append] at hN
 obtain ⟨bv, ov, rfl, hbv, _⟩ := hst.at_ (by omega)
 have hcv := hst.cap_
 have hlv := hst.le
 have hcv2 : cv <= 9223372036854775807 := by unfold maxLen at hcv; omega
 obtain ⟨kk, hkk⟩ : ∃ kk : Nat, st.length = kk := ⟨_, rfl⟩
 obtain ⟨nl, hnl⟩ : ∃ nl : Nat, l.length = nl := ⟨_, rfl⟩
 obtain rfl : m = (nl : Int) := by omega
 have hK : (N : Int) - (nl : Int) = (kk : Int) := by omega
 have hk0 : (0 : Int) <= (kk : Int) := Int.natCast_nonneg _
 have hk1 : (kk : Int) <= (N : Int) := by omega
 have hk2 : (kk : Int) <= (cv : Int) := by omega
 have hkne : ¬ cv = kk := by omega
 rw [hnl]
 have HE := Lib.hid h
 have HT := Lib.hid (top_b h.g5 k.ca1 k.ca2)
 have HD := Lib.hid (show ∀ W, Below w.heap.size w W -> WdsAt W (some ⟨bv, ov + kk * 3, none⟩) (N - kk) (cv - kk) l from fun W hW => by have h2 := (hst.below hW).drop kk (by omega); rw [<- hkk, List.drop_left] at h2; rw [<- hkk]; exact h2)
 have HK := Lib.hid (show ∀ W, Below w.heap.size w W -> WdsAt W (some ⟨bv, ov, none⟩) kk cv st from fun W hW => by have h2 := (hst.below hW).take kk (by omega); rw [<- hkk, List.take_left] at h2; rw [<- hkk]; exact h2)
 have hGl := h.ltG k
 have hTl := h.ltT k
 clear h hst hAv hcv hN hm
 go_enter Tryz.func52, Tryz.ntmps52
 go_wp2_with fail
 refine HT.out.mono ?_
 rintro e w1 ⟨rfl, hb1⟩
 have HE1 := Lib.hid (HE.out.new k hb1)
 have HB1 := Lib.hid hb1
 have t6 := (HE.out.new k hb1).t6
 have hTl1 : c.T < w1.heap.size := Nat.lt_of_lt_of_le hTl hb1.size
 clear hb1
 go_wp2_with fail
 obtain ⟨w2, hw2⟩ : ∃ w2, w1.alloc (.cells #[.slice (some ⟨bv, ov + kk * 3, none⟩) (N - kk) (cv - kk)] 42) = w2 := ⟨_, rfl⟩
 have hb2 : Below w1.heap.size w1 w2 := by rw [<- hw2]; exact (Below.refl _ _).alloc (Nat.le_refl _) _
 have l2 : w2.cell? ⟨w1.heap.size, 0, none⟩ = some (.slice (some ⟨bv, ov + kk * 3, none⟩) (N - kk) (cv - kk)) := by rw [<- hw2]; exact za _ _ _ 0
 have l3 : w1.heap.size < w2.heap.size := by rw [<- hw2]; simp
 rw [hw2]
 have hb02 : Below w.heap.size w w2 := HB1.out.trans (hb2.mono HB1.out.size)
 refine (copy_1 l2 l3 (HD.out w2 hb02) (by omega)).mono ?_
 rintro e w3 ⟨A3, c3, rfl, hO3, hb3⟩
 have hb03 : Below w.heap.size w w3 := hb02.trans (hb3.mono hb02.size)
 have HB03 := Lib.hid hb03
 have HO3 := Lib.hid hO3
 have hb13 := hb2.trans (hb3.mono hb2.size)
 have t63 := (hb13.cell (p := ⟨c.T, 6, none⟩) hTl1).trans t6
 have hs3 : w.heap.size <= w3.heap.size := hb03.size
 have hTl3 : c.T < w3.heap.size := Nat.lt_of_lt_of_le hTl1 hb13.size
 have hs2 : w.heap.size <= w2.heap.size := hb02.size
 clear hw2 hb2 l2 l3 hb02 hb3 hb03 hO3 hb13 t6
 go_wp2_with fail
 obtain ⟨w4, hw4⟩ : ∃ w4, w3.alloc (.cells #[.slice (some ⟨bv, ov, none⟩) kk cv] 42) = w4 := ⟨_, rfl⟩
 have hb4 : Below w3.heap.size w3 w4 := by rw [<- hw4]; exact (Below.refl _ _).alloc (Nat.le_refl _) _
 have l2 : w4.cell? ⟨w3.heap.size, 0, none⟩ = some (.slice (some ⟨bv, ov, none⟩) kk cv) := by rw [<- hw4]; exact za _ _ _ 0
 have l3 : w3.heap.size < w4.heap.size := by rw [<- hw4]; simp
 rw [hw4]
 have hb04 : Below w.heap.size w w4 := HB03.out.trans (hb4.mono HB03.out.size)
 refine (copy_1 l2 l3 (HK.out w4 hb04) (by omega)).mono ?_
 rintro e w5 ⟨A5, c5, rfl, hO5, hb5⟩
 have hb05 : Below w.heap.size w w5 := hb04.trans (hb5.mono hb04.size)
 have hb35 := hb4.trans (hb5.mono hb4.size)
 have t65 := (hb35.cell (p := ⟨c.T, 6, none⟩) hTl3).trans t63
 have f65 := (hb05.frozen (p := ⟨c.T, 6, none⟩) hTl).trans (HE.out.tf 6)
 have hs4 : w.heap.size <= w4.heap.size := hb04.size
 have HEF := Lib.hid (HE.out.setSt k (zb hb05 _) (hO5.lower (Nat.le_trans HE.out.tur.size hs4)) (fun b hbb e => by
  have h1 := HE.out.heap.lt hbb
  have h2 := hO5.base_le e
  omega))
 have HR := Lib.hid (show WdsAt w5 A3 (N - kk) c3 l from by
  obtain ⟨A', c', hv, h2, _⟩ := HO3.out.wds
  simp only [Value.slice.injEq] at hv
  obtain ⟨rfl, e1, rfl⟩ := hv
  rw [e1]
  exact h2.below hb35)
 have HN := Lib.hid (show ∀ b, inSl A3 (N - kk) b -> w.heap.size <= b /\ (Value.slice A5 kk c5).ownBlock ≠ some b /\ b < w3.heap.size from fun b hbb => by
  have h1 : b < w3.heap.size := by
   obtain ⟨A', c', hv, h2, _⟩ := HO3.out.wds
   simp only [Value.slice.injEq] at hv
   obtain ⟨rfl, e1, rfl⟩ := hv
   rw [e1] at hbb
   exact h2.lt hbb
  refine ⟨?_, fun e => ?_, h1⟩
  ·
   obtain ⟨A', c', hv, h2, h3⟩ := HO3.out.wds
   simp only [Value.slice.injEq] at hv
   obtain ⟨rfl, e1, rfl⟩ := hv
   obtain ⟨a, ha, _, rfl⟩ := hbb
   have := h3 a ha
   omega
  have h2 := hO5.base_le e
  omega)
 have HO5 := Lib.hid (show ∀ b, (Value.slice A5 kk c5).ownBlock = some b -> w.heap.size <= b from fun b e => by have := hO5.base_le e; omega)
 have HG5 := Lib.hid ((zb hb05 (some c.T)).trans (zd w5 c.T 6 (.slice A5 kk c5)))
 clear hw4 hb4 l2 l3 hb04 hb5 hb05 hb35 hO5 t63
 go_wp2_with fail
 go_ret
 have e1 : N - kk = nl := by omega
 have hR := HR.out
 have hN := HN.out
 rw [e1] at hR hN ⊢
 exact ⟨A3, c3, _, rfl, hR.grown (zd _ _ _ _) (fun b hbb e => by have h2 := (hN b hbb).1; have := Option.some.inj e; omega), fun b hbb => ⟨(hN b hbb).1, (hN b hbb).2.1⟩, HEF.out, HG5.out, HO5.out⟩
/- The reference's engine: contracts of give, fresh. -/
theorem step_wdD {base : Nat} {ops : Array Oper} {o : Oper} {act : Act} {KK : Act -> World -> Prop} {Q : Exit -> Act -> World -> Prop} {E : Prop} {w : World} (hgd : o.guard = none) (s y : Operand)
  (ho : o.op = .call { callee := .builtin .append, args := #[s, y], argTypes := #[42, 42] })
  {v : Value} {X : List Wd} (hO : OwnAt kitWd 49 base w v X) (x : Wd) (cs : Array Value) (hcs : cs.toList = x.cells)
  (hs : act.eval s = v) (hy : act.eval y = .slice (some ⟨w.heap.size, 0, none⟩) 1 1) (hb : X.length + 1 <= 1099511627777) (hbase : base <= w.heap.size)
  (h : ∀ v' w', OwnAt kitWd 49 base w' v' (X ++ [x]) -> w.grownBy w' v.ownBlock -> (v'.ownBlock = v.ownBlock \/ ∃ b, v'.ownBlock = some b /\ w.heap.size <= b) -> KK (act.put o.dst v') w') :
  if Region.wanted o (yielded ops act.tmps) = true then Oper.wp Tryz.prog o act (w.alloc (.cells cs 49)).drew KK Q else E := by
 obtain ⟨i0, hi, hz0, hz1, hz2⟩ := info_parts infoWord
 have hw : Region.wanted o (yielded ops act.tmps) = true := by simp [Region.wanted, hgd]
 rw [if_pos hw]
 obtain ⟨v', w', hr, h1, h2, h3⟩ := run_own (rt := o.type) (sl := 42) (w := w.drew) Tryz.underlying42 hi hz0 hz1 hz2 rfl (by decide) (hO.new ((Below.refl _ _).drew)) x cs hcs trivial (fun b hb => hb.elim) (fun b hb => hb.elim) (by unfold maxLen; omega) hbase
 unfold Oper.wp execOp
 have hr2 : (Builtin.append_ #[42, 42] o.type #[v, .slice (some ⟨w.heap.size, 0, none⟩) 1 1]).run Tryz.prog (w.alloc (.cells cs 49)).drew = .ok v' w' := hr
 simp only [ho, resolve, invoke, builtin, Sem.run_bind, Sem.run_pure, Result.andThen_ok, List.map_toArray, List.map_cons, List.map_nil, hs, hy, hr2]
 exact h v' w' h1 ((zb ((Below.refl _ _).drew) _).trans h2) h3
set_option maxHeartbeats 4000000 in
theorem give_any {c : EC} (k : c.Ok) {w : World} {pc : Int} {st : List Wd} {hp : Hp} {fu : Int} {A : Option Addr} {len cap : Nat} {v : Value} (h : Eng c w pc st hp fu A len cap v) (hs : st.length <= 100000) (x : Wd) :
  Calls Tryz.prog 53 #[.pointer (some ⟨c.G, 0, none⟩), .agg #[.int .i64 x.k, .int .i64 x.n, .string x.s]] w fun e w' => e = .returned (.tuple #[]) /\ ∃ v', Eng c w' pc (st ++ [x]) hp fu A len cap v' := by
 obtain ⟨Av, cv, rfl, hst, hAv⟩ := h.stack.wds
 obtain ⟨N, hN⟩ : ∃ N, st.length = N := ⟨_, rfl⟩
 rw [hN] at h hs
 obtain ⟨xk, xn, xs⟩ := x
 simp only
 obtain ⟨wb, hwb⟩ : ∃ wb, w.alloc (.cells #[.int .i64 xk, .int .i64 xn, .string xs] 49) = wb := ⟨_, rfl⟩
 have hb : Below w.heap.size w wb := by rw [<- hwb]; exact (Below.refl _ _).alloc (Nat.le_refl _) _
 have z0 : wb.cell? ⟨w.heap.size, 0, none⟩ = some (.int .i64 xk) := by rw [<- hwb]; exact za _ _ _ 0
 have z1 : wb.cell? ⟨w.heap.size, 1, none⟩ = some (.int .i64 xn) := by rw [<- hwb]; exact za _ _ _ 1
 have z2 : wb.cell? ⟨w.heap.size, 2, none⟩ = some (.string xs) := by rw [<- hwb]; exact za _ _ _ 2
 have hlt : w.heap.size < wb.heap.size := by rw [<- hwb]; simp
 have hE := h.new k hb
 have HT := Lib.hid (top_b hE.g5 k.ca1 k.ca2)
 have HE := Lib.hid hE
 have HWB := Lib.hid hwb
 have HNN := Lib.hid hN
 have hTb := hE.ltT k
 clear h hst hAv hN hwb hE hb
 go_enter Tryz.func53, Tryz.ntmps53
 go_upto_region 1 with fail
 rw [HWB.out]
 go_wp2_with fail
 refine HT.out.mono ?_
 rintro e w1 ⟨rfl, hb1⟩
 have hE1 := HE.out.new k hb1
 have HE1 := Lib.hid hE1
 have t6 := hE1.t6
 have f6 := hE1.tf 6
 have y0 := (hb1.cell (p := ⟨w.heap.size, 0, none⟩) hlt).trans z0
 have y1 := (hb1.cell (p := ⟨w.heap.size, 1, none⟩) hlt).trans z1
 have y2 := (hb1.cell (p := ⟨w.heap.size, 2, none⟩) hlt).trans z2
 have hlt1 : w.heap.size < w1.heap.size := Nat.lt_of_lt_of_le hlt hb1.size
 have hT1 : c.T < w1.heap.size := Nat.lt_of_lt_of_le hTb hb1.size
 have HO := Lib.hid hE1.stack
 have hbase := hE1.tur.size
 have HKT := Lib.hid (show ∀ W, w1.grownBy W (Value.slice Av N cv).ownBlock -> W.heap[c.T]? = w1.heap[c.T]? from fun W hg => hg.block _ hT1 (fun e => by have h1 := (hE1.ownB e.symm).1; have h2 := k.hT; omega))
 clear hb1 hE1 z0 z1 z2
 go_wp2_with fail
 go_region_law (refine step_wdD (by rfl) (.tmp 11) (.tmp 13) (by rfl) HO.out ⟨xk, xn, xs⟩ _ rfl (by rfl) (by rfl) (by have h := HNN.out; omega) hbase ?_; intro v9 w9 h5 h6 h7; obtain ⟨A9, c9, h8, _⟩ := h5.form; rw [show (st ++ [(⟨xk, xn, xs⟩ : Wd)]).length = N + 1 by rw [List.length_append, HNN.out]; rfl] at h8; subst h8; have hk9 := HKT.out w9 h6; have t69 := (World.cell?_of_block (a := ⟨c.T, 6, none⟩) hk9).trans t6; have f69 := (World.frozen?_of_block (a := ⟨c.T, 6, none⟩) hk9).trans f6; have H5 := Lib.hid h5; have H6 := Lib.hid h6; have H7 := Lib.hid h7; clear h5 h6 h7 hk9)
 all_goals
  go_wp2_with fail
  refine bodyPost_end (v := .tuple #[]) (results_none rfl _ _ _) rfl ⟨rfl, _, HE1.out.setSt k H6.out H5.out (fun b hb e => ?_)⟩
  rcases H7.out with h7 | ⟨b7, h7, h8⟩
  ·
   rw [h7] at e
   exact (HE1.out.apart b hb).2.2 e
  rw [h7] at e
  have h9 := Option.some.inj e
  have h10 := HE1.out.heap.lt hb
  omega
theorem Eng.other {c : EC} {w w' : World} {pc : Int} {st : List Wd} {hp : Hp} {fu : Int} {A : Option Addr} {len cap : Nat} {v : Value} (h : Eng c w pc st hp fu A len cap v) (k : c.Ok) {g : Nat} (hg : w.grownBy w' (some g)) (h1 : c.w0.heap.size <= g) (h2 : v.ownBlock ≠ some g) (h3 : ∀ b, inSl A len b -> b ≠ g) : Eng c w' pc st hp fu A len cap v := by
 have hG := h.ltG k
 have hT := h.ltT k
 have kg : w'.heap[c.G]? = w.heap[c.G]? := hg.block _ hG (fun e => by have := Option.some.inj e; have := k.hG; omega)
 have kt : w'.heap[c.T]? = w.heap[c.T]? := hg.block _ hT (fun e => by have := Option.some.inj e; have := k.hT; omega)
 have cg : ∀ j, w'.cell? ⟨c.G, j, none⟩ = w.cell? ⟨c.G, j, none⟩ := fun j => World.cell?_of_block (a := ⟨c.G, j, none⟩) kg
 have ct : ∀ j, w'.cell? ⟨c.T, j, none⟩ = w.cell? ⟨c.T, j, none⟩ := fun j => World.cell?_of_block (a := ⟨c.T, j, none⟩) kt
 exact ⟨h.tur.grown hg (fun b e => Or.inr (Or.inr (by have := Option.some.inj e; omega))), (cg 0).trans h.g0, (cg 1).trans h.g1, (cg 2).trans h.g2, (cg 3).trans h.g3, (cg 4).trans h.g4, (cg 5).trans h.g5, (cg 6).trans h.g6, (cg 7).trans h.g7, fun j => (World.frozen?_of_block (a := ⟨c.G, j, none⟩) kg).trans (h.gf j),
  (ct 0).trans h.t0, (ct 1).trans h.t1, (ct 5).trans h.t5, (ct 6).trans h.t6, fun j => (World.frozen?_of_block (a := ⟨c.T, j, none⟩) kt).trans (h.tf j), h.heap.grown hg (fun b hb e => h3 b hb (Option.some.inj e).symm), h.apart, h.stack.grow hg (by cases hv : v.ownBlock with | none => exact Or.inl rfl | some b => exact Or.inr (fun e => h2 (hv.trans e)))⟩
theorem grown_new {w w' w'' : World} {r : Option Nat} {g : Nat} (h : w.grownBy w' r) (hg : w'.grownBy w'' (some g)) (hn : w.heap.size <= g) : w.grownBy w'' r :=
 ⟨hg.os.trans h.os, hg.tape.trans h.tape, hg.output.trans h.output, Nat.le_trans h.size hg.size, fun k hk hr => (hg.block k (Nat.lt_of_lt_of_le hk h.size) (fun e => by have := Option.some.inj e; omega)).trans (h.block k hk hr)⟩
theorem wrows_3 {W : World} {q : Nat} {A1 A2 A3 : Option Addr} {m1 c1 m2 c2 m3 c3 : Nat} {x1 x2 x3 : List Wd} (h1 : W.cell? ⟨q, 0, none⟩ = some (.slice A1 m1 c1)) (h2 : W.cell? ⟨q, 1, none⟩ = some (.slice A2 m2 c2)) (h3 : W.cell? ⟨q, 2, none⟩ = some (.slice A3 m3 c3)) (hq : q < W.heap.size)
  (w1 : WdsAt W A1 m1 c1 x1) (w2 : WdsAt W A2 m2 c2 x2) (w3 : WdsAt W A3 m3 c3 x3) : WRows W (some ⟨q, 0, none⟩) 3 [x1, x2, x3] :=
 ⟨rfl, fun _ => ⟨q, 0, rfl, hq, fun i hi => by
  match i, hi with
  | 0, _ => exact ⟨A1, m1, c1, w1.size, h1, w1⟩
  | 1, _ => exact ⟨A2, m2, c2, w2.size, h2, w2⟩
  | 2, _ => exact ⟨A3, m3, c3, w3.size, h3, w3⟩⟩⟩
theorem flat_snoc (h : Hp) (a b : Wd) : flat (h ++ [(a, b)]) = flat h ++ [pairW, a, b] := by
 unfold flat
 rw [List.flatMap_append]
 simp [trip]
set_option maxHeartbeats 4000000 in
theorem fresh_any {c : EC} (k : c.Ok) {w : World} {pc : Int} {st : List Wd} {hp : Hp} {fu : Int} {A : Option Addr} {len cap : Nat} {v : Value} (h : Eng c w pc st hp fu A len cap v) (hsm : len + 3 <= 60000) {Af : Option Addr} {cf : Nat} (hf : WdsAt w Af 1 cf [pairW]) {Al : Option Addr} {cl : Nat} {a b : Wd} (hl : WdsAt w Al 2 cl [a, b]) :
  Calls Tryz.prog 78 #[.pointer (some ⟨c.G, 0, none⟩), .slice Af 1 cf, .slice Al 2 cl] w fun e w' => e = .returned (.tuple #[.agg #[.int .i64 5, .int .i64 len, .string ⟨#[]⟩], .int .i64 0]) /\ (∃ A' cap', Eng c w' pc st (hp ++ [(a, b)]) fu A' (len + 3) cap' v /\ ∀ b, inSl A' (len + 3) b -> w.heap.size <= b) /\ w.grownBy w' (some c.G) := by
 obtain ⟨wb, hwb⟩ : ∃ wb, w.alloc (.cells #[.int .i64 0, .int .i64 0, .string ⟨#[]⟩] 49) = wb := ⟨_, rfl⟩
 have hb : Below w.heap.size w wb := by rw [<- hwb]; exact (Below.refl _ _).alloc (Nat.le_refl _) _
 have z0 : wb.cell? ⟨w.heap.size, 0, none⟩ = some (.int .i64 0) := by rw [<- hwb]; exact za _ _ _ 0
 have z1 : wb.cell? ⟨w.heap.size, 1, none⟩ = some (.int .i64 0) := by rw [<- hwb]; exact za _ _ _ 1
 have z2 : wb.cell? ⟨w.heap.size, 2, none⟩ = some (.string ⟨#[]⟩) := by rw [<- hwb]; exact za _ _ _ 2
 have zf : ∀ j, wb.frozen? ⟨w.heap.size, j, none⟩ = false := by intro j; rw [<- hwb]; exact ze _ _ _ _
 have hlt : w.heap.size < wb.heap.size := by rw [<- hwb]; simp
 have hE := h.new k hb
 have g3 := hE.g3
 have g4 := hE.g4
 have hGb := hE.ltG k
 have HE := Lib.hid hE
 have HWB := Lib.hid hwb
 have HBW := Lib.hid hb
 have HF := Lib.hid (hf.below hb)
 have HL := Lib.hid (hl.below hb)
 have HSZ := Lib.hid h.heap.size
 have hl63 : len <= 9223372036854775807 := by omega
 obtain ⟨y, hy⟩ : ∃ y : Int, (len : Int) + 3 = y := ⟨_, rfl⟩
 have hsm2 : ¬ (60000 : Int) < y := by omega
 have hy0 : 0 <= y := by omega
 have hGw := h.ltG k
 have hbase := h.tur.size
 have HOWN := Lib.hid (show ∀ b, v.ownBlock = some b -> b < w.heap.size from fun b e => (h.ownB e).2)
 clear h hf hl hwb hE hb
 go_enter Tryz.func78, Tryz.ntmps78
 go_upto_region 1 with fail
 rw [HWB.out]
 go_wp2_with fail
 go_quiet (fail)
 go_upto_region 4 with fail
 obtain ⟨w1, hw1⟩ : ∃ w1, wb.drewN nq = w1 := ⟨_, rfl⟩
 have hb1 : Below wb.heap.size wb w1 := by rw [<- hw1]; exact below_drewN (Below.refl _ _) _
 have g31 := (HE.out.new k hb1).g3
 have g41 := (HE.out.new k hb1).g4
 rw [hw1]
 have HB1 := Lib.hid hb1
 clear hw1 hb1
 go_quiet (fail)
 go_upto_region 6 with fail
 obtain ⟨w2, hw2⟩ : ∃ w2, w1.drewN nq = w2 := ⟨_, rfl⟩
 have hb12 : Below w1.heap.size w1 w2 := by rw [<- hw2]; exact below_drewN (Below.refl _ _) _
 have hb2 := HB1.out.trans (hb12.mono HB1.out.size)
 have g32 := (HE.out.new k hb2).g3
 have hs02 := hb2.size
 rw [hw2]
 clear hw2 hb12
 go_upto_region 7 with fail
 obtain ⟨w3, hw3⟩ : ∃ w3, w2.alloc (.cells #[.int .i64 5, .int .i64 len, .string ⟨#[]⟩] 49) = w3 := ⟨_, rfl⟩
 have hb23 : Below w2.heap.size w2 w3 := by rw [<- hw3]; exact (Below.refl _ _).alloc (Nat.le_refl _) _
 have hb3 := hb2.trans (hb23.mono hb2.size)
 have p0 : w3.cell? ⟨w2.heap.size, 0, none⟩ = some (.int .i64 5) := by rw [<- hw3]; exact za _ _ _ 0
 have p1 : w3.cell? ⟨w2.heap.size, 1, none⟩ = some (.int .i64 len) := by rw [<- hw3]; exact za _ _ _ 1
 have p2 : w3.cell? ⟨w2.heap.size, 2, none⟩ = some (.string ⟨#[]⟩) := by rw [<- hw3]; exact za _ _ _ 2
 have hlt3 : w2.heap.size < w3.heap.size := by rw [<- hw3]; simp
 have g33 := (HE.out.new k hb3).g3
 have HB3 := Lib.hid hb3
 rw [hw3]
 clear hw3 hb23 hb2 hb3
 go_wp2_with fail
 obtain ⟨w4, hw4⟩ : ∃ w4, w3.alloc (.cells #[.slice A len cap, .slice Af 1 cf, .slice Al 2 cl] 42) = w4 := ⟨_, rfl⟩
 have hb34 : Below w3.heap.size w3 w4 := by rw [<- hw4]; exact (Below.refl _ _).alloc (Nat.le_refl _) _
 have hb4 := HB3.out.trans (hb34.mono HB3.out.size)
 have l0 : w4.cell? ⟨w3.heap.size, 0, none⟩ = some (.slice A len cap) := by rw [<- hw4]; exact za _ _ _ 0
 have l1 : w4.cell? ⟨w3.heap.size, 1, none⟩ = some (.slice Af 1 cf) := by rw [<- hw4]; exact za _ _ _ 1
 have l2 : w4.cell? ⟨w3.heap.size, 2, none⟩ = some (.slice Al 2 cl) := by rw [<- hw4]; exact za _ _ _ 2
 have l3 : w3.heap.size < w4.heap.size := by rw [<- hw4]; simp
 rw [hw4]
 have hR := wrows_3 l0 l1 l2 l3 (HE.out.new k hb4).heap (HF.out.below hb4) (HL.out.below hb4)
 have hfl : ([flat hp, [pairW], [a, b]] : List (List Wd)).flatten = flat (hp ++ [(a, b)]) := by rw [flat_snoc]; rfl
 have hfs : (flat (hp ++ [(a, b)])).length = len + 3 := by rw [flat_snoc, List.length_append, HSZ.out]; rfl
 refine (wordsCopy_any _ 3 3 _ w4 (by unfold maxLen; omega) (Nat.le_refl _) hR (by rw [hfl, hfs]; omega)).mono ?_
 rintro e w5 ⟨v5, rfl, hO5, hb5⟩
 rw [hfl] at hO5
 obtain ⟨A5, c5, rfl, hw5, hA5⟩ := hO5.wds
 rw [hfs] at hw5 ⊢
 have hb05 := hb4.trans (hb5.mono hb4.size)
 have hE5 := HE.out.new k hb05
 have g35 := hE5.g3
 have gf5 := hE5.gf 3
 have hnb : ∀ q, inSl A5 (len + 3) q -> w4.heap.size <= q := fun q hq => by obtain ⟨x, hx, _, rfl⟩ := hq; exact hA5 x hx
 have hs34 := hb34.size
 have hs03 := HB3.out.size
 have hE6 := hE5.setHp k hw5 (fun q hq => ⟨by have := hnb q hq; omega, by have := hnb q hq; have := HE.out.ltT k; omega, fun e => by have h1 := (HE.out.ownB e).2; have := hnb q hq; omega⟩)
 have hb35 := hb34.trans (hb5.mono hb34.size)
 have hne : w2.heap.size ≠ c.G := by omega
 have p05 := (hb35.cell (p := ⟨w2.heap.size, 0, none⟩) hlt3).trans p0
 have p15 := (hb35.cell (p := ⟨w2.heap.size, 1, none⟩) hlt3).trans p1
 have p25 := (hb35.cell (p := ⟨w2.heap.size, 2, none⟩) hlt3).trans p2
 have n0 := (hb05.cell (p := ⟨w.heap.size, 0, none⟩) hlt).trans z0
 have n1 := (hb05.cell (p := ⟨w.heap.size, 1, none⟩) hlt).trans z1
 have n2 := (hb05.cell (p := ⟨w.heap.size, 2, none⟩) hlt).trans z2
 have nf : ∀ j, w5.frozen? ⟨w.heap.size, j, none⟩ = false := fun j => (hb05.frozen (p := ⟨w.heap.size, j, none⟩) hlt).trans (zf j)
 have HE6 := Lib.hid hE6
 have HGR := Lib.hid ((zb (HBW.out.trans (hb05.mono HBW.out.size)) (some c.G)).trans (zd w5 c.G 3 (.slice A5 (len + 3) c5)))
 have HNB := Lib.hid hnb
 clear hR hfl hO5 hw5 hA5 hE5 hE6 hnb hb5 hb05 hb35 hb34 hb4 l0 l1 l2 hw4 p0 p1 p2 z0 z1 z2 zf g3 g4 g31 g41 g32 g33
 go_upto_region 8 with fail
 obtain ⟨w6, hw6⟩ : ∃ w6, w5.setCell ⟨c.G, 3, none⟩ (.slice A5 (len + 3) c5) = w6 := ⟨_, rfl⟩
 have hwG : w.heap.size ≠ c.G := by omega
 have p06 : w6.cell? ⟨w2.heap.size, 0, none⟩ = some (.int .i64 5) := by rw [<- hw6]; exact set_otherB p05 hne
 have p16 : w6.cell? ⟨w2.heap.size, 1, none⟩ = some (.int .i64 len) := by rw [<- hw6]; exact set_otherB p15 hne
 have p26 : w6.cell? ⟨w2.heap.size, 2, none⟩ = some (.string ⟨#[]⟩) := by rw [<- hw6]; exact set_otherB p25 hne
 have n06 : w6.cell? ⟨w.heap.size, 0, none⟩ = some (.int .i64 0) := by rw [<- hw6]; exact set_otherB n0 hwG
 have n16 : w6.cell? ⟨w.heap.size, 1, none⟩ = some (.int .i64 0) := by rw [<- hw6]; exact set_otherB n1 hwG
 have n26 : w6.cell? ⟨w.heap.size, 2, none⟩ = some (.string ⟨#[]⟩) := by rw [<- hw6]; exact set_otherB n2 hwG
 have nf0 : w6.frozen? ⟨w.heap.size, 0, none⟩ = false := by rw [<- hw6, World.frozen?_setCell]; exact nf 0
 have nf1 : w6.frozen? ⟨w.heap.size, 1, none⟩ = false := by rw [<- hw6, World.frozen?_setCell]; exact nf 1
 have nf2 : w6.frozen? ⟨w.heap.size, 2, none⟩ = false := by rw [<- hw6, World.frozen?_setCell]; exact nf 2
 have HG6 := Lib.hid (show w.grownBy w6 (some c.G) by rw [<- hw6]; exact HGR.out)
 have HE7 := Lib.hid (show Eng c w6 pc st (hp ++ [(a, b)]) fu A5 (len + 3) c5 v by rw [<- hw6]; exact HE6.out)
 have s0 := set3_0 (u0 := .int .i64 5) (u1 := .int .i64 len) (u2 := .string ⟨#[]⟩) n06
 have s1 := set3_1 (u0 := .int .i64 5) (u1 := .int .i64 len) (u2 := .string ⟨#[]⟩) n16
 have s2 := set3_2 (u0 := .int .i64 5) (u1 := .int .i64 len) (u2 := .string ⟨#[]⟩) n26
 have S0 := Lib.hid s0
 have S1 := Lib.hid s1
 have S2 := Lib.hid s2
 rw [hw6]
 clear hw6 p05 p15 p25 n0 n1 n2 nf s0 s1 s2 g35 gf5
 go_wp2_with fail
 have s0 := S0.out
 have s1 := S1.out
 have s2 := S2.out
 refine bodyPost_ret (v := .tuple #[.agg #[.int .i64 5, .int .i64 len, .string ⟨#[]⟩], .int .i64 0]) (by simp [results, Tryz.results78, go_sem, s0, s1, s2]) rfl ?_
 exact ⟨rfl, ⟨_, _, HE7.out.other k (grown_set3 _ _ _ _ _) hbase (fun e => Nat.lt_irrefl _ (HOWN.out _ e)) (fun q hq e => by have := HNB.out q hq; omega), fun q hq => by have := HNB.out q hq; omega⟩, grown_new HG6.out (grown_set3 _ _ _ _ _) (Nat.le_refl _)⟩
end Go.Proofs.YtfhbdlobhjegcaaGreatDoor
