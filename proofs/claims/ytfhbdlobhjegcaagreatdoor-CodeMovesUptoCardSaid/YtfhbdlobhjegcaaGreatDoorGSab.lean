import Derived.Test.YtfhbdlobhjegcaaGreatDoorPm
import Derived.Deep.RegionHeld3
import Derived.Deep.LoopGhost
import Derived.Test.YtfhbdlobhjegcaaGreatDoorQj
import Derived.Test.YtfhbdlobhjegcaaGreatDoorGPlain
namespace Go.Proofs.YtfhbdlobhjegcaaGreatDoor
open Go.RowKit Go.ChangeShapes Go.WideShapes Go.Deep Go.ChangeAt
set_option linter.unusedVariables false
set_option maxRecDepth 20000
structure MV where
 k : Int
 n : Int
 s : ByteArray
 p : Option Addr
def MV.cells (x : MV) : List Value := [.int .i64 x.k, .int .i64 x.n, .string x.s, .pointer x.p]
def MV.agg (x : MV) : Value := .agg #[.int .i64 x.k, .int .i64 x.n, .string x.s, .pointer x.p]
inductive VlIn (w : World) (lo hi : Nat) : MV -> Vl -> Prop
 | int (n : Int) : VlIn w lo hi ⟨1, n, ⟨#[]⟩, none⟩ (.int n)
 | bool (n : Int) : VlIn w lo hi ⟨2, n, ⟨#[]⟩, none⟩ (.bool n)
 | nil : VlIn w lo hi ⟨3, 0, ⟨#[]⟩, none⟩ .nil
 | sym (s : ByteArray) : VlIn w lo hi ⟨4, 0, s, none⟩ (.sym s)
 | pair (t p : Nat) (x y : MV) (a b : Vl) (t1 : lo <= t) (t2 : t < hi) (t3 : t < w.heap.size) (p1 : lo <= p) (p2 : p < hi) (p3 : p < w.heap.size) (hc : ∃ cs, w.heap[t]? = some (.cells cs 137)) (hk : w.cell? ⟨t, 0, none⟩ = some (.int .i64 6)) (hr : w.cell? ⟨t, 2, none⟩ = some (.slice (some ⟨p, 0, none⟩) 2 2)) (hx : RowAt w p 0 x.cells) (hy : RowAt w p 4 y.cells) (ha : VlIn w lo hi x a) (hb : VlIn w lo hi y b) :
   VlIn w lo hi ⟨0, 0, ⟨#[]⟩, some ⟨t, 0, none⟩⟩ (.pair a b)
theorem VlIn.keep {w w' : World} {lo hi lo' hi' : Nat} {x : MV} {v : Vl} (h : VlIn w lo hi x v) (hk : Keep lo hi w w') (hs : w.heap.size <= w'.heap.size) (h1 : lo' <= lo) (h2 : hi <= hi') : VlIn w' lo' hi' x v := by
 induction h with
 | int n => exact .int n
 | bool n => exact .bool n
 | nil => exact .nil
 | sym s => exact .sym s
 | pair t p x y a b t1 t2 t3 p1 p2 p3 hc hk' hr hx hy ha hb iha ihb =>
  have bt := hk t t1 t2 t3
  have bp := hk p p1 p2 p3
  exact .pair t p x y a b (by omega) (by omega) (by omega) (by omega) (by omega) (by omega) (by obtain ⟨cs, hcs⟩ := hc; exact ⟨cs, bt.trans hcs⟩) ((World.cell?_of_block (a := ⟨t, 0, none⟩) bt).trans hk') ((World.cell?_of_block (a := ⟨t, 2, none⟩) bt).trans hr) (fun j hj => (World.cell?_of_block (a := ⟨p, _, none⟩) bp).trans (hx j hj)) (fun j hj => (World.cell?_of_block (a := ⟨p, _, none⟩) bp).trans (hy j hj)) iha ihb
theorem VlIn.new {w w' : World} {lo hi hi' : Nat} {x : MV} {v : Vl} (h : VlIn w lo hi x v) (hb : Below w.heap.size w w') (h2 : hi <= hi') : VlIn w' lo hi' x v := h.keep (zr hb) hb.size (Nat.le_refl _) h2
theorem VlIn.empty {w w' : World} {lo hi lo' hi' : Nat} {x : MV} {v : Vl} (h : VlIn w lo hi x v) (he : hi <= lo) : VlIn w' lo' hi' x v := by
 cases h with
 | int n => exact .int n
 | bool n => exact .bool n
 | nil => exact .nil
 | sym s => exact .sym s
 | pair => omega
structure RAt (w : World) (R : Nat) (A : Option Addr) (cap : Nat) (ol : List Int) : Prop where
 lt : R < w.heap.size
 c3 : w.cell? ⟨R, 3, none⟩ = some (.bool true)
 c4 : ∃ n : Int, w.cell? ⟨R, 4, none⟩ = some (.int .i64 n)
 c5 : w.cell? ⟨R, 5, none⟩ = some (.slice A ol.length cap)
 fz : ∀ j, w.frozen? ⟨R, j, none⟩ = false
 le : ol.length <= cap
 cap_ : cap <= maxLen
 row : 0 < ol.length -> ∃ b o, A = some ⟨b, o, none⟩ /\ b < w.heap.size /\ b ≠ R /\ ∀ i, (h : i < ol.length) -> RowAt w b (o + i * 4) (⟨1, ol[i], ⟨#[]⟩, none⟩ : MV).cells
structure Rnr (R : Nat) (w w' : World) : Prop where
 os : w'.os = w.os
 tape : w'.tape = w.tape
 output : w'.output = w.output
 size : w.heap.size <= w'.heap.size
 block : ∀ b, b < w.heap.size -> b ≠ R -> w'.heap[b]? = w.heap[b]?
 cell : ∀ j, j ≠ 4 -> w'.cell? ⟨R, j, none⟩ = w.cell? ⟨R, j, none⟩
 c4 : (∃ n : Int, w.cell? ⟨R, 4, none⟩ = some (.int .i64 n)) -> ∃ n : Int, w'.cell? ⟨R, 4, none⟩ = some (.int .i64 n)
 fz : ∀ j, w'.frozen? ⟨R, j, none⟩ = w.frozen? ⟨R, j, none⟩
theorem Rnr.refl (R : Nat) (w : World) : Rnr R w w := ⟨rfl, rfl, rfl, Nat.le_refl _, fun _ _ _ => rfl, fun _ _ => rfl, id, fun _ => rfl⟩
theorem Rnr.trans {R : Nat} {w w' w'' : World} (h : Rnr R w w') (h' : Rnr R w' w'') : Rnr R w w'' :=
 ⟨h'.os.trans h.os, h'.tape.trans h.tape, h'.output.trans h.output, Nat.le_trans h.size h'.size, fun b hl h1 => (h'.block b (Nat.lt_of_lt_of_le hl h.size) h1).trans (h.block b hl h1), fun j hj => (h'.cell j hj).trans (h.cell j hj), fun hn => h'.c4 (h.c4 hn), fun j => (h'.fz j).trans (h.fz j)⟩
theorem Rnr.new {R : Nat} {w w' : World} (hb : Below w.heap.size w w') (hR : R < w.heap.size) : Rnr R w w' :=
 ⟨hb.os, hb.tape, hb.output, hb.size, fun b hl _ => hb.block b hl, fun j _ => hb.cell (p := ⟨R, j, none⟩) hR, fun ⟨n, hn⟩ => ⟨n, (hb.cell (p := ⟨R, 4, none⟩) hR).trans hn⟩, fun j => hb.frozen (p := ⟨R, j, none⟩) hR⟩
theorem Rnr.set {R : Nat} (w : World) {m : Int} (hc : ∃ n : Int, w.cell? ⟨R, 4, none⟩ = some (.int .i64 n)) : Rnr R w (w.setCell ⟨R, 4, none⟩ (.int .i64 m)) := by
 have hg := zd w R 4 (.int .i64 m)
 obtain ⟨n, hn⟩ := hc
 exact ⟨hg.os, hg.tape, hg.output, hg.size, fun b hl h1 => hg.block b hl (fun e => h1 (Option.some.inj e)), fun j hj => World.cell?_setCell_other (h := by intro e; cases e; exact hj rfl) .., fun _ => ⟨m, zh hn⟩, fun j => by rw [World.frozen?_setCell]⟩
theorem Rnr.grown {R : Nat} {w w' : World} {row : Option Nat} (hg : w.grownBy w' row) (hR : R < w.heap.size) (hr : row ≠ some R) (hn : ∀ b, row = some b -> w.heap.size <= b) : Rnr R w w' :=
 ⟨hg.os, hg.tape, hg.output, hg.size, fun b hl _ => hg.block b hl (fun e => by have := hn b e.symm; omega), fun j _ => World.cell?_of_block (a := ⟨R, j, none⟩) (hg.block R hR (fun e => hr e.symm)), fun ⟨n, h⟩ => ⟨n, (World.cell?_of_block (a := ⟨R, 4, none⟩) (hg.block R hR (fun e => hr e.symm))).trans h⟩, fun j => World.frozen?_of_block (a := ⟨R, j, none⟩) (hg.block R hR (fun e => hr e.symm))⟩
theorem Rnr.below {R n : Nat} {w w' : World} (h : Rnr R w w') (hn : n <= w.heap.size) (hR : n <= R) : Below n w w' := ⟨h.os, h.tape, h.output, h.size, fun b hl => h.block b (by omega) (by omega)⟩
theorem Rnr.keep {R lo hi : Nat} {w w' : World} (h : Rnr R w w') (hR : R < lo \/ hi <= R) : Keep lo hi w w' := fun b h1 h2 h3 => h.block b h3 (by omega)
theorem RAt.rn {w w' : World} {R : Nat} {A : Option Addr} {cap : Nat} {ol : List Int} (h : RAt w R A cap ol) (hr : Rnr R w w') : RAt w' R A cap ol :=
 ⟨Nat.lt_of_lt_of_le h.lt hr.size, (hr.cell 3 (by decide)).trans h.c3, hr.c4 h.c4, (hr.cell 5 (by decide)).trans h.c5, fun j => (hr.fz j).trans (h.fz j), h.le, h.cap_, fun h0 => by
  obtain ⟨b, o, hA, hl, hne, hrow⟩ := h.row h0
  exact ⟨b, o, hA, Nat.lt_of_lt_of_le hl hr.size, hne, fun i hi j hj => (World.cell?_of_block (a := ⟨b, _, none⟩) (hr.block b hl hne)).trans (hrow i hi j hj)⟩⟩
theorem Rnr.at_ {R : Nat} {w w' : World} (h : Rnr R w w') {b : Nat} (j : Nat) (hl : b < w.heap.size) (hR : R < b) : w'.cell? ⟨b, j, none⟩ = w.cell? ⟨b, j, none⟩ := World.cell?_of_block (a := ⟨b, j, none⟩) (h.block b hl (by omega))
theorem Rnr.fzn {R : Nat} {w w' : World} (h : Rnr R w w') {b : Nat} (j : Nat) (hl : b < w.heap.size) (hR : R < b) : w'.frozen? ⟨b, j, none⟩ = w.frozen? ⟨b, j, none⟩ := World.frozen?_of_block (a := ⟨b, j, none⟩) (h.block b hl (by omega))
theorem MV.row {w : World} {b o : Nat} {x : MV} (h0 : w.cell? ⟨b, o, none⟩ = some (.int .i64 x.k)) (h1 : w.cell? ⟨b, o + 1, none⟩ = some (.int .i64 x.n)) (h2 : w.cell? ⟨b, o + 2, none⟩ = some (.string x.s)) (h3 : w.cell? ⟨b, o + 3, none⟩ = some (.pointer x.p)) : RowAt w b o x.cells := fun j hj => by
 match j, hj with
 | 0, _ => exact h0
 | 1, _ => exact h1
 | 2, _ => exact h2
 | 3, _ => exact h3
theorem MV.at_ {w : World} {b o : Nat} {x : MV} (h : RowAt w b o x.cells) : w.cell? ⟨b, o, none⟩ = some (.int .i64 x.k) /\ w.cell? ⟨b, o + 1, none⟩ = some (.int .i64 x.n) /\ w.cell? ⟨b, o + 2, none⟩ = some (.string x.s) /\ w.cell? ⟨b, o + 3, none⟩ = some (.pointer x.p) := ⟨h 0 (by simp [MV.cells]), h 1 (by simp [MV.cells]), h 2 (by simp [MV.cells]), h 3 (by simp [MV.cells])⟩
structure ME where
 x : MV
 v : Vl
 lo : Nat
 hi : Nat
def kitME : Kit ME where
 k := 4
 cells e := e.x.cells
 len x := rfl
 one x u hu := by
  simp only [MV.cells, List.mem_cons, List.not_mem_nil, or_false] at hu
  rcases hu with rfl | rfl | rfl | rfl <;> rfl
 ok w e := VlIn w e.lo e.hi e.x e.v /\ e.hi <= w.heap.size
 uses e b := e.lo <= b /\ b < e.hi
 lt w x b h hb := Nat.lt_of_lt_of_le hb.2 h.2
 kept w w' x row h hg hn := ⟨h.1.keep (zi hg (fun b h1 h2 => hn b ⟨h1, h2⟩)) hg.size (Nat.le_refl _) (Nat.le_refl _), Nat.le_trans h.2 hg.size⟩
set_option maxHeartbeats 2000000 in
theorem asVal_any (k n : Int) (s : ByteArray) (w : World) : Calls Tryz.prog 24 #[.agg #[.int .i64 k, .int .i64 n, .string s]] w fun e w' => e = .returned (.agg #[.int .i64 k, .int .i64 n, .string s, .pointer none]) /\ Below w.heap.size w w' := by
 go_enter Tryz.func24, Tryz.ntmps24
 go_wp2_with fail
 refine bodyPost_ret (v := .agg #[.int .i64 k, .int .i64 n, .string s, .pointer none]) (by simp [results, Tryz.results24, go_sem]) rfl ?_
 exact ⟨rfl, ((Below.refl w.heap.size w).alloc (Nat.le_refl _) _).alloc (by simp) _⟩
set_option maxHeartbeats 2000000 in
theorem isFalse_any {w : World} {lo hi : Nat} {k n : Int} {s : ByteArray} {p : Option Addr} {v : Vl} (h : VlIn w lo hi ⟨k, n, s, p⟩ v) : Calls Tryz.prog 85 #[.agg #[.int .i64 k, .int .i64 n, .string s, .pointer p]] w fun e w' => e = .returned (.bool (isF v)) /\ Below w.heap.size w w' := by
 have HW := Lib.hid ((Below.refl w.heap.size w).alloc (Nat.le_refl _) (.cells #[.int .i64 k, .int .i64 n, .string s, .pointer p] 98))
 cases h with
 | int n =>
  go_enter Tryz.func85, Tryz.ntmps85
  go_wp2_with fail
  go_ret
  exact ⟨rfl, HW.out⟩
 | bool n =>
  go_enter Tryz.func85, Tryz.ntmps85
  go_wp2_with fail
  go_ret
  exact ⟨rfl, HW.out⟩
 | nil =>
  go_enter Tryz.func85, Tryz.ntmps85
  go_wp2_with fail
  go_ret
  exact ⟨rfl, HW.out⟩
 | sym s =>
  go_enter Tryz.func85, Tryz.ntmps85
  go_wp2_with fail
  go_ret
  exact ⟨rfl, HW.out⟩
 | pair t p x y a b t1 t2 t3 p1 p2 p3 hc hk hr hx hy ha hb =>
  clear hc hk hr hx hy ha hb
  go_enter Tryz.func85, Tryz.ntmps85
  go_wp2_with fail
  go_ret
  exact ⟨rfl, HW.out⟩
set_option maxHeartbeats 2000000 in
theorem isA_any {w : World} {lo hi : Nat} {k n : Int} {s : ByteArray} {p : Option Addr} {v : Vl} (h : VlIn w lo hi ⟨k, n, s, p⟩ v) : Calls Tryz.prog 56 #[.agg #[.int .i64 k, .int .i64 n, .string s, .pointer p], .int .i64 6] w fun e w' => e = .returned (.bool (isP v)) /\ Below w.heap.size w w' := by
 have HW := Lib.hid ((Below.refl w.heap.size w).alloc (Nat.le_refl _) (.cells #[.int .i64 k, .int .i64 n, .string s, .pointer p] 98))
 cases h with
 | int n =>
  go_enter Tryz.func56, Tryz.ntmps56
  go_wp2_with fail
  go_ret
  exact ⟨rfl, HW.out⟩
 | bool n =>
  go_enter Tryz.func56, Tryz.ntmps56
  go_wp2_with fail
  go_ret
  exact ⟨rfl, HW.out⟩
 | nil =>
  go_enter Tryz.func56, Tryz.ntmps56
  go_wp2_with fail
  go_ret
  exact ⟨rfl, HW.out⟩
 | sym s =>
  go_enter Tryz.func56, Tryz.ntmps56
  go_wp2_with fail
  go_ret
  exact ⟨rfl, HW.out⟩
 | pair t p x y a b t1 t2 t3 p1 p2 p3 hc hk hr hx hy ha hb =>
  clear hc hr hx hy ha hb
  have z := (HW.out.cell (p := ⟨t, 0, none⟩) t3).trans hk
  clear hk
  go_enter Tryz.func56, Tryz.ntmps56
  go_wp2_with fail
  go_ret
  exact ⟨rfl, HW.out⟩
theorem set4_at {w w' : World} {O : Nat} {x y : MV} (h : (((w.setCell ⟨O, 0, none⟩ (.int .i64 x.k)).setCell ⟨O, 1, none⟩ (.int .i64 x.n)).setCell ⟨O, 2, none⟩ (.string x.s)).setCell ⟨O, 3, none⟩ (.pointer x.p) = w') (hy : RowAt w O 0 y.cells) :
  RowAt w' O 0 x.cells /\ w.grownBy w' (some O) /\ ∀ j, w'.frozen? ⟨O, j, none⟩ = w.frozen? ⟨O, j, none⟩ := by
 obtain ⟨y0, y1, y2, y3⟩ := MV.at_ hy
 subst h
 refine ⟨MV.row (zg (zg (zg (zh y0) (by decide)) (by decide)) (by decide)) (zg (zg (zh (zg y1 (by decide))) (by decide)) (by decide)) (zg (zh (zg (zg y2 (by decide)) (by decide))) (by decide)) (zh (zg (zg (zg y3 (by decide)) (by decide)) (by decide))), ?_, fun j => by simp only [World.frozen?_setCell]⟩
 exact (((zd _ _ _ _).trans (zd _ _ _ _)).trans (zd _ _ _ _)).trans (zd _ _ _ _)
def VPost (R : Nat) (w : World) (v : Vl) (e : Ending) (w' : World) : Prop := ∃ k n s p, e = .returned (.agg #[.int .i64 k, .int .i64 n, .string s, .pointer p]) /\ VlIn w' w.heap.size w'.heap.size ⟨k, n, s, p⟩ v /\ Rnr R w w'
theorem Rnr.set2 {R : Nat} {w w1 w2 : World} {O : Nat} (h : Rnr R w w1) (hR : R < w.heap.size) (hO : w.heap.size <= O) (hg : w1.grownBy w2 (some O)) : Rnr R w w2 :=
 ⟨hg.os.trans h.os, hg.tape.trans h.tape, hg.output.trans h.output, Nat.le_trans h.size hg.size, fun b hl h1 => (hg.block b (Nat.lt_of_lt_of_le hl h.size) (fun e => by have := Option.some.inj e; omega)).trans (h.block b hl h1),
  fun j hj => (World.cell?_of_block (a := ⟨R, j, none⟩) (hg.block R (Nat.lt_of_lt_of_le hR h.size) (fun e => by have := Option.some.inj e; omega))).trans (h.cell j hj),
  fun hn => by
  obtain ⟨n, hn⟩ := h.c4 hn
  exact ⟨n, (World.cell?_of_block (a := ⟨R, 4, none⟩) (hg.block R (Nat.lt_of_lt_of_le hR h.size) (fun e => by have := Option.some.inj e; omega))).trans hn⟩,
  fun j => (World.frozen?_of_block (a := ⟨R, j, none⟩) (hg.block R (Nat.lt_of_lt_of_le hR h.size) (fun e => by have := Option.some.inj e; omega))).trans (h.fz j)⟩
/- The reference's model: contract of datumVal. -/
theorem countDs_at (l : List Dt) (k : Nat) (hk : k < l.length) : countD l[k] <= countDs l := by
 induction l generalizing k with
 | nil => exact absurd hk (by simp)
 | cons a l ih =>
  cases k with
  | zero => simp [countDs]
  | succ k =>
   have hk' : k < l.length := by simpa using hk
   rw [countDs]
   have := ih k hk'
   simp only [List.getElem_cons_succ]
   omega
theorem datL_drop (l : List Dt) (k : Nat) (hk : k < l.length) : datL (l.drop k) = .pair (datV l[k]) (datL (l.drop (k + 1))) := by rw [List.drop_eq_getElem_cons hk, datL]
structure DvLp (w wr : World) (R O L : Nat) (A : Option Addr) (N cap : Nat) (x : MV) (v : Vl) : Prop where
 rn : Rnr R w wr
 box : wr.cell? ⟨w.heap.size, 3, none⟩ = some (.slice A N cap)
 res : RowAt wr (w.heap.size + 1) 0 (⟨0, 0, ⟨#[]⟩, none⟩ : MV).cells
 rf : ∀ j, wr.frozen? ⟨w.heap.size + 1, j, none⟩ = false
 out : RowAt wr O 0 x.cells
 of : ∀ j, wr.frozen? ⟨O, j, none⟩ = false
 lt : L <= wr.heap.size
 vl : VlIn wr L wr.heap.size x v
theorem RowAt.blk {w w' : World} {b o : Nat} {c : List Value} (h : RowAt w b o c) (hb : w'.heap[b]? = w.heap[b]?) : RowAt w' b o c := fun j hj => (World.cell?_of_block (a := ⟨b, _, none⟩) hb).trans (h j hj)
theorem pair_new {w4 w5 : World} {x y : MV} {cs : Array Value} (hcs : cs[0]? = some (.int .i64 6) /\ cs[2]? = some (.slice (some ⟨w4.heap.size, 0, none⟩) 2 2)) (h5 : (w4.alloc (.cells #[.int .i64 y.k, .int .i64 y.n, .string y.s, .pointer y.p, .int .i64 x.k, .int .i64 x.n, .string x.s, .pointer x.p] 98)).alloc (.cells cs 137) = w5) :
  Below w4.heap.size w4 w5 /\ w5.heap.size = w4.heap.size + 2 /\ (∃ cs, w5.heap[w4.heap.size + 1]? = some (.cells cs 137)) /\ w5.cell? ⟨w4.heap.size + 1, 0, none⟩ = some (.int .i64 6) /\ w5.cell? ⟨w4.heap.size + 1, 2, none⟩ = some (.slice (some ⟨w4.heap.size, 0, none⟩) 2 2) /\ RowAt w5 w4.heap.size 0 y.cells /\ RowAt w5 w4.heap.size 4 x.cells := by
 subst h5
 refine ⟨((Below.refl _ _).alloc (Nat.le_refl _) _).alloc (by simp) _, by simp, ⟨cs, by simp only [World.alloc]; rw [show w4.heap.size + 1 = (w4.heap.push (Obj.cells #[.int .i64 y.k, .int .i64 y.n, .string y.s, .pointer y.p, .int .i64 x.k, .int .i64 x.n, .string x.s, .pointer x.p] 98)).size by simp, Array.getElem?_push_size]⟩, (cell_second _ _ _ _ _ 0).trans hcs.1, (cell_second _ _ _ _ _ 2).trans hcs.2, MV.row (cell_first _ _ _ _ _ 0) (cell_first _ _ _ _ _ 1) (cell_first _ _ _ _ _ 2) (cell_first _ _ _ _ _ 3), MV.row (cell_first _ _ _ _ _ 4) (cell_first _ _ _ _ _ 5) (cell_first _ _ _ _ _ 6) (cell_first _ _ _ _ _ 7)⟩
theorem VlIn.hi_le {w w' : World} {lo hi hi' : Nat} {x : MV} {v : Vl} (h : VlIn w lo hi x v) (h2 : hi <= hi') (hk : Keep lo hi w w') (hs : w.heap.size <= w'.heap.size) : VlIn w' lo hi' x v := h.keep hk hs (Nat.le_refl _) h2
theorem DvLp.step {w wr w1 w3 w4 w5 w6 : World} {R O L : Nat} {A : Option Addr} {N cap : Nat} {x y : MV} {v vd : Vl} {m : Int} {cs : Array Value} (h : DvLp w wr R O L A N cap x v) (hR : R < w.heap.size) (hO : w.heap.size + 1 < O) (hOL : O < L) (hc4 : ∃ n : Int, w.cell? ⟨R, 4, none⟩ = some (.int .i64 n)) (hr1 : Rnr R wr w1) (hy : VlIn w1 wr.heap.size w1.heap.size y vd)
  (h3 : w1.alloc (.cells #[.int .i64 y.k, .int .i64 y.n, .string y.s, .pointer y.p] 98) = w3)
  (h4 : w3.setCell ⟨R, 4, none⟩ (.int .i64 m) = w4)
  (h5 : (((w4.setCell ⟨O, 0, none⟩ (.int .i64 0)).setCell ⟨O, 1, none⟩ (.int .i64 0)).setCell ⟨O, 2, none⟩ (.string ⟨#[]⟩)).setCell ⟨O, 3, none⟩ (.pointer (some ⟨w4.heap.size + 1, 0, none⟩)) = w5)
  (hcs : cs[0]? = some (.int .i64 6) /\ cs[2]? = some (.slice (some ⟨w4.heap.size, 0, none⟩) 2 2)) (h6 : (w5.alloc (.cells #[.int .i64 y.k, .int .i64 y.n, .string y.s, .pointer y.p, .int .i64 x.k, .int .i64 x.n, .string x.s, .pointer x.p] 98)).alloc (.cells cs 137) = w6) :
  DvLp w w6 R O L A N cap ⟨0, 0, ⟨#[]⟩, some ⟨w4.heap.size + 1, 0, none⟩⟩ (.pair vd v) := by
 have s1 := hr1.size
 have hlt := h.lt
 have hwr := h.rn.size
 have b13 : Below w1.heap.size w1 w3 := by rw [<- h3]; exact (Below.refl _ _).alloc (Nat.le_refl _) _
 have r1 := h.rn.trans hr1
 have r3 := r1.trans (Rnr.new b13 (Nat.lt_of_lt_of_le hR r1.size))
 have r34 : Rnr R w3 w4 := by rw [<- h4]; exact Rnr.set w3 (r3.c4 hc4)
 have r4 := r3.trans r34
 have r14 : Rnr R w1 w4 := (Rnr.new b13 (Nat.lt_of_lt_of_le hR r1.size)).trans r34
 have rr4 : Rnr R wr w4 := hr1.trans r14
 have s4 := rr4.size
 have s14 := r14.size
 have bO : w4.heap[O]? = wr.heap[O]? := rr4.block O (by omega) (by omega)
 obtain ⟨o5, g5, f5⟩ := set4_at (x := ⟨0, 0, ⟨#[]⟩, some ⟨w4.heap.size + 1, 0, none⟩⟩) h5 (h.out.blk bO)
 have e5 : w5.heap.size = w4.heap.size := by rw [<- h5]; simp
 rw [<- e5] at hcs
 obtain ⟨b56, s6, t6, k6, p6, ry, rx⟩ := pair_new hcs h6
 rw [e5] at s6 t6 k6 p6 ry rx
 have g46 : w4.grownBy w6 (some O) := g5.trans (zb b56 _)
 have kO : ∀ b, b < w4.heap.size -> b ≠ O -> w6.heap[b]? = w4.heap[b]? := fun b hl hne => g46.block b hl (fun e => hne (Option.some.inj e))
 have kk : ∀ b, b < wr.heap.size -> b ≠ O -> b ≠ R -> w6.heap[b]? = wr.heap[b]? := fun b hl h1 h2 => (kO b (Nat.lt_of_lt_of_le hl s4) h1).trans (rr4.block b hl h2)
 have b6O : w6.heap[O]? = w5.heap[O]? := b56.block O (by omega)
 refine ⟨r4.set2 hR (by omega) g46, ?_, ?_, ?_, o5.blk b6O, ?_, by omega, ?_⟩
 ·
  exact (World.cell?_of_block (a := ⟨w.heap.size, 3, none⟩) (kk w.heap.size (by omega) (by omega) (by omega))).trans h.box
 ·
  exact h.res.blk (kk (w.heap.size + 1) (by omega) (by omega) (by omega))
 ·
  intro j
  exact (World.frozen?_of_block (a := ⟨w.heap.size + 1, j, none⟩) (kk (w.heap.size + 1) (by omega) (by omega) (by omega))).trans (h.rf j)
 ·
  intro j
  rw [World.frozen?_of_block (a := ⟨O, j, none⟩) b6O, f5 j, World.frozen?_of_block (a := ⟨O, j, none⟩) bO]
  exact h.of j
 refine .pair (w4.heap.size + 1) w4.heap.size y x vd v (by omega) (by omega) (by omega) (by omega) (by omega) (by omega) t6 k6 p6 ry rx ?_ ?_
 ·
  refine hy.keep (fun b h1 h2 h3 => ?_) (by omega) (by omega) (by omega)
  exact (kO b (by omega) (by omega)).trans (r14.block b h3 (by omega))
 exact h.vl.keep (fun b h1 h2 h3 => kk b h3 (by omega) (by omega)) (by omega) (Nat.le_refl _) (by omega)
theorem DvLp.done {w wr w' : World} {R O L : Nat} {A : Option Addr} {N cap : Nat} {k n : Int} {s : ByteArray} {p : Option Addr} {v : Vl} (h : DvLp w wr R O L A N cap ⟨k, n, s, p⟩ v) (hR : R < w.heap.size) (hO : w.heap.size + 1 < O) (hOL : O < L)
  (hs : (((wr.setCell ⟨w.heap.size + 1, 0, none⟩ (.int .i64 k)).setCell ⟨w.heap.size + 1, 1, none⟩ (.int .i64 n)).setCell ⟨w.heap.size + 1, 2, none⟩ (.string s)).setCell ⟨w.heap.size + 1, 3, none⟩ (.pointer p) = w') :
  VPost R w v (.returned (.agg #[.int .i64 k, .int .i64 n, .string s, .pointer p])) w' := by
 obtain ⟨_, g, _⟩ := set4_at (x := ⟨k, n, s, p⟩) hs h.res
 have hlt := h.lt
 have gs := g.size
 exact ⟨k, n, s, p, rfl, h.vl.keep (fun b h1 h2 h3 => g.block b h3 (fun e => by have := Option.some.inj e; omega)) gs (by omega) gs, h.rn.set2 hR (by omega) g⟩
def DvSays (n : Nat) : Prop := ∀ (W0 w : World) (R : Nat) (A : Option Addr) (cap : Nat) (ol : List Int) (cs : List Value) (d : Dt), countD d <= n -> DtIn W0 0 W0.heap.size cs d -> DtW d -> Below W0.heap.size W0 w -> W0.heap.size <= R -> RAt w R A cap ol →
  Calls Tryz.prog 82 #[.pointer (some ⟨R, 0, none⟩), .agg cs.toArray] w (VPost R w (datV d))
set_option maxHeartbeats 8000000 in
theorem datumVal_any : (n : Nat) -> DvSays n
 | 0 => fun W0 w R A cap ol cs d hn hin hw hold hR hr => by
  cases d
  rw [countD] at hn
  omega
 | r + 1 => fun W0 w R AR capR ol cs d hn hin hw hold hR hr => by
  have ih := datumVal_any r
  cases hin with
  | mk k n s A cap l cs hl h1 h2 row each =>
  cases hw with
  | mk _ _ _ _ hk1 hk4 hww hlw =>
  have hcap : cap <= 9223372036854775807 := by unfold maxLen at h2; omega
  obtain ⟨wb, hwb⟩ : ∃ wb, (w.alloc (.cells #[.int .i64 k, .int .i64 n, .string s, .slice A l.length cap] 24)).alloc (.cells #[.int .i64 0, .int .i64 0, .string ⟨#[]⟩, .pointer none] 98) = wb := ⟨_, rfl⟩
  have hb : Below w.heap.size w wb := by rw [<- hwb]; exact ((Below.refl _ _).alloc (Nat.le_refl _) _).alloc (by simp) _
  have hsz : wb.heap.size = w.heap.size + 2 := by rw [<- hwb]; simp
  have hl0 : w.heap.size < wb.heap.size := by omega
  have hl1 : w.heap.size + 1 < wb.heap.size := by omega
  have z0 : wb.cell? ⟨w.heap.size, 0, none⟩ = some (.int .i64 k) := by rw [<- hwb]; exact cell_first _ _ _ _ _ 0
  have z1 : wb.cell? ⟨w.heap.size, 1, none⟩ = some (.int .i64 n) := by rw [<- hwb]; exact cell_first _ _ _ _ _ 1
  have z2 : wb.cell? ⟨w.heap.size, 2, none⟩ = some (.string s) := by rw [<- hwb]; exact cell_first _ _ _ _ _ 2
  have z3 : wb.cell? ⟨w.heap.size, 3, none⟩ = some (.slice A l.length cap) := by rw [<- hwb]; exact cell_first _ _ _ _ _ 3
  have u0 : wb.cell? ⟨w.heap.size + 1, 0, none⟩ = some (.int .i64 0) := by rw [<- hwb]; exact cell_second _ _ _ _ _ 0
  have u1 : wb.cell? ⟨w.heap.size + 1, 1, none⟩ = some (.int .i64 0) := by rw [<- hwb]; exact cell_second _ _ _ _ _ 1
  have u2 : wb.cell? ⟨w.heap.size + 1, 2, none⟩ = some (.string ⟨#[]⟩) := by rw [<- hwb]; exact cell_second _ _ _ _ _ 2
  have u3 : wb.cell? ⟨w.heap.size + 1, 3, none⟩ = some (.pointer none) := by rw [<- hwb]; exact cell_second _ _ _ _ _ 3
  have fz : ∀ j, wb.frozen? ⟨w.heap.size + 1, j, none⟩ = false := by intro j; rw [<- hwb, show w.heap.size + 1 = (w.alloc (.cells #[.int .i64 k, .int .i64 n, .string s, .slice A l.length cap] 24)).heap.size by simp]; exact ze _ _ _ _
  have HFZ := Lib.hid fz
  have HWB := Lib.hid hwb
  have HB := Lib.hid hb
  have HSZ := Lib.hid hsz
  have HR := Lib.hid hr
  have HOLD := Lib.hid hold
  have HRW := Lib.hid hR
  have HROW := Lib.hid (show RowAt wb (w.heap.size + 1) 0 (⟨0, 0, ⟨#[]⟩, none⟩ : MV).cells from MV.row u0 u1 u2 u3)
  -- an atom's end
  have KA := Lib.hid (show ∀ (w2 : World) (x : MV) (v : Vl), Below wb.heap.size wb w2 -> x.p = none -> (∀ W lo hi, VlIn W lo hi x v) -> VPost R w v (.returned (.agg #[.int .i64 x.k, .int .i64 x.n, .string x.s, .pointer x.p])) ((((w2.setCell ⟨w.heap.size + 1, 0, none⟩ (.int .i64 x.k)).setCell ⟨w.heap.size + 1, 1, none⟩ (.int .i64 x.n)).setCell ⟨w.heap.size + 1, 2, none⟩ (.string x.s)).setCell ⟨w.heap.size + 1, 3, none⟩ (.pointer x.p)) from
   fun w2 x v hb2 hp hx => ⟨x.k, x.n, x.s, x.p, rfl, hx _ _ _, ((Rnr.new hb hr.lt).trans (Rnr.new hb2 (Nat.lt_of_lt_of_le hr.lt hb.size))).set2 hr.lt (Nat.le_succ _) ((((zd _ _ _ _).trans (zd _ _ _ _)).trans (zd _ _ _ _)).trans (zd _ _ _ _))⟩)
  -- the result's cells, behind calls
  have KU := Lib.hid (show ∀ w2, Below wb.heap.size wb w2 -> (w2.cell? ⟨w.heap.size + 1, 0, none⟩ = some (.int .i64 0) /\ w2.cell? ⟨w.heap.size + 1, 1, none⟩ = some (.int .i64 0) /\ w2.cell? ⟨w.heap.size + 1, 2, none⟩ = some (.string ⟨#[]⟩) /\ w2.cell? ⟨w.heap.size + 1, 3, none⟩ = some (.pointer none)) /\ (w2.frozen? ⟨w.heap.size + 1, 0, none⟩ = false /\ w2.frozen? ⟨w.heap.size + 1, 1, none⟩ = false /\ w2.frozen? ⟨w.heap.size + 1, 2, none⟩ = false /\ w2.frozen? ⟨w.heap.size + 1, 3, none⟩ = false) from
   fun w2 h2 => ⟨⟨(h2.cell (p := ⟨w.heap.size + 1, 0, none⟩) hl1).trans u0, (h2.cell (p := ⟨w.heap.size + 1, 1, none⟩) hl1).trans u1, (h2.cell (p := ⟨w.heap.size + 1, 2, none⟩) hl1).trans u2, (h2.cell (p := ⟨w.heap.size + 1, 3, none⟩) hl1).trans u3⟩,
    (h2.frozen (p := ⟨w.heap.size + 1, 0, none⟩) hl1).trans (fz 0), (h2.frozen (p := ⟨w.heap.size + 1, 1, none⟩) hl1).trans (fz 1), (h2.frozen (p := ⟨w.heap.size + 1, 2, none⟩) hl1).trans (fz 2), (h2.frozen (p := ⟨w.heap.size + 1, 3, none⟩) hl1).trans (fz 3)⟩)
  clear hwb hb hsz hr hold hR u0 u1 u2 u3 fz
  have hk : k = 1 \/ k = 2 \/ k = 3 \/ k = 4 := by omega
  clear hk1 hk4 hww
  rcases hk with rfl | rfl | rfl | rfl
  ·
   have hcd : datV (.mk 1 n s l) = .int n := by rw [datV, if_pos rfl]
   rw [hcd]
   clear hcd
   go_enter Tryz.func82, Tryz.ntmps82
   go_upto_region 1 with fail
   rw [HWB.out]
   go_wp2_with fail
   refine (asInt_any n _).mono ?_
   rintro e w1 ⟨rfl, hb1⟩
   go_wp2_with fail
   refine (asVal_any 1 n ⟨#[]⟩ _).mono ?_
   rintro e w2 ⟨rfl, hb2⟩
   have hb3 := hb1.trans (hb2.mono hb1.size)
   obtain ⟨⟨c0, c1, c2, c3⟩, f0, f1, f2, f3⟩ := KU.out w2 hb3
   have HB3 := Lib.hid hb3
   clear hb1 hb2 hb3
   have S := Lib.hid (MV.at_ (set4_at (x := ⟨1, n, ⟨#[]⟩, none⟩) (y := ⟨0, 0, ⟨#[]⟩, none⟩) rfl (MV.row c0 c1 c2 c3)).1)
   go_wp2_with fail
   obtain ⟨s0, s1, s2, s3⟩ := S.out
   simp only [Nat.zero_add] at s1 s2 s3
   refine bodyPost_ret (v := .agg #[.int .i64 1, .int .i64 n, .string ⟨#[]⟩, .pointer none]) (by simp [results, Tryz.results82, go_sem, s0, s1, s2, s3]) rfl ?_
   exact KA.out w2 ⟨1, n, ⟨#[]⟩, none⟩ _ HB3.out rfl (fun _ _ _ => .int n)
  ·
   have hcd : datV (.mk 2 n s l) = .bool n := by rw [datV, if_neg (by decide), if_pos rfl]
   rw [hcd]
   clear hcd
   go_enter Tryz.func82, Tryz.ntmps82
   go_upto_region 1 with fail
   rw [HWB.out]
   go_wp2_with fail
   refine (asVal_any 2 n ⟨#[]⟩ _).mono ?_
   rintro e w2 ⟨rfl, hb2⟩
   obtain ⟨⟨c0, c1, c2, c3⟩, f0, f1, f2, f3⟩ := KU.out w2 hb2
   have HB3 := Lib.hid hb2
   clear hb2
   have S := Lib.hid (MV.at_ (set4_at (x := ⟨2, n, ⟨#[]⟩, none⟩) (y := ⟨0, 0, ⟨#[]⟩, none⟩) rfl (MV.row c0 c1 c2 c3)).1)
   go_wp2_with fail
   obtain ⟨s0, s1, s2, s3⟩ := S.out
   simp only [Nat.zero_add] at s1 s2 s3
   refine bodyPost_ret (v := .agg #[.int .i64 2, .int .i64 n, .string ⟨#[]⟩, .pointer none]) (by simp [results, Tryz.results82, go_sem, s0, s1, s2, s3]) rfl ?_
   exact KA.out w2 ⟨2, n, ⟨#[]⟩, none⟩ _ HB3.out rfl (fun _ _ _ => .bool n)
  ·
   have hcd : datV (.mk 3 n s l) = .sym s := by rw [datV, if_neg (by decide), if_neg (by decide), if_pos rfl]
   rw [hcd]
   clear hcd
   go_enter Tryz.func82, Tryz.ntmps82
   go_upto_region 1 with fail
   rw [HWB.out]
   go_wp2_with fail
   refine (asVal_any 4 0 s _).mono ?_
   rintro e w2 ⟨rfl, hb2⟩
   obtain ⟨⟨c0, c1, c2, c3⟩, f0, f1, f2, f3⟩ := KU.out w2 hb2
   have HB3 := Lib.hid hb2
   clear hb2
   have S := Lib.hid (MV.at_ (set4_at (x := ⟨4, 0, s, none⟩) (y := ⟨0, 0, ⟨#[]⟩, none⟩) rfl (MV.row c0 c1 c2 c3)).1)
   go_wp2_with fail
   obtain ⟨s0, s1, s2, s3⟩ := S.out
   simp only [Nat.zero_add] at s1 s2 s3
   refine bodyPost_ret (v := .agg #[.int .i64 4, .int .i64 0, .string s, .pointer none]) (by simp [results, Tryz.results82, go_sem, s0, s1, s2, s3]) rfl ?_
   exact KA.out w2 ⟨4, 0, s, none⟩ _ HB3.out rfl (fun _ _ _ => .sym s)
  ·
   have hcd : datV (.mk 4 n s l) = datL l := by rw [datV, if_neg (by decide), if_neg (by decide), if_neg (by decide)]
   rw [hcd]
   have hcn : countDs l <= r := by rw [countD] at hn; omega
   have HEACH := Lib.hid each
   have HRO := Lib.hid row
   have HLW := Lib.hid hlw
   have HIH := Lib.hid ih
   obtain ⟨N, hN⟩ : ∃ N, l.length = N := ⟨_, rfl⟩
   have HNN := Lib.hid hN
   rw [hN] at HWB z3 h1 ⊢
   have HCN := Lib.hid hcn
   have HLC := Lib.hid hl
   have hN0 : N <= 9223372036854775807 := by omega
   clear hcd row each hlw ih hN hcn hl hn
   go_enter Tryz.func82, Tryz.ntmps82
   go_upto_region 1 with fail
   rw [HWB.out]
   go_upto_region 8 with fail
   go_wp2_with fail
   refine (asVal_any 3 0 ⟨#[]⟩ _).mono ?_
   rintro e w2 ⟨rfl, hb2⟩
   have HB2 := Lib.hid hb2
   have hs2 := hb2.size
   clear hb2
   obtain ⟨c4, hc4⟩ := HR.out.c4
   obtain ⟨O, hO⟩ : ∃ O, w2.heap.size = O := ⟨_, rfl⟩
   go_upto_region 9 with fail
   obtain ⟨wL, hwL⟩ : ∃ wL, w2.alloc (.cells #[.int .i64 3, .int .i64 0, .string ⟨#[]⟩, .pointer none] 98) = wL := ⟨_, rfl⟩
   rw [hwL]
   have hbL : Below w2.heap.size w2 wL := by rw [<- hwL]; exact (Below.refl _ _).alloc (Nat.le_refl _) _
   have hsL : wL.heap.size = O + 1 := by rw [<- hwL, <- hO]; simp
   have q0 : wL.cell? ⟨O, 0, none⟩ = some (.int .i64 3) := by rw [<- hwL, <- hO]; exact za _ _ _ 0
   have q1 : wL.cell? ⟨O, 1, none⟩ = some (.int .i64 0) := by rw [<- hwL, <- hO]; exact za _ _ _ 1
   have q2 : wL.cell? ⟨O, 2, none⟩ = some (.string ⟨#[]⟩) := by rw [<- hwL, <- hO]; exact za _ _ _ 2
   have q3 : wL.cell? ⟨O, 3, none⟩ = some (.pointer none) := by rw [<- hwL, <- hO]; exact za _ _ _ 3
   have qf : ∀ j, wL.frozen? ⟨O, j, none⟩ = false := by intro j; rw [<- hwL, <- hO]; exact ze _ _ _ _
   have hb2 := HB2.out
   have hbbL : Below wb.heap.size wb wL := hb2.trans (hbL.mono hb2.size)
   obtain ⟨⟨c0, c1, c2, c3⟩, _⟩ := KU.out wL hbbL
   have hb := HB.out
   have b3 := (hbbL.cell (p := ⟨w.heap.size, 3, none⟩) hl0).trans z3
   have hRl := HR.out.lt
   have H0 := Lib.hid (show DvLp w wL R O wL.heap.size A N cap ⟨3, 0, ⟨#[]⟩, none⟩ (datL (l.drop N)) from
    ⟨(Rnr.new hb hRl).trans (Rnr.new hbbL (Nat.lt_of_lt_of_le hRl hb.size)), b3, MV.row c0 c1 c2 c3, fun j => (hbbL.frozen (p := ⟨w.heap.size + 1, j, none⟩) hl1).trans (HFZ.out j), MV.row q0 q1 q2 q3, qf, Nat.le_refl _, by rw [List.drop_eq_nil_of_le (by rw [HNN.out]; exact Nat.le_refl _)]; exact .nil⟩)
   obtain ⟨L, hL⟩ : ∃ L, wL.heap.size = L := ⟨_, rfl⟩
   rw [hL] at H0 hsL
   have HO := Lib.hid (show w.heap.size + 1 < O by have := HSZ.out; omega)
   have HOL := Lib.hid (show O < L by omega)
   have HRL := Lib.hid hRl
   clear hwL hbL q0 q1 q2 q3 qf hb2 hbbL c0 c1 c2 c3 hb hO hsL hs2 hL
   go_wp2_with fail
   go_loopg [6, 7] N (fun g i p wr => ∃ (j : Nat) (k' n' : Int) (s' : ByteArray) (p' : Option Addr), g = j /\ j <= N /\ i = .int .i64 ((j : Int) - 1) /\ DvLp w wr R O L A N cap ⟨k', n', s', p'⟩ (datL (l.drop j)))
   case atStart => exact ⟨N, _, _, _, _, rfl, Nat.le_refl _, rfl, H0.out⟩
   obtain ⟨j, k', n', s', p', hg, hj, rfl, hinv⟩ := hrel
   have HG := Lib.hid hg
   have HI := Lib.hid hinv
   have hc := HI.out.rn.c4 HR.out.c4
   obtain ⟨c, hc⟩ := hc
   have b3 := hinv.box
   have hrl := hinv.rn.size
   have hwr : w.heap.size + 1 < wr.heap.size := by have := hinv.lt; have := HO.out; have := HOL.out; omega
   clear hg hinv
   rcases j with _ | q
   ·
    have hg0 : Lib.hid True.intro = Lib.hid True.intro := rfl
    clear hg0
    obtain ⟨g0, g1, g2, g3⟩ := MV.at_ HI.out.out
    obtain ⟨r0, r1, r2, r3⟩ := MV.at_ HI.out.res
    have f0 := HI.out.rf 0
    have f1 := HI.out.rf 1
    have f2 := HI.out.rf 2
    have f3 := HI.out.rf 3
    have S := Lib.hid (MV.at_ (set4_at (x := ⟨k', n', s', p'⟩) (y := ⟨0, 0, ⟨#[]⟩, none⟩) rfl HI.out.res).1)
    simp only [Nat.zero_add] at g1 g2 g3 r1 r2 r3
    go_wp2_with fail
    obtain ⟨s0, s1, s2, s3⟩ := S.out
    simp only [Nat.zero_add] at s1 s2 s3
    refine bodyPost_ret (v := .agg #[.int .i64 k', .int .i64 n', .string s', .pointer p']) (by simp [results, Tryz.results82, go_sem, s0, s1, s2, s3]) rfl ?_
    exact HI.out.done HRL.out HO.out HOL.out rfl
   have hjl : q < l.length := by have := HNN.out; omega
   have hjc : q < cs.length := by have := HLC.out; omega
   obtain ⟨b, o2, hAb, _, _, hbw, hrow⟩ := HRO.out (by omega)
   subst hAb
   have hr := hrow q hjc
   have he := HEACH.out q hjl hjc
   have hdw := HLW.out _ (List.getElem_mem hjl)
   have hco : countD l[q] <= r := Nat.le_trans (countDs_at l q hjl) HCN.out
   have hdl := datL_drop l q hjl
   generalize l[q] = dj at he hdw hco hdl
   generalize cs[q] = cj at hr he
   have HDL := Lib.hid hdl
   cases he with
   | mk dk dn ds dA dcap dl dcs e1 e2 e3 e4 e5 =>
   have he2 := DtIn.mk dk dn ds dA dcap dl dcs e1 e2 e3 e4 e5
   have hold : Below W0.heap.size W0 wr := HOLD.out.trans (HI.out.rn.below HOLD.out.size HRW.out)
   have KD := Lib.hid (HIH.out W0 wr R AR capR ol _ (.mk dk dn ds dl) hco he2 hdw hold HRW.out (HR.out.rn HI.out.rn))
   have x0 := (hold.cell (p := ⟨b, o2 + q * 4 + 0, none⟩) hbw).trans (hr 0 (by simp))
   have x1 := (hold.cell (p := ⟨b, o2 + q * 4 + 1, none⟩) hbw).trans (hr 1 (by simp))
   have x2 := (hold.cell (p := ⟨b, o2 + q * 4 + 2, none⟩) hbw).trans (hr 2 (by simp))
   have x4 := (hold.cell (p := ⟨b, o2 + q * 4 + 3, none⟩) hbw).trans (hr 3 (by simp))
   simp only [List.getElem?_cons_zero, List.getElem?_cons_succ, Nat.add_zero] at x0 x1 x2 x4
   have hj0 : (0 : Int) <= (q : Int) := Int.natCast_nonneg _
   have hqN : (q : Int) < (N : Int) := by omega
   have hjc2 : (q : Int) < (cap : Int) := by omega
   have hi1 : ((q + 1 : Nat) : Int) - 1 = (q : Int) := by omega
   rw [hi1]
   clear hr hdw hco he2 e1 e2 e3 e4 e5 hrow hdl hold hi1
   go_wp2_with fail
   refine KD.out.mono ?_
   rintro e w1 ⟨yk, yn, ys, yp, rfl, hy, hr1⟩
   have hr1s := hr1.size
   obtain ⟨m, hm⟩ := hr1.c4 ⟨c, hc⟩
   have HY := Lib.hid hy
   have HR1 := Lib.hid hr1
   have HM := Lib.hid hm
   clear hy hr1 hm
   go_upto_region 13 with fail
   obtain ⟨w3, hw3⟩ : ∃ w3, w1.alloc (.cells #[.int .i64 yk, .int .i64 yn, .string ys, .pointer yp] 98) = w3 := ⟨_, rfl⟩
   rw [hw3]
   have hb3 : Below w1.heap.size w1 w3 := by rw [<- hw3]; exact (Below.refl _ _).alloc (Nat.le_refl _) _
   have hs3 : w1.heap.size < w3.heap.size := by rw [<- hw3]; simp
   have y0 : w3.cell? ⟨w1.heap.size, 0, none⟩ = some (.int .i64 yk) := by rw [<- hw3]; exact za _ _ _ 0
   have y1 : w3.cell? ⟨w1.heap.size, 1, none⟩ = some (.int .i64 yn) := by rw [<- hw3]; exact za _ _ _ 1
   have y2 : w3.cell? ⟨w1.heap.size, 2, none⟩ = some (.string ys) := by rw [<- hw3]; exact za _ _ _ 2
   have y3 : w3.cell? ⟨w1.heap.size, 3, none⟩ = some (.pointer yp) := by rw [<- hw3]; exact za _ _ _ 3
   have hRw1 : R < w1.heap.size := by have := HRL.out; omega
   have m3 := (hb3.cell (p := ⟨R, 4, none⟩) hRw1).trans HM.out
   have hOL := HOL.out
   have hOO := HO.out
   have hLr := HI.out.lt
   have fR : w3.frozen? ⟨R, 4, none⟩ = false := (hb3.frozen (p := ⟨R, 4, none⟩) hRw1).trans ((HR1.out.fz 4).trans ((HI.out.rn.fz 4).trans (HR.out.fz 4)))
   have r13 : Rnr R wr w3 := HR1.out.trans (Rnr.new hb3 hRw1)
   have hOR : R < O := by have := HRL.out; omega
   have hOr : O < wr.heap.size := by omega
   obtain ⟨g0, g1, g2, g3⟩ := MV.at_ HI.out.out
   have o0 := (r13.at_ 0 hOr hOR).trans g0
   have o1 := (r13.at_ 1 hOr hOR).trans g1
   have o2' := (r13.at_ 2 hOr hOR).trans g2
   have o3 := (r13.at_ 3 hOr hOR).trans g3
   have of : ∀ j, w3.frozen? ⟨O, j, none⟩ = false := fun j => (r13.fzn j hOr hOR).trans (HI.out.of j)
   have HW3 := Lib.hid hw3
   have HR13 := Lib.hid r13
   have HOR := Lib.hid hOR
   have HOF := Lib.hid of
   have hneY : R ≠ w1.heap.size := by omega
   have hneO : R ≠ O := by omega
   clear hw3 hb3 hr1s r13 g0 g1 g2 g3 of hOL hOO hLr b3 x0 x1 x2 x4
   go_upto_region 14 with fail
   obtain ⟨w4, hw4⟩ : ∃ w4, w3.setCell ⟨R, 4, none⟩ (.int .i64 (wrap64 (m + 3))) = w4 := ⟨_, rfl⟩
   rw [hw4]
   have hg4 : w3.grownBy w4 (some R) := by rw [<- hw4]; exact zd _ _ _ _
   have k4 : ∀ b', b' < w3.heap.size -> R ≠ b' -> w4.heap[b']? = w3.heap[b']? := fun b' hl hne => hg4.block b' hl (fun e => hne (Option.some.inj e.symm))
   have hO3 : O < w3.heap.size := by have := HR13.out.size; omega
   have bY := k4 w1.heap.size hs3 hneY
   have bO := k4 O hO3 hneO
   have y0' := (World.cell?_of_block (a := ⟨w1.heap.size, 0, none⟩) bY).trans y0
   have y1' := (World.cell?_of_block (a := ⟨w1.heap.size, 1, none⟩) bY).trans y1
   have y2' := (World.cell?_of_block (a := ⟨w1.heap.size, 2, none⟩) bY).trans y2
   have y3' := (World.cell?_of_block (a := ⟨w1.heap.size, 3, none⟩) bY).trans y3
   have o0' := (World.cell?_of_block (a := ⟨O, 0, none⟩) bO).trans o0
   have o1' := (World.cell?_of_block (a := ⟨O, 0 + 1, none⟩) bO).trans o1
   have o2'' := (World.cell?_of_block (a := ⟨O, 0 + 2, none⟩) bO).trans o2'
   have o3' := (World.cell?_of_block (a := ⟨O, 0 + 3, none⟩) bO).trans o3
   simp only [Nat.zero_add] at o1' o2'' o3'
   have f0 := (World.frozen?_of_block (a := ⟨O, 0, none⟩) bO).trans (HOF.out 0)
   have f1 := (World.frozen?_of_block (a := ⟨O, 1, none⟩) bO).trans (HOF.out 1)
   have f2 := (World.frozen?_of_block (a := ⟨O, 2, none⟩) bO).trans (HOF.out 2)
   have f3 := (World.frozen?_of_block (a := ⟨O, 3, none⟩) bO).trans (HOF.out 3)
   have HW4 := Lib.hid hw4
   have hO4 : O < w4.heap.size := by have := hg4.size; omega
   clear hw4 hg4 k4 bY bO y0 y1 y2 y3 o0 o1 o2' o3 m3 fR hs3
   go_wp2_with fail
   go_roundg q
   case rel => exact ⟨q, 0, 0, ⟨#[]⟩, some ⟨w4.heap.size + 1, 0, none⟩, rfl, by omega, by go_num, by rw [HDL.out]; exact HI.out.step HRL.out HO.out HOL.out HR.out.c4 HR1.out HY.out HW3.out HW4.out rfl ⟨rfl, rfl⟩ rfl⟩
   case measure => have := HG.out; omega
/- What the means of an upgrade's expression are: errors, bounds, sizes: no program in sight. -/
def VlOk : Vl -> Prop
 | .int n => -big <= n /\ n <= big
 | .bool n => 0 <= n /\ n <= 1
 | .nil => True
 | .sym s => 1 <= s.size /\ s.size <= 16
 | .pair a b => VlOk a /\ VlOk b
def szV : Vl -> Nat
 | .pair a b => 1 + (szV a + szV b)
 | _ => 1
theorem calcV_ok {s : ByteArray} {a b : Int} {v : Vl} (h : calcV s a b = .ok v) : VlOk v /\ szV v = 1 := by
 have fit : ∀ n : Int, ∀ v, (if n < -big \/ big < n then (.error 2 : Rs Vl) else .ok (.int n)) = .ok v -> VlOk v /\ szV v = 1 := fun n v h => by
  split at h
  ·
   cases h
  cases h; exact ⟨by unfold VlOk; omega, rfl⟩
 have bool : ∀ b : Bool, VlOk (bV b) /\ szV (bV b) = 1 := fun b => ⟨by cases b <;> simp [bV, VlOk], rfl⟩
 unfold calcV at h
 simp only at h
 split at h; · exact fit _ _ h
 split at h; · exact fit _ _ h
 split at h; · cases h; exact bool _
 split at h; · cases h; exact bool _
 split at h
 ·
  split at h
  ·
   cases h
  exact fit _ _ h
 split at h; · cases h
 split at h; · exact fit _ _ h
 exact fit _ _ h
theorem calcV_err {s : ByteArray} {a b e : Int} (h : calcV s a b = .error e) : e = 2 := by
 have fit : ∀ n : Int, (if n < -big \/ big < n then (.error 2 : Rs Vl) else .ok (.int n)) = .error e -> e = 2 := fun n h => by
  split at h
  ·
   cases h; rfl
  cases h
 unfold calcV at h
 simp only at h
 split at h; · exact fit _ h
 split at h; · exact fit _ h
 split at h; · cases h
 split at h; · cases h
 split at h
 ·
  split at h
  ·
   cases h; rfl
  exact fit _ h
 split at h; · cases h; rfl
 split at h; · exact fit _ h
 exact fit _ h
theorem primV_err {s : ByteArray} {l : List Vl} {e : Int} (h : primV s l = .error e) : e = 2 \/ e = 3 \/ e = 14 := by
 unfold primV at h
 split at h
 ·
  split at h
  ·
   split at h <;> cases h
   exact Or.inr (Or.inl rfl)
  split at h
  ·
   split at h <;> cases h
   exact Or.inr (Or.inl rfl)
  split at h; · cases h
  split at h; · cases h
  split at h; · cases h
  cases h; exact Or.inr (Or.inr rfl)
 ·
  split at h; · cases h
  split at h; · cases h
  split at h
  ·
   exact Or.inl (calcV_err h)
  cases h; exact Or.inr (Or.inl rfl)
 cases h; exact Or.inr (Or.inl rfl)
theorem bV_ok (b : Bool) : VlOk (bV b) := by cases b <;> simp [bV, VlOk]
theorem primV_ok {s : ByteArray} {l : List Vl} {v : Vl} (hl : ∀ x ∈ l, VlOk x) (h : primV s l = .ok v) : VlOk v /\ szV v <= 1 + (l.map szV).sum := by
 unfold primV at h
 split at h
 ·
  rename_i a
  have ha := hl a (by simp)
  split at h
  ·
   split at h
   ·
    cases h
    exact ⟨ha.1, by simp [szV]; omega⟩
   cases h
  split at h
  ·
   split at h
   ·
    cases h
    exact ⟨ha.2, by simp [szV]; omega⟩
   cases h
  split at h; · cases h; exact ⟨bV_ok _, by show 1 <= _; omega⟩
  split at h; · cases h; exact ⟨bV_ok _, by show 1 <= _; omega⟩
  split at h; · cases h; exact ⟨bV_ok _, by show 1 <= _; omega⟩
  cases h
 ·
  rename_i a b
  have ha := hl a (by simp)
  have hb := hl b (by simp)
  split at h
  ·
   cases h
   exact ⟨⟨ha, hb⟩, by simp [szV]⟩
  split at h; · cases h; exact ⟨bV_ok _, by show 1 <= _; omega⟩
  split at h
  ·
   obtain ⟨h1, h2⟩ := calcV_ok h
   exact ⟨h1, by omega⟩
  cases h
 cases h
mutual
theorem datV_ok : (d : Dt) -> DtW d -> VlOk (datV d) /\ szV (datV d) + 1 <= 2 * countD d
 | .mk k n s l, .mk _ _ _ _ h1 h4 hw hl => by
  have hx := datL_ok l hl
  rw [datV, countD]
  by_cases e4 : k = 4
  ·
   subst e4
   rw [if_neg (by decide), if_neg (by decide), if_neg (by decide)]
   exact ⟨hx.1, by omega⟩
  have hw := hw e4
  unfold atomW WOk at hw
  by_cases e1 : k = 1
  ·
   rw [if_pos e1]
   rw [if_neg (by omega), if_neg (by omega)] at hw
   simp only at hw
   exact ⟨by unfold VlOk; omega, by simp [szV]; omega⟩
  rw [if_neg e1]
  by_cases e2 : k = 2
  ·
   rw [if_pos e2]
   rw [if_pos e2] at hw
   simp only at hw
   exact ⟨by unfold VlOk; omega, by simp [szV]; omega⟩
  rw [if_neg e2, if_pos (by omega)]
  rw [if_neg e2, if_pos (by omega)] at hw
  simp only at hw
  exact ⟨by unfold VlOk; omega, by simp [szV]; omega⟩
theorem datL_ok : (l : List Dt) -> (∀ x ∈ l, DtW x) -> VlOk (datL l) /\ szV (datL l) <= 1 + 2 * countDs l
 | [], _ => ⟨by rw [datL]; trivial, by simp [datL, szV]⟩
 | d :: l, h => by
  have h1 := datV_ok d (h d (by simp))
  have h2 := datL_ok l (fun x hx => h x (List.mem_cons_of_mem _ hx))
  rw [datL, countDs]
  exact ⟨⟨h1.1, h2.1⟩, by simp only [szV]; omega⟩
end
mutual
theorem evalX_ok {o : Nat} {ol : List Int} (hol : ∀ n ∈ ol, -big <= n /\ n <= big) (hlen : ol.length = o) : (x : Px) -> PxW o x -> (∀ v, evalX ol x = .ok v -> VlOk v /\ szV v + 1 <= 2 * countX x) /\ ∀ e, evalX ol x = .error e -> e = 2 \/ e = 3 \/ e = 14
 | .const d, .const _ hd => by
  rw [evalX, countX]
  refine ⟨fun v hv => ?_, fun e he => by cases he⟩
  cases hv
  exact datV_ok d hd
 | .was i, .was _ hi => by
  rw [evalX, countX]
  refine ⟨fun v hv => ?_, fun e he => by cases he⟩
  cases hv
  have : ol.getD i 0 ∈ ol := by rw [List.getD_eq_getElem?_getD, List.getElem?_eq_getElem (by omega)]; exact List.getElem_mem (by omega)
  exact ⟨hol _ this, by simp [szV]⟩
 | .ite a b c, .ite _ _ _ ha hb hc => by
  have h1 := evalX_ok hol hlen a ha
  have h2 := evalX_ok hol hlen b hb
  have h3 := evalX_ok hol hlen c hc
  rw [evalX, countX]
  cases hv : evalX ol a with
  | error e =>
   simp only
   exact ⟨fun v h => (by cases h), fun e' h => (by cases h; exact h1.2 _ hv)⟩
  | ok v =>
   simp only
   split
   ·
    exact ⟨fun u hu => by have := h3.1 u hu; exact ⟨this.1, by omega⟩, fun e' h => h3.2 _ h⟩
   ·
    exact ⟨fun u hu => by have := h2.1 u hu; exact ⟨this.1, by omega⟩, fun e' h => h2.2 _ h⟩
 | .prim s l, .prim _ _ h0 h1 hl => by
  have hx := evalL_ok hol hlen l hl
  rw [evalX, countX]
  cases hv : evalL ol l with
  | error e =>
   simp only
   exact ⟨fun v h => (by cases h), fun e' h => by cases h; exact hx.2 _ hv⟩
  | ok vs =>
   simp only
   obtain ⟨g1, g2⟩ := hx.1 vs hv
   refine ⟨fun v h => ?_, fun e' h => primV_err h⟩
   obtain ⟨k1, k2⟩ := primV_ok g1 h
   exact ⟨k1, by omega⟩
theorem evalL_ok {o : Nat} {ol : List Int} (hol : ∀ n ∈ ol, -big <= n /\ n <= big) (hlen : ol.length = o) : (l : List Px) -> (∀ x ∈ l, PxW o x) -> (∀ vs, evalL ol l = .ok vs -> (∀ v ∈ vs, VlOk v) /\ (vs.map szV).sum <= 2 * countXs l) /\ ∀ e, evalL ol l = .error e -> e = 2 \/ e = 3 \/ e = 14
 | [], _ => by
  rw [evalL]
  exact ⟨fun vs h => (by cases h; exact ⟨by simp, by simp⟩), fun e h => by cases h⟩
 | x :: l, h => by
  have h1 := evalX_ok hol hlen x (h x (by simp))
  have h2 := evalL_ok hol hlen l (fun y hy => h y (List.mem_cons_of_mem _ hy))
  rw [evalL, countXs]
  cases hv : evalX ol x with
  | error e =>
   simp only
   exact ⟨fun v h => (by cases h), fun e' h => (by cases h; exact h1.2 _ hv)⟩
  | ok v =>
   simp only
   cases hw : evalL ol l with
   | error e =>
    simp only
    exact ⟨fun v h => (by cases h), fun e' h => by cases h; exact h2.2 _ hw⟩
   | ok vs =>
    simp only
    refine ⟨fun us h => ?_, fun e' h => by cases h⟩
    cases h
    obtain ⟨g1, g2⟩ := h1.1 v hv
    obtain ⟨g3, g4⟩ := h2.1 vs hw
    refine ⟨fun u hu => ?_, by simp only [List.map_cons, List.sum_cons]; omega⟩
    rcases List.mem_cons.1 hu with rfl | hu
    ·
     exact g1
    exact g3 u hu
end
def shIt (dec : Int -> ByteArray) (a b : Vl) (lev i : Nat) (s : ByteArray) : ByteArray :=
 let s1 := if 0 < i then s ++ ⟨#[32]⟩ else s
 if i = 50 then s1 ++ ⟨#[46, 46, 41]⟩
 else
  let s2 := s1 ++ shV dec a (lev + 1) none
  match b with
  | .nil => s2 ++ ⟨#[41]⟩
  | .pair _ _ => s2 ++ shV dec b lev (some (i + 1))
  | _ => s2 ++ ⟨#[32, 46, 32]⟩ ++ shV dec b (lev + 1) none ++ ⟨#[41]⟩
theorem shV_top (dec : Int -> ByteArray) (a b : Vl) (lev : Nat) : shV dec (.pair a b) lev none = if 10 < lev then ⟨#[46, 46]⟩ else shIt dec a b lev 0 ⟨#[40]⟩ := by rw [shV]; rfl
theorem shV_item (dec : Int -> ByteArray) (a b : Vl) (lev i : Nat) : shV dec (.pair a b) lev (some i) = shIt dec a b lev i ⟨#[]⟩ := by rw [shV]; rfl
theorem shIt_len {dec : Int -> ByteArray} {a b : Vl} {lev i : Nat} {s : ByteArray} (ha : (shV dec a (lev + 1) none).size <= 24 * szV a) (hb : ∀ lev m, (shV dec b lev m).size <= 24 * szV b) (hs : s.size <= 1) : (shIt dec a b lev i s).size <= 24 * (1 + (szV a + szV b)) := by
 have h1 : (if 0 < i then s ++ (⟨#[32]⟩ : ByteArray) else s).size <= 2 := by
  split
  ·
   rw [ByteArray.size_append]
   have : (⟨#[32]⟩ : ByteArray).size = 1 := rfl
   omega
  omega
 have e1 : (⟨#[46, 46, 41]⟩ : ByteArray).size = 3 := rfl
 have e2 : (⟨#[41]⟩ : ByteArray).size = 1 := rfl
 have e3 : (⟨#[32, 46, 32]⟩ : ByteArray).size = 3 := rfl
 have hb1 := hb lev (some (i + 1))
 have hb2 := hb (lev + 1) none
 unfold shIt
 simp only
 generalize (if 0 < i then s ++ (⟨#[32]⟩ : ByteArray) else s) = s1 at h1
 split
 ·
  rw [ByteArray.size_append]; omega
 split
 ·
  simp only [ByteArray.size_append]; omega
 ·
  simp only [ByteArray.size_append]; omega
 simp only [ByteArray.size_append]; omega
theorem shV_len {dec : Int -> ByteArray} (hd : ∀ n, -big <= n -> n <= big -> (dec n).size <= 20) : (v : Vl) -> VlOk v -> ∀ lev m, (shV dec v lev m).size <= 24 * szV v
 | .int n, h, lev, m => by
  have := hd n h.1 h.2
  show (dec n).size <= 24
  omega
 | .bool n, h, lev, m => by
  show (if n = 1 then (⟨#[35, 116]⟩ : ByteArray) else ⟨#[35, 102]⟩).size <= 24
  split <;> decide
 | .nil, h, lev, m => by
  show (⟨#[40, 41]⟩ : ByteArray).size <= 24
  decide
 | .sym s, h, lev, m => by
  have := h.2
  show s.size <= 24
  omega
 | .pair a b, h, lev, m => by
  have ha := shV_len hd a h.1
  have hb := shV_len hd b h.2
  show _ <= 24 * (1 + (szV a + szV b))
  cases m with
  | none =>
   rw [shV_top]
   split
   ·
    have : (⟨#[46, 46]⟩ : ByteArray).size = 2 := rfl
    omega
   exact shIt_len (ha _ _) hb (by decide)
  | some i =>
   rw [shV_item]
   exact shIt_len (ha _ _) hb (by decide)
end Go.Proofs.YtfhbdlobhjegcaaGreatDoor
