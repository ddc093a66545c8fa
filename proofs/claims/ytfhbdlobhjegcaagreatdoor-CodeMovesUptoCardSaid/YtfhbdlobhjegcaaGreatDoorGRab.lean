import Derived.Test.YtfhbdlobhjegcaaGreatDoorGQhi
import Derived.Test.YtfhbdlobhjegcaaGreatDoorPm
import Derived.Laws.OwnMore
namespace Go.Proofs.YtfhbdlobhjegcaaGreatDoor
open Go.RowKit Go.ChangeShapes Go.WideShapes Go.Deep Go.ChangeAt
set_option linter.unusedVariables false
set_option maxRecDepth 20000
structure Mv (M : Nat) (w : World) (v : Value) (w' : World) (v' : Value) : Prop where
 os : w'.os = w.os
 tape : w'.tape = w.tape
 output : w'.output = w.output
 size : w.heap.size <= w'.heap.size
 block : ∀ b, b < w.heap.size -> b ≠ M -> v.ownBlock ≠ some b -> w'.heap[b]? = w.heap[b]?
 own : v'.ownBlock = v.ownBlock \/ ∃ b, v'.ownBlock = some b /\ w.heap.size <= b
theorem Mv.refl (M : Nat) (w : World) (v : Value) : Mv M w v w v := ⟨rfl, rfl, rfl, Nat.le_refl _, fun _ _ _ _ => rfl, Or.inl rfl⟩
theorem Mv.trans {M : Nat} {w w' w'' : World} {v v' v'' : Value} (h : Mv M w v w' v') (h' : Mv M w' v' w'' v'') : Mv M w v w'' v'' :=
 ⟨h'.os.trans h.os, h'.tape.trans h.tape, h'.output.trans h.output, Nat.le_trans h.size h'.size, fun b hl h1 h2 => (h'.block b (Nat.lt_of_lt_of_le hl h.size) h1 (fun e => by
  rcases h.own with h3 | ⟨c, h3, h4⟩
  ·
   exact h2 (h3.symm.trans e)
  ·
   rw [h3] at e
   have := Option.some.inj e
   omega)).trans (h.block b hl h1 h2), by
  rcases h'.own with h3 | ⟨c, h3, h4⟩
  ·
   rcases h.own with h5 | ⟨d, h5, h6⟩
   ·
    exact Or.inl (h3.trans h5)
   exact Or.inr ⟨d, h3.trans h5, h6⟩
  exact Or.inr ⟨c, h3, Nat.le_trans h.size h4⟩⟩
theorem Mv.new {M : Nat} {w w' : World} {v : Value} (hb : Below w.heap.size w w') : Mv M w v w' v :=
 ⟨hb.os, hb.tape, hb.output, hb.size, fun b hl _ _ => hb.block b hl, Or.inl rfl⟩
structure MkAt (w : World) (M o : Nat) (v : Value) (X : List IV) : Prop where
 lt : M < w.heap.size
 c0 : w.cell? ⟨M, 0, none⟩ = some (.int .i64 o)
 c1 : w.cell? ⟨M, 1, none⟩ = some (.int .i64 o)
 c2 : w.cell? ⟨M, 2, none⟩ = some (.int .i64 0)
 c3 : w.cell? ⟨M, 3, none⟩ = some v
 fz : ∀ j, w.frozen? ⟨M, j, none⟩ = false
 own : OwnAt kitIV 51 (M + 1) w v X
theorem MkAt.new {w w' : World} {M o : Nat} {v : Value} {X : List IV} (h : MkAt w M o v X) (hb : Below w.heap.size w w') : MkAt w' M o v X :=
 ⟨Nat.lt_of_lt_of_le h.lt hb.size, (hb.cell (p := ⟨M, 0, none⟩) h.lt).trans h.c0, (hb.cell (p := ⟨M, 1, none⟩) h.lt).trans h.c1, (hb.cell (p := ⟨M, 2, none⟩) h.lt).trans h.c2, (hb.cell (p := ⟨M, 3, none⟩) h.lt).trans h.c3, fun j => (hb.frozen (p := ⟨M, j, none⟩) h.lt).trans (h.fz j), h.own.new hb⟩
theorem MkAt.ownlt {w : World} {M o : Nat} {v : Value} {X : List IV} (h : MkAt w M o v X) {b : Nat} (hb : v.ownBlock = some b) : M < b /\ b < w.heap.size := by
 obtain ⟨h1, h2⟩ := h.own.row.lt b hb
 exact ⟨h1, h2⟩
theorem MkAt.put {w w' : World} {M o : Nat} {v v' : Value} {X X' : List IV} (h : MkAt w M o v X) (hg : w.grownBy w' v.ownBlock) (hO : OwnAt kitIV 51 (M + 1) w' v' X') (ho : v'.ownBlock = v.ownBlock \/ ∃ b, v'.ownBlock = some b /\ w.heap.size <= b) :
  MkAt (w'.setCell ⟨M, 3, none⟩ v') M o v' X' /\ Mv M w v (w'.setCell ⟨M, 3, none⟩ v') v' := by
 have hM : w'.heap[M]? = w.heap[M]? := hg.block M h.lt (fun e => by have := (h.ownlt e.symm).1; omega)
 have kc : ∀ {j u}, w.cell? ⟨M, j, none⟩ = some u -> w'.cell? ⟨M, j, none⟩ = some u := fun {j u} hu => (World.cell?_of_block (a := ⟨M, j, none⟩) hM).trans hu
 have hs := zd w' M 3 v'
 refine ⟨⟨Nat.lt_of_lt_of_le h.lt (Nat.le_trans hg.size hs.size), zg (kc h.c0) (by decide), zg (kc h.c1) (by decide), zg (kc h.c2) (by decide), zh (kc h.c3), fun j => by rw [World.frozen?_setCell, World.frozen?_of_block (a := ⟨M, j, none⟩) hM]; exact h.fz j, hO.other hs (by omega)⟩,
  hs.os.trans hg.os, hs.tape.trans hg.tape, hs.output.trans hg.output, Nat.le_trans hg.size hs.size, fun b hl h1 h2 => (hs.block b (Nat.lt_of_lt_of_le hl hg.size) (fun e => h1 (Option.some.inj e))).trans (hg.block b hl (fun e => h2 e.symm)), ho⟩
theorem step_ivD {base : Nat} {ops : Array Oper} {o : Oper} {act : Act} {KK : Act -> World -> Prop} {Q : Exit -> Act -> World -> Prop} {E : Prop} {w : World} (hgd : o.guard = none) (s y : Operand)
  (ho : o.op = .call { callee := .builtin .append, args := #[s, y], argTypes := #[30, 30] })
  {v : Value} {X : List IV} (hO : OwnAt kitIV 51 base w v X) (x : IV) (cs : Array Value) (hcs : cs.toList = x.cells)
  (hs : act.eval s = v) (hy : act.eval y = .slice (some ⟨w.heap.size, 0, none⟩) 1 1) (hb : X.length + 1 <= 1073741825) (hbase : base <= w.heap.size)
  (h : ∀ v' w', OwnAt kitIV 51 base w' v' (X ++ [x]) -> w.grownBy w' v.ownBlock -> (v'.ownBlock = v.ownBlock \/ ∃ b, v'.ownBlock = some b /\ w.heap.size <= b) -> KK (act.put o.dst v') w') :
  if Region.wanted o (yielded ops act.tmps) = true then Oper.wp Tryz.prog o act (w.alloc (.cells cs 51)).drew KK Q else E := by
 obtain ⟨i0, hi, hz0, hz1, hz2⟩ := info_parts infoInstr
 have hw : Region.wanted o (yielded ops act.tmps) = true := by simp [Region.wanted, hgd]
 rw [if_pos hw]
 obtain ⟨v', w', hr, h1, h2, h3⟩ := run_own (rt := o.type) (sl := 30) (w := w.drew) Tryz.underlying30 hi hz0 hz1 hz2 rfl (by decide) (hO.new ((Below.refl _ _).drew)) x cs hcs trivial (fun b hb => hb.elim) (fun b hb => hb.elim) (by unfold maxLen; omega) hbase
 unfold Oper.wp execOp
 have hr2 : (Builtin.append_ #[30, 30] o.type #[v, .slice (some ⟨w.heap.size, 0, none⟩) 1 1]).run Tryz.prog (w.alloc (.cells cs 51)).drew = .ok v' w' := hr
 simp only [ho, resolve, invoke, builtin, Sem.run_bind, Sem.run_pure, Result.andThen_ok, List.map_toArray, List.map_cons, List.map_nil, hs, hy, hr2]
 exact h v' w' h1 ((zb ((Below.refl _ _).drew) _).trans h2) h3
def MkPost (w : World) (M o : Nat) (v : Value) (X' : List IV) (r : Value) (e : Ending) (w' : World) : Prop := e = .returned r /\ ∃ v', MkAt w' M o v' X' /\ Mv M w v w' v'
set_option maxHeartbeats 4000000 in
theorem emit_any {w : World} {M o : Nat} {v : Value} {X : List IV} (h : MkAt w M o v X) (hX : X.length <= 1073741824) (x : IV) :
  Calls Tryz.prog 31 #[.pointer (some ⟨M, 0, none⟩), x.agg] w (MkPost w M o v (X ++ [x]) (.int .i64 X.length)) := by
 obtain ⟨A, cap, rfl, hle, hcm, _, _⟩ := h.own.form
 obtain ⟨N, hN⟩ : ∃ N, X.length = N := ⟨_, rfl⟩
 rw [hN] at h hle hX ⊢
 obtain ⟨op, ia, is, ⟨wk, wn, ws⟩⟩ := x
 simp only [IV.agg]
 obtain ⟨wb, hwb⟩ : ∃ wb, w.alloc (.cells #[.int .i64 op, .int .i64 ia, .int .i64 0, .string is, .string ⟨#[]⟩, .int .i64 wk, .int .i64 wn, .string ws] 51) = wb := ⟨_, rfl⟩
 have hb : Below w.heap.size w wb := by rw [<- hwb]; exact (Below.refl _ _).alloc (Nat.le_refl _) _
 have z0 : wb.cell? ⟨w.heap.size, 0, none⟩ = some (.int .i64 op) := by rw [<- hwb]; exact za _ _ _ 0
 have z1 : wb.cell? ⟨w.heap.size, 1, none⟩ = some (.int .i64 ia) := by rw [<- hwb]; exact za _ _ _ 1
 have z2 : wb.cell? ⟨w.heap.size, 2, none⟩ = some (.int .i64 0) := by rw [<- hwb]; exact za _ _ _ 2
 have z3 : wb.cell? ⟨w.heap.size, 3, none⟩ = some (.string is) := by rw [<- hwb]; exact za _ _ _ 3
 have z4 : wb.cell? ⟨w.heap.size, 4, none⟩ = some (.string ⟨#[]⟩) := by rw [<- hwb]; exact za _ _ _ 4
 have z5 : wb.cell? ⟨w.heap.size, 5, none⟩ = some (.int .i64 wk) := by rw [<- hwb]; exact za _ _ _ 5
 have z6 : wb.cell? ⟨w.heap.size, 6, none⟩ = some (.int .i64 wn) := by rw [<- hwb]; exact za _ _ _ 6
 have z7 : wb.cell? ⟨w.heap.size, 7, none⟩ = some (.string ws) := by rw [<- hwb]; exact za _ _ _ 7
 have hE := h.new hb
 have c3 := hE.c3
 have f3 := hE.fz 3
 have hMb := hE.lt
 have HE := Lib.hid hE
 have HB := Lib.hid hb
 have HWB := Lib.hid hwb
 have HNN := Lib.hid hN
 have HO := Lib.hid hE.own
 have HKT := Lib.hid (show ∀ W, wb.grownBy W (Value.slice A N cap).ownBlock -> W.heap[M]? = wb.heap[M]? from fun W hg => hg.block _ hMb (fun e => by have h1 := (hE.ownlt e.symm).1; omega))
 clear h hwb hN hE hb hle hcm
 go_enter Tryz.func31, Tryz.ntmps31
 go_upto_region 1 with fail
 rw [HWB.out]
 go_region_law (refine step_ivD (base := M + 1) (by rfl) (.tmp 10) (.tmp 12) (by rfl) HO.out ⟨op, ia, is, ⟨wk, wn, ws⟩⟩ _ rfl (by rfl) (by rfl) (by have h := HNN.out; omega) hMb ?_; intro v9 w9 h5 h6 h7; obtain ⟨A9, c9, h8, _⟩ := h5.form; rw [show (X ++ [(⟨op, ia, is, ⟨wk, wn, ws⟩⟩ : IV)]).length = N + 1 by rw [List.length_append, HNN.out]; rfl] at h8; subst h8; have hk9 := HKT.out w9 h6; have c39 := (World.cell?_of_block (a := ⟨M, 3, none⟩) hk9).trans c3; have f39 := (World.frozen?_of_block (a := ⟨M, 3, none⟩) hk9).trans f3; have H5 := Lib.hid h5; have H6 := Lib.hid h6; have H7 := Lib.hid h7; clear h5 h6 h7 hk9)
 all_goals
  obtain ⟨hm1, hm2⟩ := HE.out.put H6.out H5.out H7.out
  have hn := hm1.c3
  have HM1 := Lib.hid hm1
  have HM2 := Lib.hid ((Mv.new HB.out).trans hm2)
  clear hm1 hm2
  generalize w9.setCell ⟨M, 3, none⟩ (.slice A9 (N + 1) c9) = wz at hn HM1 HM2 ⊢
  go_wp2_with fail
  refine bodyPost_ret (v := .int .i64 N) (by simp [results, Tryz.results31, go_sem]) rfl ⟨rfl, _, HM1.out, HM2.out⟩
theorem cells8 (P : List IV) : (P.map kitIV.cells).flatten.length = P.length * 8 := by
 induction P with
 | nil => rfl
 | cons x P ih => rw [List.map_cons, List.flatten_cons, List.length_append, ih, List.length_cons]; show 8 + P.length * 8 = _; omega
theorem OwnAt.jump {ty : TypeId} {base : Nat} {w : World} {g cap n : Nat} {P S : List IV} {x : IV} (h : OwnAt kitIV ty base w (.slice (some ⟨g, 0, none⟩) n cap) (P ++ x :: S)) (hn : (P ++ x :: S).length = n) (a : Int) :
  OwnAt kitIV ty base (w.setCell ⟨g, P.length * 8 + 1, none⟩ (.int .i64 a)) (.slice (some ⟨g, 0, none⟩) n cap) (P ++ ⟨x.op, a, x.s, x.w⟩ :: S) /\ w.grownBy (w.setCell ⟨g, P.length * 8 + 1, none⟩ (.int .i64 a)) (some g) := by
 have hr := h.row
 rw [hn] at hr
 obtain ⟨h1, h2⟩ := hr.stored (P.length * 8 + 1) (.int .i64 a)
 refine ⟨⟨?_, fun _ _ => trivial, fun _ _ b hb => hb.elim, fun _ _ b hb => hb.elim⟩, h2⟩
 have hl2 : (P ++ (⟨x.op, a, x.s, x.w⟩ : IV) :: S).length = n := by rw [<- hn]; simp
 rw [hl2]
 have he : ((P ++ x :: S).map kitIV.cells).flatten.set (P.length * 8 + 1) (.int .i64 a) = ((P ++ (⟨x.op, a, x.s, x.w⟩ : IV) :: S).map kitIV.cells).flatten := by
  rw [List.map_append, List.flatten_append, List.map_append, List.flatten_append, List.set_append, if_neg (by rw [cells8]; omega), cells8]
  rw [show P.length * 8 + 1 - P.length * 8 = 1 by omega]
  rfl
 rw [he] at h1
 exact h1
set_option maxHeartbeats 4000000 in
theorem here_any {w : World} {M o : Nat} {v : Value} {P S : List IV} {x : IV} (h : MkAt w M o v (P ++ x :: S)) :
  Calls Tryz.prog 68 #[.pointer (some ⟨M, 0, none⟩), .int .i64 P.length] w (MkPost w M o v (P ++ ⟨x.op, (P ++ x :: S).length, x.s, x.w⟩ :: S) (.tuple #[])) := by
 obtain ⟨A, cap, rfl, hle, hcm, hr, _⟩ := h.own.form
 obtain ⟨N, hN⟩ : ∃ N, (P ++ x :: S).length = N := ⟨_, rfl⟩
 obtain ⟨n, hn⟩ : ∃ n, P.length = n := ⟨_, rfl⟩
 have hnN : n < N := by rw [<- hN, <- hn]; simp
 have hfm : ∃ g, A = some ⟨g, 0, none⟩ := by
  rcases h.own.row.2 with ⟨h1, h2⟩ | ⟨g, cap', cur, h1, _⟩
  ·
   omega
  cases h1
  exact ⟨g, rfl⟩
 obtain ⟨g, rfl⟩ := hfm
 rw [hN] at h hle ⊢
 obtain ⟨hj1, hj2⟩ := h.own.jump hN (N : Int)
 rw [hn] at hj1 hj2
 have hcap : cap <= 9223372036854775807 := by unfold maxLen at hcm; omega
 have hgM : M < g /\ g < w.heap.size := h.ownlt rfl
 have c3 := h.c3
 have hx1 : w.cell? ⟨g, n * 8 + 1, none⟩ = some (.int .i64 x.a) := by
  obtain ⟨b, o2, hA, hl, hc⟩ := hr.at_ (by omega)
  cases hA
  obtain ⟨_, hc⟩ := hc n (by rw [List.length_map]; omega)
  have hc1 := hc 1 (by rw [List.getElem_map]; simp [kitIV, IV.cells])
  rw [List.getElem_map] at hc1
  have hgx : (P ++ x :: S)[n]'(by omega) = x := by simp [<- hn]
  rw [hgx] at hc1
  simpa [kitIV, IV.cells] using hc1
 have hf1 : w.frozen? ⟨g, n * 8 + 1, none⟩ = false := by
  have hrow := h.own.row
  rw [hN] at hrow
  exact hrow.frozenAt _
 have hn0 : (0 : Int) <= (n : Int) := Int.natCast_nonneg _
 have hnc : (n : Int) < (N : Int) := by omega
 have hnc2 : (n : Int) < (cap : Int) := by omega
 have hmk : MkAt (w.setCell ⟨g, n * 8 + 1, none⟩ (.int .i64 N)) M o (.slice (some ⟨g, 0, none⟩) N cap) (P ++ ⟨x.op, N, x.s, x.w⟩ :: S) := by
  have hne : M ≠ g := by omega
  exact ⟨by simpa using h.lt, set_otherB h.c0 hne, set_otherB h.c1 hne, set_otherB h.c2 hne, set_otherB h.c3 hne, fun j => by rw [World.frozen?_setCell]; exact h.fz j, hj1⟩
 have hmv : Mv M w (.slice (some ⟨g, 0, none⟩) N cap) (w.setCell ⟨g, n * 8 + 1, none⟩ (.int .i64 N)) (.slice (some ⟨g, 0, none⟩) N cap) :=
  ⟨hj2.os, hj2.tape, hj2.output, hj2.size, fun b hl h1 h2 => hj2.block b hl (fun e => h2 e.symm), Or.inl rfl⟩
 have HMK := Lib.hid hmk
 have HMV := Lib.hid hmv
 clear h hN hr hj1 hj2 hmk hmv hcm hle
 rw [hn]
 clear hn
 go_enter Tryz.func68, Tryz.ntmps68
 go_region
 all_goals
  go_wp2_with fail
  exact bodyPost_end (v := .tuple #[]) (results_none rfl _ _ _) rfl ⟨rfl, _, HMK.out.new ((Below.refl _ _).drew), HMV.out.trans (Mv.new ((Below.refl _ _).drew))⟩
/- The program's maker: contract of datum. -/
theorem Mv.cell {M : Nat} {w w' : World} {v v' : Value} (h : Mv M w v w' v') {b : Nat} (j : Nat) (hl : b < w.heap.size) (h1 : b ≠ M) (h2 : v.ownBlock ≠ some b) : w'.cell? ⟨b, j, none⟩ = w.cell? ⟨b, j, none⟩ := World.cell?_of_block (a := ⟨b, j, none⟩) (h.block b hl h1 h2)
theorem Mv.below {M n : Nat} {w w' : World} {v v' : Value} (h : Mv M w v w' v') (hn : n <= w.heap.size) (hM : n <= M) (hv : ∀ b, v.ownBlock = some b -> n <= b) : Below n w w' :=
 ⟨h.os, h.tape, h.output, h.size, fun b hl => h.block b (by omega) (by omega) (fun e => by have := hv b e; omega)⟩
structure Mk (W0 w : World) (M o : Nat) (v : Value) (X : List IV) : Prop where
 at_ : MkAt w M o v X
 old : Below W0.heap.size W0 w
 le : W0.heap.size <= M
section
variable {W0 w w' : World} {M o : Nat} {v v' : Value} {X X' : List IV}
theorem Mk.new (h : Mk W0 w M o v X) (hb : Below w.heap.size w w') : Mk W0 w' M o v X := ⟨h.at_.new hb, h.old.trans (hb.mono h.old.size), h.le⟩
theorem Mk.step (h : Mk W0 w M o v X) (hm : MkAt w' M o v' X') (hv : Mv M w v w' v') : Mk W0 w' M o v' X' :=
 ⟨hm, h.old.trans (hv.below h.old.size h.le (fun b e => by have := (h.at_.ownlt e).1; have := h.le; omega)), h.le⟩
theorem Mk.keep (h : Mk W0 w M o v X) {w1 w2 : World} {v2 : Value} (hb : Below w.heap.size w w1) (hv : Mv M w1 v w2 v2) {b : Nat} (j : Nat) (h1 : w.heap.size <= b) (h2 : b < w1.heap.size) : w2.cell? ⟨b, j, none⟩ = w1.cell? ⟨b, j, none⟩ :=
 hv.cell j h2 (by have := h.at_.lt; omega) (fun e => by have := (h.at_.ownlt e).2; omega)
end
theorem codeDs_snoc (l : List Dt) (k : Nat) (hk : k < l.length) : codeDs (l.take (k + 1)) = codeDs (l.take k) ++ codeD l[k] := by
 induction l generalizing k with
 | nil => exact absurd hk (by simp)
 | cons a l ih =>
  cases k with
  | zero => simp [codeDs]
  | succ k =>
   have hk' : k < l.length := by simpa using hk
   rw [List.take_succ_cons, List.take_succ_cons, codeDs, codeDs, ih k hk', List.append_assoc]
   rfl
theorem codeDs_take (l : List Dt) (k : Nat) : (codeDs (l.take k)).length <= (codeDs l).length := by
 induction l generalizing k with
 | nil => simp
 | cons a l ih =>
  cases k with
  | zero => simp [codeDs]
  | succ k =>
   rw [List.take_succ_cons, codeDs, codeDs, List.length_append, List.length_append]
   have := ih k
   omega
theorem countDs_nth (l : List Dt) (k : Nat) (hk : k < l.length) : countD l[k] <= countDs l := by
 induction l generalizing k with
 | nil => exact absurd hk (by simp)
 | cons a l ih =>
  cases k with
  | zero => simp [countDs]
  | succ k =>
   have hk' : k < l.length := by simpa using hk
   rw [countDs]
   have := ih k hk'
   simp only [List.getElem_cons_succ]
   omega
theorem codeDs_nth (l : List Dt) (k : Nat) (hk : k < l.length) : (codeDs (l.take k)).length + (codeD l[k]).length <= (codeDs l).length := by
 have h := codeDs_snoc l k hk
 have h2 := congrArg List.length h
 have h3 := codeDs_take l (k + 1)
 rw [List.length_append] at h2
 omega
def DatumSays (n : Nat) : Prop := ∀ (W0 w : World) (M o : Nat) (v : Value) (X : List IV) (cs : List Value) (d : Dt), countD d <= n -> DtIn W0 0 W0.heap.size cs d -> DtW d -> Mk W0 w M o v X -> X.length + (codeD d).length <= 1073741824 →
  Calls Tryz.prog 64 #[.pointer (some ⟨M, 0, none⟩), .agg cs.toArray] w (MkPost w M o v (X ++ codeD d) (.tuple #[]))
set_option maxHeartbeats 8000000 in
theorem datum_any : (n : Nat) -> DatumSays n
 | 0 => fun W0 w M o v X cs d hn hin hw hm hX => by
  cases d
  rw [countD] at hn
  omega
 | r + 1 => fun W0 w M o v X cs d hn hin hw hm hX => by
  have ih := datum_any r
  cases hin with
  | mk k n s A cap l cs hl h1 h2 row each =>
  cases hw with
  | mk _ _ _ _ hk1 hk4 hww hlw =>
  have hcap : cap <= 9223372036854775807 := by unfold maxLen at h2; omega
  obtain ⟨wa, hwa⟩ : ∃ wa, w.alloc (.cells #[.int .i64 k, .int .i64 n, .string s, .slice A l.length cap] 24) = wa := ⟨_, rfl⟩
  have hba : Below w.heap.size w wa := by rw [<- hwa]; exact (Below.refl _ _).alloc (Nat.le_refl _) _
  have hla : w.heap.size < wa.heap.size := by rw [<- hwa]; simp
  have sa : wa.heap.size = w.heap.size + 1 := by rw [<- hwa]; simp
  have z0 : wa.cell? ⟨w.heap.size, 0, none⟩ = some (.int .i64 k) := by rw [<- hwa]; exact za _ _ _ 0
  have z1 : wa.cell? ⟨w.heap.size, 1, none⟩ = some (.int .i64 n) := by rw [<- hwa]; exact za _ _ _ 1
  have z2 : wa.cell? ⟨w.heap.size, 2, none⟩ = some (.string s) := by rw [<- hwa]; exact za _ _ _ 2
  have z3 : wa.cell? ⟨w.heap.size, 3, none⟩ = some (.slice A l.length cap) := by rw [<- hwa]; exact za _ _ _ 3
  have HWA := Lib.hid hwa
  obtain ⟨wb, hwb⟩ : ∃ wb, wa.alloc (.cells #[.int .i64 1, .int .i64 n, .string ⟨#[]⟩] 49) = wb := ⟨_, rfl⟩
  have hbb : Below wa.heap.size wa wb := by rw [<- hwb]; exact (Below.refl _ _).alloc (Nat.le_refl _) _
  have hlb : w.heap.size + 1 < wb.heap.size := by rw [<- hwb, <- sa]; simp
  have y0 : wb.cell? ⟨w.heap.size, 0, none⟩ = some (.int .i64 k) := (hbb.cell (p := ⟨w.heap.size, 0, none⟩) hla).trans z0
  have y1 : wb.cell? ⟨w.heap.size, 1, none⟩ = some (.int .i64 n) := (hbb.cell (p := ⟨w.heap.size, 1, none⟩) hla).trans z1
  have y2 : wb.cell? ⟨w.heap.size, 2, none⟩ = some (.string s) := (hbb.cell (p := ⟨w.heap.size, 2, none⟩) hla).trans z2
  have y3 : wb.cell? ⟨w.heap.size, 3, none⟩ = some (.slice A l.length cap) := (hbb.cell (p := ⟨w.heap.size, 3, none⟩) hla).trans z3
  have v0 : wb.cell? ⟨w.heap.size + 1, 0, none⟩ = some (.int .i64 1) := by rw [<- hwb, <- sa]; exact za _ _ _ 0
  have v1 : wb.cell? ⟨w.heap.size + 1, 1, none⟩ = some (.int .i64 n) := by rw [<- hwb, <- sa]; exact za _ _ _ 1
  have v2 : wb.cell? ⟨w.heap.size + 1, 2, none⟩ = some (.string ⟨#[]⟩) := by rw [<- hwb, <- sa]; exact za _ _ _ 2
  have vf : ∀ j, wb.frozen? ⟨w.heap.size + 1, j, none⟩ = false := by intro j; rw [<- hwb, <- sa]; exact ze _ _ _ _
  have f0 := vf 0
  have f1 := vf 1
  have f2 := vf 2
  have hb := hba.trans (hbb.mono hba.size)
  have HWB := Lib.hid hwb
  have HB := Lib.hid hb
  have HM := Lib.hid hm
  have HX := Lib.hid hX
  clear hwa hwb hba hbb z0 z2 z3 vf hb
  have hk : k = 1 \/ k = 2 \/ k = 3 \/ k = 4 := by omega
  clear hk1 hk4 hww hm hX
  rcases hk with rfl | rfl | rfl | rfl
  ·
   have hcd : codeD (.mk 1 n s l) = [constI ⟨1, n, ⟨#[]⟩⟩] := by rw [codeD]; simp [atomW]
   rw [hcd] at HX ⊢
   have HCD := Lib.hid hcd
   clear hcd
   go_enter Tryz.func64, Tryz.ntmps64
   go_upto_region 1 with fail
   rw [HWA.out]
   go_upto_region 2 with fail
   rw [HWB.out]
   go_upto_region 18 with fail
   have hm2 := HM.out.new HB.out
   have HBC := HB
   go_wp2_with fail
   refine (emit_any hm2.at_ (by have := HX.out; simp at this; omega) (constI ⟨1, n, ⟨#[]⟩⟩)).mono ?_
   rintro e w2 ⟨rfl, v2, hm3, hmv⟩
   go_wp2_with fail
   exact bodyPost_end (v := .tuple #[]) (results_none rfl _ _ _) rfl ⟨rfl, v2, hm3, (Mv.new HBC.out).trans hmv⟩
  ·
   have hcd : codeD (.mk 2 n s l) = [constI ⟨2, n, ⟨#[]⟩⟩] := by rw [codeD]; simp [atomW]
   rw [hcd] at HX ⊢
   have HCD := Lib.hid hcd
   clear hcd
   go_enter Tryz.func64, Tryz.ntmps64
   go_upto_region 1 with fail
   rw [HWA.out]
   go_upto_region 2 with fail
   rw [HWB.out]
   go_upto_region 18 with fail
   obtain ⟨wc, hwc⟩ : ∃ wc, (wb.setCell ⟨w.heap.size + 1, 0, none⟩ (.int .i64 2)) = wc := ⟨_, rfl⟩
   have hbc : Below w.heap.size w wc := by rw [<- hwc]; exact HB.out.setCell (Nat.le_succ _) _
   have u0 : wc.cell? ⟨w.heap.size + 1, 0, none⟩ = some (.int .i64 2) := by rw [<- hwc]; exact zh (v0)
   have u1 : wc.cell? ⟨w.heap.size + 1, 1, none⟩ = some (.int .i64 n) := by rw [<- hwc]; exact zg (v1) (by decide)
   have u2 : wc.cell? ⟨w.heap.size + 1, 2, none⟩ = some (.string ⟨#[]⟩) := by rw [<- hwc]; exact zg (v2) (by decide)
   rw [hwc]
   have hm2 := HM.out.new hbc
   have HBC := Lib.hid hbc
   clear hwc v0 v1 v2 hbc
   go_wp2_with fail
   refine (emit_any hm2.at_ (by have := HX.out; simp at this; omega) (constI ⟨2, n, ⟨#[]⟩⟩)).mono ?_
   rintro e w2 ⟨rfl, v2, hm3, hmv⟩
   go_wp2_with fail
   exact bodyPost_end (v := .tuple #[]) (results_none rfl _ _ _) rfl ⟨rfl, v2, hm3, (Mv.new HBC.out).trans hmv⟩
  ·
   have hcd : codeD (.mk 3 n s l) = [constI ⟨4, 0, s⟩] := by rw [codeD]; simp [atomW]
   rw [hcd] at HX ⊢
   have HCD := Lib.hid hcd
   clear hcd
   go_enter Tryz.func64, Tryz.ntmps64
   go_upto_region 1 with fail
   rw [HWA.out]
   go_upto_region 2 with fail
   rw [HWB.out]
   go_upto_region 18 with fail
   obtain ⟨wc, hwc⟩ : ∃ wc, (((wb.setCell ⟨w.heap.size + 1, 0, none⟩ (.int .i64 4)).setCell ⟨w.heap.size + 1, 1, none⟩ (.int .i64 0)).setCell ⟨w.heap.size + 1, 2, none⟩ (.string s)) = wc := ⟨_, rfl⟩
   have hbc : Below w.heap.size w wc := by rw [<- hwc]; exact ((HB.out.setCell (Nat.le_succ _) _).setCell (Nat.le_succ _) _).setCell (Nat.le_succ _) _
   have u0 : wc.cell? ⟨w.heap.size + 1, 0, none⟩ = some (.int .i64 4) := by rw [<- hwc]; exact zg (zg (zh (v0)) (by decide)) (by decide)
   have u1 : wc.cell? ⟨w.heap.size + 1, 1, none⟩ = some (.int .i64 0) := by rw [<- hwc]; exact zg (zh (zg (v1) (by decide))) (by decide)
   have u2 : wc.cell? ⟨w.heap.size + 1, 2, none⟩ = some (.string s) := by rw [<- hwc]; exact zh (zg (zg (v2) (by decide)) (by decide))
   rw [hwc]
   have hm2 := HM.out.new hbc
   have HBC := Lib.hid hbc
   clear hwc v0 v1 v2 hbc
   go_wp2_with fail
   refine (emit_any hm2.at_ (by have := HX.out; simp at this; omega) (constI ⟨4, 0, s⟩)).mono ?_
   rintro e w2 ⟨rfl, v2, hm3, hmv⟩
   go_wp2_with fail
   exact bodyPost_end (v := .tuple #[]) (results_none rfl _ _ _) rfl ⟨rfl, v2, hm3, (Mv.new HBC.out).trans hmv⟩
  have hcd : codeD (.mk 4 n s l) = codeDs l ++ constI nilW :: List.replicate l.length (primI sCons 2) := by rw [codeD]; simp
  rw [hcd] at HX ⊢
  have HCD := Lib.hid hcd
  have hlen : X.length + ((codeDs l).length + (l.length + 1)) <= 1073741824 := by have := HX.out; simpa using this
  have hcn : countDs l <= r := by rw [countD] at hn; omega
  have HROW := Lib.hid row
  have HEACH := Lib.hid each
  have HLW := Lib.hid hlw
  have HIH := Lib.hid ih
  obtain ⟨N, hN⟩ : ∃ N, l.length = N := ⟨_, rfl⟩
  have HNN := Lib.hid hN
  rw [hN] at HWA y3 h1 hlen HX ⊢
  have HCN := Lib.hid hcn
  have HLC := Lib.hid hl
  clear hcd row each hlw ih hN hcn hl hn
  go_enter Tryz.func64, Tryz.ntmps64
  go_upto_region 1 with fail
  rw [HWA.out]
  go_upto_region 2 with fail
  rw [HWB.out]
  go_upto_region 9 with fail
  go_loopg [6, 25] N (fun g p i wr => ∃ (j : Nat) (v' : Value), g = N - j /\ j <= N /\ i = .int .i64 j /\ MkAt wr M o v' (X ++ codeDs (l.take j)) /\ Mv M wb v wr v')
  case atStart => exact ⟨0, v, by omega, by omega, rfl, by simpa [codeDs] using (HM.out.new HB.out).at_, Mv.refl _ _ _⟩
  obtain ⟨j, v', hg, hj, rfl, hmr, hvr⟩ := hrel
  have HG := Lib.hid hg
  have hM1 := (HM.out.new HB.out).step hmr hvr
  have HMR := Lib.hid hM1
  have HVR := Lib.hid hvr
  have x3 := (HM.out.keep HB.out hvr 3 (Nat.le_refl _) (by omega : w.heap.size < wb.heap.size)).trans y3
  clear hg hmr hvr hM1
  have hjN : (j : Int) < (N : Int) \/ j = N := by omega
  rcases hjN with hjN | rfl
  ·
   have hjl : j < l.length := by have := HNN.out; omega
   have hjc : j < cs.length := by have := HLC.out; omega
   obtain ⟨b, o2, hAb, _, _, hbw, hrow⟩ := HROW.out (by omega)
   subst hAb
   have hr := hrow j hjc
   have he := HEACH.out j hjl hjc
   have hdw := HLW.out _ (List.getElem_mem hjl)
   have hco : countD l[j] <= r := Nat.le_trans (countDs_nth l j hjl) HCN.out
   have hnt := codeDs_nth l j hjl
   have hsn := codeDs_snoc l j hjl
   generalize l[j] = dj at he hdw hco hnt hsn
   generalize cs[j] = cj at hr he
   have HSN := Lib.hid hsn
   have HNT := Lib.hid hnt
   cases he with
   | mk dk dn ds dA dcap dl dcs e1 e2 e3 e4 e5 =>
   have he2 := DtIn.mk dk dn ds dA dcap dl dcs e1 e2 e3 e4 e5
   have KD := Lib.hid (fun (W : World) (hW : Below wr.heap.size wr W) => HIH.out W0 W M o v' (X ++ codeDs (l.take j)) _ (.mk dk dn ds dl) hco he2 hdw (HMR.out.new hW) (by have := HNT.out; simp only [List.length_append]; omega))
   have x0 := (HMR.out.old.cell (p := ⟨b, o2 + j * 4 + 0, none⟩) hbw).trans (hr 0 (by simp))
   have x1 := (HMR.out.old.cell (p := ⟨b, o2 + j * 4 + 1, none⟩) hbw).trans (hr 1 (by simp))
   have x2 := (HMR.out.old.cell (p := ⟨b, o2 + j * 4 + 2, none⟩) hbw).trans (hr 2 (by simp))
   have x4 := (HMR.out.old.cell (p := ⟨b, o2 + j * 4 + 3, none⟩) hbw).trans (hr 3 (by simp))
   simp only [List.getElem?_cons_zero, List.getElem?_cons_succ, Nat.add_zero] at x0 x1 x2 x4
   have hj0 : (0 : Int) <= (j : Int) := Int.natCast_nonneg _
   have hjc2 : (j : Int) < (cap : Int) := by omega
   clear hr hdw hco he2 e1 e2 e3 e4 e5 hrow hsn hnt
   go_upto_region 11 with fail
   obtain ⟨wd, hwd⟩ : ∃ wd, wr.alloc (.cells #[.int .i64 dk, .int .i64 dn, .string ds, .slice dA dl.length dcap] 24) = wd := ⟨_, rfl⟩
   have hbd : Below wr.heap.size wr wd := by rw [<- hwd]; exact (Below.refl _ _).alloc (Nat.le_refl _) _
   have q0 : wd.cell? ⟨wr.heap.size, 0, none⟩ = some (.int .i64 dk) := by rw [<- hwd]; exact za _ _ _ 0
   have q1 : wd.cell? ⟨wr.heap.size, 1, none⟩ = some (.int .i64 dn) := by rw [<- hwd]; exact za _ _ _ 1
   have q2 : wd.cell? ⟨wr.heap.size, 2, none⟩ = some (.string ds) := by rw [<- hwd]; exact za _ _ _ 2
   have q3 : wd.cell? ⟨wr.heap.size, 3, none⟩ = some (.slice dA dl.length dcap) := by rw [<- hwd]; exact za _ _ _ 3
   rw [hwd]
   have HBD := Lib.hid hbd
   clear hwd hbd
   go_wp2_with fail
   refine (KD.out wd HBD.out).mono ?_
   rintro e w5 ⟨rfl, v5, hm5, hv5⟩
   have hm6 : MkAt w5 M o v5 (X ++ codeDs (l.take (j + 1))) := by rw [HSN.out, <- List.append_assoc]; exact hm5
   have HM6 := Lib.hid hm6
   have HV6 := Lib.hid (HVR.out.trans ((Mv.new HBD.out).trans hv5))
   clear hm5 hv5 hm6
   go_wp2_with fail
   go_roundg (N - (j + 1))
   case rel => exact ⟨j + 1, v5, rfl, by omega, by go_num, HM6.out, HV6.out⟩
   case measure => have := HG.out; omega
  have hlt : l.take j = l := List.take_of_length_le (by have := HNN.out; omega)
  have hM1 := HMR.out
  rw [hlt] at hM1
  have HM1 := Lib.hid hM1
  clear hlt hM1
  go_upto_region 13 with fail
  go_wp2_with fail
  refine (emit_any HM1.out.at_ (by simp only [List.length_append]; omega) (constI nilW)).mono ?_
  rintro e w2 ⟨rfl, v2, hm3, hmv⟩
  have x32 := (HM.out.keep HB.out (HVR.out.trans hmv) 3 (Nat.le_refl _) (by omega : w.heap.size < wb.heap.size)).trans y3
  have HM3 := Lib.hid hm3
  have HV3 := Lib.hid (HVR.out.trans hmv)
  clear hm3 hmv
  go_upto_region 15 with fail
  go_loopg [40] j (fun g i wr => ∃ (q : Nat) (v' : Value), g = j - q /\ q <= j /\ i = .int .i64 q /\ MkAt wr M o v' (X ++ codeDs l ++ [constI nilW] ++ List.replicate q (primI sCons 2)) /\ Mv M wb v wr v')
  case atStart => exact ⟨0, v2, by omega, by omega, rfl, by simpa using HM3.out, HV3.out⟩
  obtain ⟨q, v', hg, hq, rfl, hmr, hvr⟩ := hrel
  have HG2 := Lib.hid hg
  have HMR2 := Lib.hid hmr
  have HVR2 := Lib.hid hvr
  clear hg hmr hvr
  have hqN : (q : Int) < (j : Int) \/ q = j := by omega
  rcases hqN with hqN | rfl
  ·
   go_wp2_with fail
   refine (emit_any HMR2.out (by simp only [List.length_append, List.length_replicate, List.length_cons, List.length_nil]; omega) (primI sCons 2)).mono ?_
   rintro e w5 ⟨rfl, v5, hm5, hv5⟩
   have HM5 := Lib.hid (show MkAt w5 M o v5 (X ++ codeDs l ++ [constI nilW] ++ List.replicate (q + 1) (primI sCons 2)) from by rw [List.replicate_succ', <- List.append_assoc]; exact hm5)
   have HV5 := Lib.hid (HVR2.out.trans hv5)
   clear hm5 hv5
   go_wp2_with fail
   go_roundg (j - (q + 1))
   case rel => exact ⟨q + 1, v5, rfl, by omega, by go_num, HM5.out, HV5.out⟩
   case measure => have := HG2.out; omega
  go_wp2_with fail
  have hfin := HMR2.out
  rw [List.append_assoc, List.append_assoc] at hfin
  exact bodyPost_ret (v := .tuple #[]) (results_none rfl _ _ _) rfl ⟨rfl, v', hfin, (Mv.new HB.out).trans HVR2.out⟩
end Go.Proofs.YtfhbdlobhjegcaaGreatDoor
