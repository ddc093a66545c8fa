import Derived.Test.YtjmeodadkjcmmaaDoorTopC
namespace Go.Proofs.YtjmeodadkjcmmaaDoor
open Go.RowKit Go.ChangeShapes Go.WideShapes Go.Deep Go.ChangeAt
set_option linter.unusedVariables false
set_option maxRecDepth 20000
structure SV where
 name : ByteArray
 A : Option Addr
 cap : Nat
 ss : List ByteArray
 lo : Nat
 hi : Nat
def SV.cells (x : SV) : List Value := [.string x.name, .slice x.A x.ss.length x.cap]
def SV.sh (x : SV) : Sh := (x.name, x.ss)
def SV.ne (x : SV) : NE := ⟨x.name, x.A, x.ss.length, x.cap⟩
abbrev TS : TypeId := 53
structure SV.Ok (x : SV) : Prop where
 wide : x.name.size <= maxLen
 each : ∀ s ∈ x.ss, s.size <= maxLen
 good : shapeF x.name x.ss = 0
def kitSh : Kit SV where
 k := 2
 cells := SV.cells
 len x := rfl
 one x u hu := by
  simp only [SV.cells, List.mem_cons, List.not_mem_nil, or_false] at hu
  rcases hu with rfl | rfl <;> rfl
 ok w x := NmIn w x.lo x.hi x.A x.cap x.ss /\ x.hi <= w.heap.size /\ x.Ok
 uses x b := x.lo <= b /\ b < x.hi
 lt w x b h hb := Nat.lt_of_lt_of_le hb.2 h.2.1
 kept w w' x row h hg hn := ⟨h.1.mono (zm hg (fun b h1 h2 => hn b ⟨h1, h2⟩)) hg.size (Nat.le_refl _) (Nat.le_refl _), Nat.le_trans h.2.1 hg.size, h.2.2⟩
theorem OwnAt.nes {w : World} {base : Nat} {v : Value} {X : List SV} (h : OwnAt kitSh TS base w v X) : ∃ A cap, v = .slice A X.length cap /\ X.length <= cap /\ cap <= maxLen /\ NEsAt w A X.length (X.map SV.ne) := by
 obtain ⟨A, cap, rfl, h1, h2, hr, _⟩ := h.form
 refine ⟨A, cap, rfl, h1, h2, by simp, fun h0 => ?_⟩
 obtain ⟨b, o, rfl, hl, hc⟩ := hr.at_ h0
 refine ⟨b, o, rfl, hl, fun i hi => ?_⟩
 have hx : i < X.length := by simpa using hi
 have hrow := (hc i (by simpa [kitSh] using hx)).2
 rw [List.getElem_map] at hrow
 rw [List.getElem_map]
 exact ⟨hrow 0 (by simp [kitSh, SV.cells]), hrow 1 (by simp [kitSh, SV.cells])⟩
structure zy (base U N : Nat) (w w' : World) : Prop where
 os : w'.os = w.os
 tape : w'.tape = w.tape
 output : w'.output = w.output
 size : w.heap.size <= w'.heap.size
 block : ∀ k, k < base -> k ≠ U -> k ≠ N -> w'.heap[k]? = w.heap[k]?
theorem zy.refl (base U N : Nat) (w : World) : zy base U N w w := ⟨rfl, rfl, rfl, Nat.le_refl _, fun _ _ _ _ => rfl⟩
theorem zy.trans {base U N : Nat} {a b c : World} (h : zy base U N a b) (k : zy base U N b c) : zy base U N a c :=
 ⟨k.os.trans h.os, k.tape.trans h.tape, k.output.trans h.output, Nat.le_trans h.size k.size, fun i h1 h2 h3 => (k.block i h1 h2 h3).trans (h.block i h1 h2 h3)⟩
theorem zy.below {base U N : Nat} {w w' : World} (hb : Below w.heap.size w w') (hs : base <= w.heap.size) : zy base U N w w' := ⟨hb.os, hb.tape, hb.output, hb.size, fun k hk _ _ => hb.block k (by omega)⟩
theorem zy.row {base U N : Nat} {w w' : World} {v : Value} (hg : w.grownBy w' v.ownBlock) (hv : ∀ k, v.ownBlock = some k -> base <= k) (hs : base <= w.heap.size) : zy base U N w w' := ⟨hg.os, hg.tape, hg.output, hg.size, fun k hk _ _ => hg.block k (by omega) (fun e => by have := hv k e.symm; omega)⟩
theorem zy.setU {base U N : Nat} (w : World) (j : Nat) (u : Value) : zy base U N w (w.setCell ⟨U, j, none⟩ u) := ⟨rfl, rfl, rfl, by simp, fun k _ h1 _ => heap_setCell_other w ⟨U, j, none⟩ k u (fun e => h1 e)⟩
theorem zy.setN {base U N : Nat} (w : World) (j : Nat) (u : Value) : zy base U N w (w.setCell ⟨N, j, none⟩ u) := ⟨rfl, rfl, rfl, by simp, fun k _ _ h1 => heap_setCell_other w ⟨N, j, none⟩ k u (fun e => h1 e)⟩
structure ColAt (W0 w : World) (base U N : Nat) (vS vN : Value) (X : List SV) (nm : List ByteArray) : Prop where
 below : Below W0.heap.size W0 w
 maps : UMaps W0
 geU : W0.heap.size <= U
 ltU : U < base
 geN : W0.heap.size <= N
 ltN : N < base
 neUN : U ≠ N
 bs : base <= w.heap.size
 u0 : w.cell? ⟨U, 0, none⟩ = some vS
 u1 : w.cell? ⟨U, 1, none⟩ = some (.slice none 0 0)
 u2 : w.cell? ⟨U, 2, none⟩ = some (.slice none 0 0)
 n0 : w.cell? ⟨N, 0, none⟩ = some vN
 fu : ∀ j, w.frozen? ⟨U, j, none⟩ = false
 fn : ∀ j, w.frozen? ⟨N, j, none⟩ = false
 oS : OwnAt kitSh TS base w vS X
 oN : OwnAt kitS 9 base w vN nm
 ne : AB.apart vS vN
 off : ∀ x ∈ X, ∀ b, kitSh.uses x b -> vN.ownBlock ≠ some b
theorem ColAt.next {W0 w w' : World} {base U N : Nat} {vS vN : Value} {X : List SV} {nm : List ByteArray} (h : ColAt W0 w base U N vS vN X nm) (hb : Below w.heap.size w w') : ColAt W0 w' base U N vS vN X nm := by
 have hs := h.bs
 have hc : ∀ b j, b < base -> w'.cell? ⟨b, j, none⟩ = w.cell? ⟨b, j, none⟩ := fun b j hb' => hb.cell (p := ⟨b, j, none⟩) (by show b < _; omega)
 have hf : ∀ b j, b < base -> w'.frozen? ⟨b, j, none⟩ = w.frozen? ⟨b, j, none⟩ := fun b j hb' => hb.frozen (p := ⟨b, j, none⟩) (by show b < _; omega)
 exact ⟨h.below.trans (hb.mono h.below.size), h.maps, h.geU, h.ltU, h.geN, h.ltN, h.neUN, Nat.le_trans hs hb.size, (hc _ _ h.ltU).trans h.u0, (hc _ _ h.ltU).trans h.u1, (hc _ _ h.ltU).trans h.u2, (hc _ _ h.ltN).trans h.n0,
  fun j => (hf _ j h.ltU).trans (h.fu j), fun j => (hf _ j h.ltN).trans (h.fn j), h.oS.new hb, h.oN.new hb, h.ne, h.off⟩
theorem ColAt.shape {W0 w w2 : World} {base U N : Nat} {vS vN u : Value} {X : List SV} {x : SV} {nm : List ByteArray} (h : ColAt W0 w base U N vS vN X nm) (hO : OwnAt kitSh TS base w2 u (X ++ [x])) (hg : w.grownBy w2 vS.ownBlock) (hu : u.ownBlock = vS.ownBlock \/ ∃ b, u.ownBlock = some b /\ w.heap.size <= b) (hx : ∀ b, kitSh.uses x b -> vN.ownBlock ≠ some b) :
  ColAt W0 (w2.setCell ⟨U, 0, none⟩ u) base U N u vN (X ++ [x]) nm /\ zy base U N w (w2.setCell ⟨U, 0, none⟩ u) := by
 have hs := h.bs
 have hvS : ∀ k, vS.ownBlock = some k -> base <= k := fun k hk => (h.oS.row.lt k hk).1
 have hvN : ∀ k, vN.ownBlock = some k -> k < w.heap.size := fun k hk => (h.oN.row.lt k hk).2
 have hG : zy base U N w w2 := zy.row hg hvS hs
 have hc : ∀ b j, b < base -> w2.cell? ⟨b, j, none⟩ = w.cell? ⟨b, j, none⟩ := fun b j hb' => World.cell?_of_block (a := ⟨b, j, none⟩) (hg.block b (by omega) (fun e => by have := hvS b e.symm; omega))
 have hf : ∀ b j, b < base -> w2.frozen? ⟨b, j, none⟩ = w.frozen? ⟨b, j, none⟩ := fun b j hb' => World.frozen?_of_block (a := ⟨b, j, none⟩) (hg.block b (by omega) (fun e => by have := hvS b e.symm; omega))
 have hset := zd w2 U 0 u
 have hbl : Below W0.heap.size W0 w2 := ⟨hg.os.trans h.below.os, hg.tape.trans h.below.tape, hg.output.trans h.below.output, Nat.le_trans h.below.size hg.size, fun k hk => (hg.block k (by have := h.below.size; omega) (fun e => by have := hvS k e.symm; have := h.geU; have := h.ltU; omega)).trans (h.below.block k hk)⟩
 have hN : OwnAt kitS 9 base w2 vN nm := ⟨h.oN.row.kept hg (by
  cases hv : vN.ownBlock with
  | none => exact Or.inl rfl
  | some b => exact Or.inr (fun e => h.ne b e.symm hv)), fun _ _ => trivial, fun _ _ _ h => h.elim, fun _ _ _ h => h.elim⟩
 have hneN : (⟨N, 0, none⟩ : Addr) ≠ ⟨U, 0, none⟩ := fun e => h.neUN (by cases e; rfl)
 refine ⟨⟨hbl.setCell (p := ⟨U, 0, none⟩) h.geU _, h.maps, h.geU, h.ltU, h.geN, h.ltN, h.neUN, by have := hg.size; simp [World.setCell]; omega, zk ((hc U 0 h.ltU).trans h.u0), zj ((hc U 1 h.ltU).trans h.u1) (by decide), zj ((hc U 2 h.ltU).trans h.u2) (by decide),
  (World.cell?_setCell_other (h := fun e => hneN e.symm) ..).trans ((hc N 0 h.ltN).trans h.n0), fun j => by rw [World.frozen?_setCell]; exact (hf U j h.ltU).trans (h.fu j), fun j => by rw [World.frozen?_setCell]; exact (hf N j h.ltN).trans (h.fn j), hO.other hset h.ltU, hN.other hset h.ltU, ?_, ?_⟩, hG.trans (zy.setU w2 0 u)⟩
 ·
  intro g hg1 hg2
  rcases hu with e | ⟨b, e, hb⟩
  ·
   rw [e] at hg1; exact h.ne g hg1 hg2
  rw [e] at hg1
  cases hg1
  have := hvN g hg2
  omega
 intro y hy b hb
 rcases List.mem_append.1 hy with hy | hy
 ·
  exact h.off y hy b hb
 obtain rfl : y = x := by simpa using hy
 exact hx b hb
theorem ColAt.name {W0 w w2 : World} {base U N : Nat} {vS vN u : Value} {X : List SV} {s : ByteArray} {nm : List ByteArray} (h : ColAt W0 w base U N vS vN X nm) (hO : OwnAt kitS 9 base w2 u (nm ++ [s])) (hg : w.grownBy w2 vN.ownBlock) (hu : u.ownBlock = vN.ownBlock \/ ∃ b, u.ownBlock = some b /\ w.heap.size <= b) :
  ColAt W0 (w2.setCell ⟨N, 0, none⟩ u) base U N vS u X (nm ++ [s]) /\ zy base U N w (w2.setCell ⟨N, 0, none⟩ u) := by
 have hs := h.bs
 have hvN : ∀ k, vN.ownBlock = some k -> base <= k := fun k hk => (h.oN.row.lt k hk).1
 have hvS : ∀ k, vS.ownBlock = some k -> k < w.heap.size := fun k hk => (h.oS.row.lt k hk).2
 have hG : zy base U N w w2 := zy.row hg hvN hs
 have hc : ∀ b j, b < base -> w2.cell? ⟨b, j, none⟩ = w.cell? ⟨b, j, none⟩ := fun b j hb' => World.cell?_of_block (a := ⟨b, j, none⟩) (hg.block b (by omega) (fun e => by have := hvN b e.symm; omega))
 have hf : ∀ b j, b < base -> w2.frozen? ⟨b, j, none⟩ = w.frozen? ⟨b, j, none⟩ := fun b j hb' => World.frozen?_of_block (a := ⟨b, j, none⟩) (hg.block b (by omega) (fun e => by have := hvN b e.symm; omega))
 have hset := zd w2 N 0 u
 have hbl : Below W0.heap.size W0 w2 := ⟨hg.os.trans h.below.os, hg.tape.trans h.below.tape, hg.output.trans h.below.output, Nat.le_trans h.below.size hg.size, fun k hk => (hg.block k (by have := h.below.size; omega) (fun e => by have := hvN k e.symm; have := h.geU; have := h.ltU; omega)).trans (h.below.block k hk)⟩
 have hS : OwnAt kitSh TS base w2 vS X := h.oS.grown hg (by
  cases hv : vS.ownBlock with
  | none => exact Or.inl rfl
  | some b => exact Or.inr (fun e => h.ne b hv e.symm)) (fun x hx b hb => h.off x hx b hb)
 have hneU : (⟨N, 0, none⟩ : Addr).block ≠ U := fun e => h.neUN e.symm
 have hcU : ∀ j, (w2.setCell ⟨N, 0, none⟩ u).cell? ⟨U, j, none⟩ = w2.cell? ⟨U, j, none⟩ := fun j => World.cell?_setCell_other (h := fun e => h.neUN (by cases e; rfl)) ..
 refine ⟨⟨hbl.setCell (p := ⟨N, 0, none⟩) h.geN _, h.maps, h.geU, h.ltU, h.geN, h.ltN, h.neUN, by have := hg.size; simp [World.setCell]; omega, (hcU 0).trans ((hc U 0 h.ltU).trans h.u0), (hcU 1).trans ((hc U 1 h.ltU).trans h.u1), (hcU 2).trans ((hc U 2 h.ltU).trans h.u2),
  zk ((hc N 0 h.ltN).trans h.n0), fun j => by rw [World.frozen?_setCell]; exact (hf U j h.ltU).trans (h.fu j), fun j => by rw [World.frozen?_setCell]; exact (hf N j h.ltN).trans (h.fn j), hS.other hset h.ltN, hO.other hset h.ltN, ?_, ?_⟩, hG.trans (zy.setN w2 0 u)⟩
 ·
  intro g hg1 hg2
  rcases hu with e | ⟨b, e, hb⟩
  ·
   rw [e] at hg2; exact h.ne g hg1 hg2
  rw [e] at hg2
  cases hg2
  have := hvS g hg1
  omega
 intro y hy b hb e
 rcases hu with e' | ⟨b', e', hb'⟩
 ·
  exact h.off y hy b hb (e' ▸ e)
 rw [e'] at e
 cases e
 have := kitSh.lt _ _ _ (h.oS.each y hy) hb
 omega
def ColPost (W0 w : World) (base U N : Nat) (e : Ending) (w' : World) : Fd (List Sh × List ByteArray) -> Prop
 | .ok st => e = .returned (.int .i64 0) /\ zy base U N w w' /\ ∃ vS vN X, ColAt W0 w' base U N vS vN X st.2 /\ X.map SV.sh = st.1
 | .err c => e = .returned (.int .i64 c) /\ c ≠ 0 /\ zy base U N w w'
theorem head_some {d : Dt} {s : ByteArray} {rest : List Dt} (h : headF d = some (s, rest)) : ∃ g gs, rest = g :: gs /\ (∀ x ∈ rest, x ∈ d.l) /\ rest.length <= d.l.length := by
 unfold headF at h
 split at h
 ·
  rename_i hh b m hl
  split at h
  ·
   cases h
   exact ⟨b, m, rfl, fun x hx => by rw [hl]; exact List.mem_cons_of_mem _ hx, by rw [hl]; simp⟩
  ·
   cases h
 cases h
theorem shapeT_ok {l : List Dt} {nm : ByteArray} {fs : List ByteArray} (h : shapeT l = .ok (nm, fs)) : shapeF nm fs = 0 /\ ∃ g gs, l = g :: gs /\ nm = g.s /\ fs = gs.map Dt.s := by
 match l, h with
 | [], h => cases h
 | g :: gs, h =>
  simp only [shapeT] at h
  split at h
  ·
   split at h
   ·
    split at h
    ·
     rename_i h0
     cases h
     exact ⟨h0, g, gs, rfl, rfl, rfl⟩
    cases h
   cases h
  cases h
section
variable {st : List Sh × List ByteArray} {d : Dt} {s : ByteArray} {rest : List Dt}
theorem col_none (h : headF d = none) : zt st d = .err 4 := by unfold zt; rw [h]
theorem col_rec (h : headF d = some (s, rest)) (hs : s.toList = wRecord) : zt st d = (match shapeT rest with | .err e => .err e | .ok s => if inL (st.1.map (·.1)) s.1 = true then .err 7 else .ok (st.1 ++ [s], st.2)) := by
 unfold zt; rw [h]; simp only; rw [if_pos hs]; rfl
theorem col_def (h : headF d = some (s, rest)) (hs : s.toList = wDefine) : zt st d = (match defT rest with | none => .err 4 | some n => if inL st.2 n = true then .err 7 else .ok (st.1, st.2 ++ [n])) := by
 unfold zt; rw [h]; simp only; rw [if_neg (by rw [hs]; decide), if_pos hs]; rfl
theorem col_up (h : headF d = some (s, rest)) (hs : s.toList = wUpgrade) : zt st d = .ok st := by
 unfold zt; rw [h]; simp only; rw [if_neg (by rw [hs]; decide), if_neg (by rw [hs]; decide), if_pos hs]
theorem col_else (h : headF d = some (s, rest)) (h1 : s.toList ≠ wRecord) (h2 : s.toList ≠ wDefine) (h3 : s.toList ≠ wUpgrade) : zt st d = .err 4 := by
 unfold zt; rw [h]; simp only; rw [if_neg h1, if_neg h2, if_neg h3]
end
theorem step_ownV {α : Type} {K : Kit α} {ty : TypeId} {base bytes : Nat} {sl : TypeId} {i : TypeInfo} {z : Value} {ops : Array Oper} {o : Oper} {act : Act} {KK : Act -> World -> Prop} {Q : Exit -> Act -> World -> Prop} {E : Prop} {w : World} (hgd : o.guard = none) (s y : Operand)
  (ho : o.op = .call { callee := .builtin .append, args := #[s, y], argTypes := #[sl, sl] })
  (ht : Tryd.prog.underlying sl = some (.slice ty)) (hi : Tryd.prog.info? ty = some i) (hz : i.zero = some z) (hsize : i.size = K.k) (hby : i.bytes = bytes) (hzs : z.cells.size = K.k) (hsz : 0 < K.k)
  {v : Value} {X : List α} (hO : OwnAt K ty base w v X) (x : α) (cs : Array Value) (hcs : cs.toList = K.cells x) (hx : K.ok w x) (hfrom : ∀ b, K.uses x b -> base <= b) (hap : ∀ b, K.uses x b -> v.ownBlock ≠ some b)
  (hs : act.eval s = v) (hy : act.eval y = .slice (some ⟨w.heap.size, 0, none⟩) 1 1) (hb : (X.length + 1) * bytes <= 140737488355328 /\ X.length + 1 <= maxLen) (hbase : base <= w.heap.size)
  (h : ∀ v' w', OwnAt K ty base w' v' (X ++ [x]) -> w.grownBy w' v.ownBlock -> (v'.ownBlock = v.ownBlock \/ ∃ b, v'.ownBlock = some b /\ w.heap.size <= b) -> KK (act.put o.dst v') w') :
  if Region.wanted o (yielded ops act.tmps) = true then Oper.wp Tryd.prog o act (w.alloc (.cells cs ty)) KK Q else E := by
 have hw : Region.wanted o (yielded ops act.tmps) = true := by simp [Region.wanted, hgd]
 rw [if_pos hw]
 obtain ⟨v', w', hr, h1, h2, h3⟩ := run_own (rt := o.type) ht hi hz hsize hby hzs hsz hO x cs hcs hx hfrom hap hb hbase
 unfold Oper.wp execOp
 simp only [ho, resolve, invoke, builtin, Sem.run_bind, Sem.run_pure, Result.andThen_ok, List.map_toArray, List.map_cons, List.map_nil, hs, hy, hr]
 exact h v' w' h1 h2 h3
theorem infoShape : (Tryd.prog.info? 53).map (fun i => (i.zero.map (fun z => z.cells.size), i.size, i.bytes)) = some (some 2, 2, 40) := by kernel_rfl
theorem infoShape_parts : ∃ i z, Tryd.prog.info? 53 = some i /\ i.zero = some z /\ z.cells.size = 2 /\ i.size = 2 /\ i.bytes = 40 := by
 have h := infoShape
 cases hi : Tryd.prog.info? 53 with
 | none => rw [hi] at h; simp at h
 | some i =>
  rw [hi] at h
  simp only [Option.map_some, Option.some.injEq, Prod.mk.injEq] at h
  obtain ⟨h1, h2, h3⟩ := h
  cases hz : i.zero with
  | none => rw [hz] at h1; simp at h1
  | some z => rw [hz] at h1; exact ⟨i, z, rfl, hz, by simpa using h1, h2, h3⟩
theorem step_sh {base : Nat} {ops : Array Oper} {o : Oper} {act : Act} {KK : Act -> World -> Prop} {Q : Exit -> Act -> World -> Prop} {E : Prop} {w : World} (hgd : o.guard = none) (s y : Operand)
  (ho : o.op = .call { callee := .builtin .append, args := #[s, y], argTypes := #[24, 24] })
  {v : Value} {X : List SV} (hO : OwnAt kitSh TS base w v X) (x : SV) (cs : Array Value) (hcs : cs.toList = kitSh.cells x) (hx : kitSh.ok w x) (hfrom : ∀ b, kitSh.uses x b -> base <= b) (hap : ∀ b, kitSh.uses x b -> v.ownBlock ≠ some b)
  (hs : act.eval s = v) (hy : act.eval y = .slice (some ⟨w.heap.size, 0, none⟩) 1 1) (hb : X.length + 1 <= 1048580) (hbase : base <= w.heap.size)
  (h : ∀ v' w', OwnAt kitSh TS base w' v' (X ++ [x]) -> w.grownBy w' v.ownBlock -> (v'.ownBlock = v.ownBlock \/ ∃ b, v'.ownBlock = some b /\ w.heap.size <= b) -> KK (act.put o.dst v') w') :
  if Region.wanted o (yielded ops act.tmps) = true then Oper.wp Tryd.prog o act (w.alloc (.cells cs 53)) KK Q else E := by
 obtain ⟨i, z, hi, hz, hzs, hsize, hby⟩ := infoShape_parts
 exact step_ownV hgd s y ho Tryd.underlying24 hi hz hsize hby hzs (by decide) hO x cs hcs hx hfrom hap hs hy ⟨by omega, by unfold maxLen; omega⟩ hbase h
theorem wpList_sV {base : Nat} {ops : Array Oper} {rest : List Oper} {o : Oper} {act : Act} {Q : Exit -> Act -> World -> Prop} {w : World} (hgd : o.guard = none) (s y : Operand)
  (ho : o.op = .call { callee := .builtin .append, args := #[s, y], argTypes := #[23, 23] })
  {v : Value} {X : List ByteArray} (hO : OwnAt kitS 9 base w v X) (x : ByteArray) (cs : Array Value) (hcs : cs.toList = kitS.cells x)
  (hs : act.eval s = v) (hy : act.eval y = .slice (some ⟨w.heap.size, 0, none⟩) 1 1) (hb : X.length + 1 <= 1048577) (hbase : base <= w.heap.size)
  (h : ∀ v' w', OwnAt kitS 9 base w' v' (X ++ [x]) -> w.grownBy w' v.ownBlock -> (v'.ownBlock = v.ownBlock \/ ∃ b, v'.ownBlock = some b /\ w.heap.size <= b) -> wpList Tryd.prog ops Q rest (act.put o.dst v') w') : wpList Tryd.prog ops Q (o :: rest) act (w.alloc (.cells cs 9)) := by
 obtain ⟨i0, hi, hz0, hz1, hz2⟩ := info_parts infoString
 exact wpList_own hgd s y ho Tryd.underlying23 hi hz0 hz1 hz2 rfl (by decide) hO x cs hcs trivial (fun b hb => hb.elim) (fun b hb => hb.elim) hs hy (by unfold maxLen; omega) hbase h
set_option maxHeartbeats 8000000 in
theorem collect_any {W0 w : World} {base U N : Nat} {vS vN : Value} {X : List SV} {nm : List ByteArray} (h : ColAt W0 w base U N vS vN X nm) (P : Value) (d : Dt) (A : Option Addr) (c : Nat) (hd : DtIn W0 0 W0.heap.size [.int .i64 d.k, .int .i64 d.n, .string d.s, .slice A d.l.length c] d) (hg : Good 40 d) (hX : X.length + 1 <= 1048577) (hn : nm.length + 1 <= 1048577) :
  Calls Tryd.prog 9 #[P, .pointer (some ⟨U, 0, none⟩), .pointer (some ⟨N, 0, none⟩), .agg #[.int .i64 d.k, .int .i64 d.n, .string d.s, .slice A d.l.length c]] w (fun e w' => ColPost W0 w base U N e w' (zt (X.map SV.sh, nm) d)) := by
 have H := Lib.hid h
 have HG := Lib.hid hg
 have hs := h.bs
 have hltU := h.ltU
 have hltN := h.ltN
 have KH := Lib.hid (head_any (F := U) (h.below.trans (((Below.refl _ _).alloc (Nat.le_refl _) _).mono h.below.size) : Below W0.heap.size W0 (w.alloc (.cells #[.int .i64 d.k, .int .i64 d.n, .string d.s, .slice A d.l.length c] 38))) h.geU d A c hd hg.len)
 obtain ⟨r, hr⟩ : ∃ r, zt (X.map SV.sh, nm) d = r := ⟨_, rfl⟩
 have HR := Lib.hid hr
 rw [hr]
 clear h hd hg hr
 cases hh : headF d with
 | none =>
  obtain rfl : r = .err 4 := by rw [<- HR.out]; exact col_none hh
  rw [hh] at KH
  clear hh
  go_enter Tryd.func9, Tryd.ntmps9
  go_wp2_with fail
  refine KH.out.mono ?_
  rintro e w1 ⟨rfl, hb1⟩
  have HB1 := Lib.hid (Below.trans ((Below.refl _ _).alloc (Nat.le_refl _) _) (hb1.mono (by simp)))
  clear hb1
  go_wp2_with fail
  go_ret
  exact ⟨rfl, by decide, zy.below HB1.out H.out.bs⟩
 | some q =>
  obtain ⟨s, rest⟩ := q
  obtain ⟨g, gs, rfl, hsub, hlen⟩ := head_some hh
  have HGS := Lib.hid (show ∀ x ∈ g :: gs, Good 40 x from fun x hx => HG.out.low (hsub x hx))
  have hln : (g :: gs).length <= 1048576 := Nat.le_trans hlen HG.out.len
  have HH := Lib.hid hh
  rw [hh] at KH
  clear hh hsub hlen
  have e1 : s.toList = wRecord \/ s.toList ≠ wRecord := Decidable.em _
  rcases e1 with h1 | h1
  ·
   have b1 : (s.toList == [114, 101, 99, 111, 114, 100]) = true := by rw [h1]; rfl
   have HRR := Lib.hid (HR.out.symm.trans (col_rec HH.out h1))
   clear h1
   go_enter Tryd.func9, Tryd.ntmps9
   go_wp2_with fail
   refine KH.out.mono ?_
   rintro e w1 ⟨A1, c1, rfl, hds, hb1⟩
   have hb1' := Below.trans ((Below.refl _ _).alloc (Nat.le_refl _) _) (hb1.mono (by simp))
   have HB1 := Lib.hid hb1'
   have hC1 := H.out.next hb1'
   have HC1 := Lib.hid hC1
   have KS := Lib.hid (shape_any hC1.below hC1.geU hC1.maps A1 c1 g gs hds HGS.out hln)
   obtain ⟨M, hM⟩ : ∃ M, (g :: gs).length = M := ⟨_, rfl⟩
   rw [hM] at KS ⊢
   clear hM hb1 hb1' hC1 hds
   go_wp2_with fail
   refine KS.out.mono ?_
   intro e w2 hp
   cases hsh : shapeT (g :: gs) with
   | err c2 =>
    rw [hsh] at hp
    obtain ⟨nn, A2, n2, cap2, rfl, hc2, hb2⟩ := hp
    obtain rfl : r = .err c2 := by rw [HRR.out, hsh]
    have HB2 := Lib.hid (HB1.out.trans (hb2.mono HB1.out.size))
    have hc2b : (c2 != 0) = true := by simpa using hc2
    clear hb2 hc2 hsh
    go_wp2_with fail
    go_ret
    exact ⟨rfl, by simpa using hc2b, zy.below (HB2.out.alloc HB2.out.size _) H.out.bs⟩
   | ok sh =>
    obtain ⟨nn, fs⟩ := sh
    rw [hsh] at hp
    obtain ⟨A2, cap2, rfl, hnm, hb2⟩ := hp
    have HS12 := Lib.hid hb2.size
    obtain ⟨hgood, g0, gs0, hgg, hn0, hf0⟩ := shapeT_ok hsh
    have hok : SV.Ok ⟨nn, A2, cap2, fs, w1.heap.size, w2.heap.size⟩ := ⟨by rw [hn0]; exact (HGS.out g0 (by rw [hgg]; simp)).wide, fun x hx => by
     rw [show (SV.mk nn A2 cap2 fs w1.heap.size w2.heap.size).ss = gs0.map Dt.s from hf0] at hx
     obtain ⟨y, hy, rfl⟩ := List.mem_map.1 hx
     exact (HGS.out y (by rw [hgg]; exact List.mem_cons_of_mem _ hy)).wide, hgood⟩
    have hC2 := HC1.out.next hb2
    have HB2 := Lib.hid (HB1.out.trans (hb2.mono HB1.out.size))
    have hXok : kitSh.ok w2 ⟨nn, A2, cap2, fs, w1.heap.size, w2.heap.size⟩ := ⟨hnm, Nat.le_refl _, hok⟩
    have HXO := Lib.hid hXok
    obtain ⟨Av, cv, rfl, hv1, hv2, _⟩ := hC2.oS.nes
    have hbW : Below w2.heap.size w2 (w2.alloc (.cells #[.string nn, .slice A2 fs.length cap2] 53)) := ((Below.refl _ _).alloc (Nat.le_refl _) _)
    have hCW := hC2.next hbW
    have HCW := Lib.hid hCW
    have m0 : (w2.alloc (.cells #[.string nn, .slice A2 fs.length cap2] 53)).cell? ⟨w2.heap.size, 0, none⟩ = some (.string nn) := za _ _ _ 0
    have m1 : (w2.alloc (.cells #[.string nn, .slice A2 fs.length cap2] 53)).cell? ⟨w2.heap.size, 1, none⟩ = some (.slice A2 fs.length cap2) := za _ _ _ 1
    obtain ⟨Av', cv', hve, _, _, hnes⟩ := hCW.oS.nes
    obtain ⟨rfl, rfl⟩ : Av = Av' /\ cv = cv' := by simpa using hve
    have hKC := containsSh_any Av X.length cv (X.map SV.ne) _ hv2 hv1 hnes (collect1_says (b := w2.heap.size) (o := 0) m0 (by simp))
    have u0 : (w2.alloc (.cells #[.string nn, .slice A2 fs.length cap2] 53)).cell? ⟨U, 0, none⟩ = some (.slice Av X.length cv) := hCW.u0
    have hUw2 : U < w2.heap.size := by have := HC1.out.bs; have := hb2.size; omega
    have hUlt : U ≠ w2.heap.size := by omega
    have hsz1 : base <= w1.heap.size := HC1.out.bs
    have hvS : ∀ k, (Value.slice Av X.length cv).ownBlock = some k -> base <= k /\ k < w1.heap.size := fun k hk => HC1.out.oS.row.lt k hk
    have hvN : ∀ k, vN.ownBlock = some k -> k < w1.heap.size := fun k hk => (HC1.out.oN.row.lt k hk).2
    have HVS := Lib.hid hvS
    have HVN := Lib.hid hvN
    have hin0 : (ne (X.map SV.ne)).any (fun x => x.toList == nn.toList) = inL ((X.map SV.sh).map (·.1)) nn := by
     unfold inL
     rw [show ne (X.map SV.ne) = (X.map SV.sh).map (·.1) by simp [ne, SV.ne, SV.sh]]
    rw [hin0] at hKC
    cases hin : inL ((X.map SV.sh).map (·.1)) nn
    all_goals
     rw [hin] at hKC
     have KC := Lib.hid hKC
     have HIN := Lib.hid hin
     have HSH := Lib.hid hsh
     clear hKC hin hin0 hC2 hCW hnes hb2 hnm hbW hXok hok hgood hgg hn0 hf0 hsh hvS hvN hve
     go_wp2_with fail
     refine KC.out.mono ?_
     rintro e w3 ⟨rfl, hb3⟩
     have hb3' := ((Below.refl _ _).alloc (Nat.le_refl _) _).trans (hb3.mono (by simp)) (B := w2.heap.size) (a := w2)
     have HB3 := Lib.hid (HB2.out.trans (hb3'.mono HB2.out.size))
     have HB23 := Lib.hid hb3'
     have q0 : w3.cell? ⟨U, 0, none⟩ = some (.slice Av X.length cv) := (hb3.cell (p := ⟨U, 0, none⟩) (by simp; omega)).trans u0
     have q1 : w3.cell? ⟨w2.heap.size, 0, none⟩ = some (.string nn) := (hb3.cell (p := ⟨w2.heap.size, 0, none⟩) (by simp)).trans m0
     have q2 : w3.cell? ⟨w2.heap.size, 1, none⟩ = some (.slice A2 fs.length cap2) := (hb3.cell (p := ⟨w2.heap.size, 1, none⟩) (by simp)).trans m1
     have HC3 := Lib.hid (HCW.out.next hb3)
     have hs23 : w2.heap.size < w3.heap.size := by have := hb3.size; simp at this; omega
     have hs12 : w1.heap.size <= w2.heap.size := HB2.out.size |> fun _ => HS12.out
     clear hb3 hb3'
    ·
     obtain rfl : r = .ok (X.map SV.sh ++ [(nn, fs)], nm) := by rw [HRR.out, HSH.out]; simp only; rw [if_neg (by rw [HIN.out]; simp)]
     have hn0 := World.new_ne w3 _ q0
     have hn1 := World.new_ne w3 _ q1
     have hn2 : U < w3.heap.size := by omega
     have hn3 : U ≠ w3.heap.size := by omega
     have hn4 : w2.heap.size ≠ w3.heap.size := by omega
     go_upto_region 12 with fail
     go_region_law
      (first | (refine step_sh (by rfl) (.tmp 45) (.tmp 47) (by rfl) (HC3.out.next ((Below.refl _ _).drew)).oS ⟨nn, A2, cap2, fs, w1.heap.size, w2.heap.size⟩ _ rfl ⟨(kitSh.kept _ _ _ none HXO.out (zb HB23.out.drew none) (fun b _ => by simp)).1, Nat.le_of_lt hs23, HXO.out.2.2⟩ (fun b hb => Nat.le_trans hsz1 hb.1) (fun b hb e => Nat.lt_irrefl _ (Nat.lt_of_lt_of_le (HVS.out b e).2 hb.1)) (by rfl) (by rfl) (by omega) (by have := HC3.out.bs; simpa using this) ?_; intro v5 w5 h5 h6 h7; obtain ⟨A5, c5, h8, _⟩ := h5.form; simp only [List.length_append, List.length_cons, List.length_nil, Nat.zero_add] at h8; subst h8; have HCS := Lib.hid (ColAt.shape (HC3.out.next ((Below.refl _ _).drew)) h5 h6 h7 (fun b hb e => Nat.lt_irrefl _ (Nat.lt_of_lt_of_le (HVN.out b e) hb.1))); have hbU := h6.block U (by simp; omega) (fun e => (by have := (HVS.out U e.symm).1; omega)); have y0 : w5.cell? ⟨U, 0, none⟩ = some (.slice Av X.length cv) := (World.cell?_of_block (a := ⟨U, 0, none⟩) hbU).trans (by simpa using q0); have yf : w5.frozen? ⟨U, 0, none⟩ = false := (World.frozen?_of_block (a := ⟨U, 0, none⟩) hbU).trans (by simpa using HC3.out.fu 0); have hb2s := h6.block w2.heap.size (by simp; omega) (fun e => (by have := (HVS.out _ e.symm).2; omega)); have y1 : w5.cell? ⟨w2.heap.size, 0, none⟩ = some (.string nn) := (World.cell?_of_block (a := ⟨w2.heap.size, 0, none⟩) hb2s).trans (by simpa using q1); have y2 : w5.cell? ⟨w2.heap.size, 1, none⟩ = some (.slice A2 fs.length cap2) := (World.cell?_of_block (a := ⟨w2.heap.size, 1, none⟩) hb2s).trans (by simpa using q2); clear h5 h6 h7 hbU hb2s))
     all_goals (go_wp2_with fail)
     all_goals go_ret
     all_goals exact ⟨rfl, (zy.below HB3.out.drew H.out.bs).trans HCS.out.2, _, _, _, HCS.out.1, by simp [SV.sh]⟩
    obtain rfl : r = .err 7 := by rw [HRR.out, HSH.out]; simp only; rw [if_pos HIN.out]
    go_wp2_with fail
    go_ret
    exact ⟨rfl, by decide, zy.below HB3.out H.out.bs⟩
  have e2 : s.toList = wDefine \/ s.toList ≠ wDefine := Decidable.em _
  have b1 : (s.toList == [114, 101, 99, 111, 114, 100]) = false := by simpa [wRecord] using h1
  rcases e2 with h2 | h2
  ·
   have b2 : (s.toList == [100, 101, 102, 105, 110, 101]) = true := by rw [h2]; rfl
   have HRR := Lib.hid (HR.out.symm.trans (col_def HH.out h2))
   clear h1 h2
   go_enter Tryd.func9, Tryd.ntmps9
   go_wp2_with fail
   refine KH.out.mono ?_
   rintro e w1 ⟨A1, c1, rfl, hds, hb1⟩
   have hb1' := Below.trans ((Below.refl _ _).alloc (Nat.le_refl _) _) (hb1.mono (by simp))
   have HB1 := Lib.hid hb1'
   have hC1 := H.out.next hb1'
   have HC1 := Lib.hid hC1
   have KD := Lib.hid (defined_any hC1.below hC1.geU hC1.maps A1 c1 g gs hds (HGS.out g (List.mem_cons_self ..)) hln)
   obtain ⟨M, hM⟩ : ∃ M, (g :: gs).length = M := ⟨_, rfl⟩
   rw [hM] at KD ⊢
   clear hM hb1 hb1' hC1 hds
   go_wp2_with fail
   refine KD.out.mono ?_
   intro e w2 hp
   cases hdf : defT (g :: gs) with
   | none =>
    rw [hdf] at hp
    obtain ⟨s2, rfl, hb2⟩ := hp
    obtain rfl : r = .err 4 := by rw [HRR.out, hdf]
    have HB2 := Lib.hid (HB1.out.trans (hb2.mono HB1.out.size))
    clear hb2 hdf
    go_wp2_with fail
    go_ret
    exact ⟨rfl, by decide, zy.below HB2.out H.out.bs⟩
   | some n2 =>
    rw [hdf] at hp
    obtain ⟨rfl, hb2⟩ := hp
    have HDF := Lib.hid hdf
    have HB2 := Lib.hid (HB1.out.trans (hb2.mono HB1.out.size))
    have hC2 := HC1.out.next hb2
    obtain ⟨An, cn, rfl, hsc, _⟩ := own_names (lo := base) (F := U) hC2.oN hltU (Nat.le_refl _)
    have HC2 := Lib.hid hC2
    have n0 : w2.cell? ⟨N, 0, none⟩ = some (.slice An nm.length cn) := hC2.n0
    have nf := hC2.fn 0
    have hn2 := World.new_ne w2 _ n0
    have hN2 : N < w2.heap.size := by have := hC2.bs; omega
    have hvN : ∀ k, (Value.slice An nm.length cn).ownBlock = some k -> base <= k := fun k hk => (hC2.oN.row.lt k hk).1
    have hKC := contains_any n2 An nm.length cn nm w2 hsc.cap_ hsc.le hsc.strs
    cases hin : inL nm n2
    all_goals
     rw [hin] at hKC
     have KC := Lib.hid hKC
     have HIN := Lib.hid hin
     have HVN := Lib.hid hvN
     clear hKC hin hC2 hsc hb2 hdf hvN
     go_wp2_with fail
     refine KC.out.mono ?_
     rintro e w3 ⟨rfl, rfl⟩
    ·
     obtain rfl : r = .ok (X.map SV.sh, nm ++ [n2]) := by rw [HRR.out, HDF.out]; simp only; rw [if_neg (by rw [HIN.out]; simp)]
     go_wp2_with (at_builtin; refine wpList_sV rfl (.tmp 68) (.tmp 70) rfl HC2.out.oN n2 _ rfl rfl rfl hn HC2.out.bs ?_; intro v5 w5 h5 h6 h7; obtain ⟨A5, c5, h8, _⟩ := h5.form; simp only [List.length_append, List.length_cons, List.length_nil, Nat.zero_add] at h8; subst h8; have HCS := Lib.hid (ColAt.name HC2.out h5 h6 h7); have hbN := h6.block N hN2 (fun e => (by have := HVN.out N e.symm; omega)); have y0 : w5.cell? ⟨N, 0, none⟩ = some (.slice An nm.length cn) := (World.cell?_of_block (a := ⟨N, 0, none⟩) hbN).trans n0; have yf : w5.frozen? ⟨N, 0, none⟩ = false := (World.frozen?_of_block (a := ⟨N, 0, none⟩) hbN).trans nf; clear h5 h6 h7 hbN)
     go_wp2_with fail
     go_ret
     exact ⟨rfl, (zy.below HB2.out H.out.bs).trans HCS.out.2, _, _, _, HCS.out.1, rfl⟩
    obtain rfl : r = .err 7 := by rw [HRR.out, HDF.out]; simp only; rw [if_pos HIN.out]
    go_wp2_with fail
    go_ret
    exact ⟨rfl, by decide, zy.below HB2.out H.out.bs⟩
  have b2 : (s.toList == [100, 101, 102, 105, 110, 101]) = false := by simpa [wDefine] using h2
  have e3 : s.toList = wUpgrade \/ s.toList ≠ wUpgrade := Decidable.em _
  rcases e3 with h3 | h3
  ·
   have b3 : (s.toList == [117, 112, 103, 114, 97, 100, 101]) = true := by rw [h3]; rfl
   obtain rfl : r = .ok (X.map SV.sh, nm) := by rw [<- HR.out]; exact col_up HH.out h3
   clear h1 h2 h3
   go_enter Tryd.func9, Tryd.ntmps9
   go_wp2_with fail
   refine KH.out.mono ?_
   rintro e w1 ⟨A1, c1, rfl, hds, hb1⟩
   have HB1 := Lib.hid (Below.trans ((Below.refl _ _).alloc (Nat.le_refl _) _) (hb1.mono (by simp)))
   clear hb1 hds
   go_wp2_with fail
   go_ret
   exact ⟨rfl, zy.below HB1.out H.out.bs, _, _, X, H.out.next HB1.out, rfl⟩
  have b3 : (s.toList == [117, 112, 103, 114, 97, 100, 101]) = false := by simpa [wUpgrade] using h3
  obtain rfl : r = .err 4 := by rw [<- HR.out]; exact col_else HH.out h1 h2 h3
  clear h1 h2 h3
  go_enter Tryd.func9, Tryd.ntmps9
  go_wp2_with fail
  refine KH.out.mono ?_
  rintro e w1 ⟨A1, c1, rfl, hds, hb1⟩
  have HB1 := Lib.hid (Below.trans ((Below.refl _ _).alloc (Nat.le_refl _) _) (hb1.mono (by simp)))
  clear hb1 hds
  go_wp2_with fail
  go_ret
  exact ⟨rfl, by decide, zy.below HB1.out H.out.bs⟩
end Go.Proofs.YtjmeodadkjcmmaaDoor
