/- Script's requests: the rule's steps. -/
import Derived.Test.YtadcklijdbbkjaaGreatDoorScr0
namespace Go.Proofs.YtadcklijdbbkjaaGreatDoor
open Go.RowKit Go.ChangeShapes Go.WideShapes Go.Deep
set_option linter.unusedVariables false

theorem OwnAt.below {α : Type} {K : Kit α} {ty B : Nat} {w0 w w' : World} {v : Value} {X : List α} (h : OwnAt K ty B w v X) (hB : B ≤ w.heap.size) (hb : Below B w0 w) (hg : w.grownBy w' v.ownBlock) : Below B w0 w' :=
  ⟨hg.os.trans hb.os, hg.tape.trans hb.tape, hg.output.trans hb.output, Nat.le_trans hb.size hg.size, fun k hk => (hg.block k (by omega) (fun e => by have := (h.row.lt k e.symm).1; omega)).trans (hb.block k hk)⟩
theorem start_act {base : Nat} {w : World} (hb : base ≤ w.heap.size) (x : ActV) : OwnAt kitAct 44 base (w.alloc (.cells (kitAct.cells x).toArray 44)) (.slice (some ⟨w.heap.size, 0, none⟩) 1 1) [x] :=
  ⟨⟨rfl, Or.inr ⟨w.heap.size, 1, (kitAct.cells x).toArray, rfl, hb, heap_alloc_new w _, Nat.le_refl _, by unfold maxLen; omega, rfl, by simp [kitAct]⟩⟩, fun _ _ => trivial, fun _ _ _ h => h.elim, fun _ _ _ h => h.elim⟩
/-- 'append(s, x)' where the literal lies anywhere. -/
theorem wpList_ownG {α : Type} {K : Kit α} {ty : TypeId} {base bytes : Nat} {sl : TypeId} {i : TypeInfo} {z : Value} {ops : Array Oper} {rest : List Oper} {o : Oper} {act : Act} {Q : Exit → Act → World → Prop} {w : World} (hgd : o.guard = none) (s y : Operand)
    (ho : o.op = .call { callee := .builtin .append, args := #[s, y], argTypes := #[sl, sl] })
    (ht : Tryz.prog.underlying sl = some (.slice ty)) (hi : Tryz.prog.info? ty = some i) (hz : i.zero = some z) (hsize : i.size = K.k) (hby : i.bytes = bytes) (hzs : z.cells.size = K.k) (hsz : 0 < K.k)
    {v : Value} {X : List α} (hO : OwnAt K ty base w v X) (x : α) (hx : K.ok w x) (hfrom : ∀ b, K.uses x b → base ≤ b) (hno : ∀ b, K.uses x b → False)
    (hs : act.eval s = v) (ad : Addr) (hy : act.eval y = .slice (some ad) 1 1) (hc : ∀ j u, (K.cells x)[j]? = some u → w.cell? (ad.add j) = some u) (hb : (X.length + 1) * bytes ≤ 140737488355328 ∧ X.length + 1 ≤ maxLen) (hbase : base ≤ w.heap.size)
    (h : ∀ v' w', OwnAt K ty base w' v' (X ++ [x]) → w.grownBy w' v.ownBlock → wpList Tryz.prog ops Q rest (act.put o.dst v') w') : wpList Tryz.prog ops Q (o :: rest) act w := by
  refine wpList_append_own_at _ hgd s y sl ho base ty i z K.k bytes ht hi hz hsize hby hzs hsz v X.length (X.map K.cells).flatten hs hO.row
    ad 1 1 (K.cells x) hy (by rw [K.len]; omega) hc (K.one x) hb.2 hb.1 hbase ?_
  intro v' w' h1 h2 _ h4
  refine h v' w' ⟨?_, ?_, ?_, ?_⟩ h2
  · rw [List.map_append, List.flatten_append, List.length_append]
    simpa using h1
  · intro y hy
    rcases List.mem_append.1 hy with hy | hy
    · exact K.kept _ _ _ _ (hO.each y hy) h2 (hO.apart y hy)
    · obtain rfl : y = x := by simpa using hy
      exact K.kept _ _ _ _ hx h2 (fun b hb => (hno b hb).elim)
  · intro y hy
    rcases List.mem_append.1 hy with hy | hy
    · exact hO.from_ y hy
    · obtain rfl : y = x := by simpa using hy
      exact hfrom
  · intro y hy b hb
    rcases List.mem_append.1 hy with hy | hy
    · rcases h4 with e | e
      · rw [e]; exact hO.apart y hy b hb
      · rw [e]
        intro e'
        have := K.lt _ _ _ (hO.each y hy) hb
        have := Option.some.inj e'
        omega
    · obtain rfl : y = x := by simpa using hy
      exact (hno b hb).elim

section
variable {TA base : Nat} {W : World} {v0 : Value} {X : List ActV} {FX : List (Nat × Value)} {L : List Told} {o : Oper}
structure CS (TA base : Nat) (W : World) (v0 : Value) (X : List ActV) (w : World) : Prop where
  own : OwnAt kitAct TA base w v0 X
  bel : Below W.heap.size W w
def RS (w w' : World) : Prop := Below w.heap.size w w'
theorem RS.refl (w : World) : RS w w := Below.refl _ _
theorem CS.alloc {w : World} (h : CS TA base W v0 X w) (ob : Obj) : CS TA base W v0 X (w.alloc ob) := ⟨h.own.new (below_a (Below.refl _ _) _), below_t h.bel (below_a (Below.refl _ _) _)⟩
def sLit (n : Nat) (v : Value) (w : World) : Prop := ∃ (g : Nat) (cs : Array Value), v = .slice (some ⟨g, 0, none⟩) n n ∧ g < w.heap.size ∧ (∀ j, w.cell? ⟨g, j, none⟩ = cs[j]?) ∧ ∀ i, i < n → ∃ s : ByteArray, cs[i]? = some (.string s)
def sElt (v : Value) (w : World) : Prop := ∃ (g i : Nat) (s : ByteArray), v = .pointer (some ⟨g, i, none⟩) ∧ g < w.heap.size ∧ w.cell? ⟨g, i, none⟩ = some (.string s)
def sStr (v : Value) (_ : World) : Prop := ∃ s : ByteArray, v = .string s
def sDat (v : Value) (_ : World) : Prop := ∃ m : Int, v = .agg #[.int .i64 1, .int .i64 m, .string ⟨#[]⟩, .slice none 0 0]
def sOne (v : Value) (_ : World) : Prop := ∃ g : Nat, v = .slice (some ⟨g, 0, none⟩) 1 1
def sAct (v : Value) (_ : World) : Prop := ∃ x : ActV, v = .agg #[.int .i64 x.k, .string x.s, .string x.t, .slice x.A x.n x.c, .int .i64 x.f]
def sActs (v : Value) (w : World) : Prop := ∃ (g : Nat) (x : ActV), v = .slice (some ⟨g, 0, none⟩) 1 1 ∧ g < w.heap.size ∧ ∀ j u, (kitAct.cells x)[j]? = some u → w.cell? ((⟨g, 0, none⟩ : Addr).add j) = some u
theorem sLit_st (n : Nat) : ∀ v w w', sLit n v w → RS w w' → sLit n v w' := by
  rintro v w w' ⟨g, cs, h1, h2, h3, h4⟩ hb
  exact ⟨g, cs, h1, Nat.lt_of_lt_of_le h2 hb.size, fun j => (hb.cell (p := ⟨g, j, none⟩) h2).trans (h3 j), h4⟩
theorem sElt_st : ∀ v w w', sElt v w → RS w w' → sElt v w' := by
  rintro v w w' ⟨g, i, s, h1, h2, h3⟩ hb
  exact ⟨g, i, s, h1, Nat.lt_of_lt_of_le h2 hb.size, (hb.cell (p := ⟨g, i, none⟩) h2).trans h3⟩
theorem add_at (g j : Nat) : (⟨g, 0, none⟩ : Addr).add j = ⟨g, j, none⟩ := by unfold Addr.add; by_cases h0 : j = 0 <;> simp [h0]
theorem sActs_st : ∀ v w w', sActs v w → RS w w' → sActs v w' := by
  rintro v w w' ⟨g, x, h1, h2, h3⟩ hb
  refine ⟨g, x, h1, Nat.lt_of_lt_of_le h2 hb.size, fun j u hu => ?_⟩
  have := h3 j u hu
  rw [add_at] at this ⊢
  exact (hb.cell (p := ⟨g, j, none⟩) h2).trans this
abbrev OkS (TA base : Nat) (W : World) (v0 : Value) (X : List ActV) (FX : List (Nat × Value)) (L : List Told) (o : Oper) (ψ : Value → World → Prop) : Prop := OpOk Tryz.prog (CS TA base W v0 X) RS FX L (o, ψ)
theorem okv {C : World → Prop} {R : World → World → Prop} (hR : ∀ w, R w w) {ψ : Value → World → Prop} (h : ∀ a w, C w → Fixed FX a → Known L o a w → ∃ v, (execOp a.eval o).run Tryz.prog w = .ok (.value v) w ∧ ψ v w) : OpOk Tryz.prog C R FX L (o, ψ) := by
  intro a w K Q hC hf hk hK
  obtain ⟨v, hr, hψ⟩ := h a w hC hf hk
  unfold Oper.wp
  rw [hr]
  exact hK v w hC (hR w) hψ
theorem okn {C : World → Prop} {R : World → World → Prop} {ψ : Value → World → Prop} (h : ∀ a w, C w → Fixed FX a → Known L o a w → ∃ v w', (execOp a.eval o).run Tryz.prog w = .ok (.value v) w' ∧ C w' ∧ R w w' ∧ ψ v w') : OpOk Tryz.prog C R FX L (o, ψ) := by
  intro a w K Q hC hf hk hK
  obtain ⟨v, w', hr, h1, h2, h3⟩ := h a w hC hf hk
  unfold Oper.wp
  rw [hr]
  exact hK v w' h1 h2 h3
theorem ok_fldS {x : Operand} {RR j : Nat} (hj : j < 4) (ho : o.op = .fieldAddr 46 x j) (hx : Of FX L o x (pVal (.pointer (some ⟨RR, 0, none⟩)))) : OkS TA base W v0 X FX L o (pVal (.pointer (some ⟨RR, j, none⟩))) :=
  okv RS.refl fun a w _ hf hk => ⟨_, run_fld hj ho (hx a w hf hk), rfl⟩
theorem ok_ldIS {x : Operand} {RR j : Nat} {m : Int} (ho : o.op = .load 3 x) (hx : Of FX L o x (pVal (.pointer (some ⟨RR, j, none⟩)))) (_hj : j = j) (hc : RR < W.heap.size ∧ W.cell? ⟨RR, j, none⟩ = some (.int .i64 m)) : OkS TA base W v0 X FX L o (pVal (.int .i64 m)) :=
  okv RS.refl fun a w hC hf hk => ⟨_, run_ldI ho (hx a w hf hk) ((hC.bel.cell (p := ⟨RR, j, none⟩) hc.1).trans hc.2), rfl⟩
theorem ok_pickS {x : Operand} {m : Int} {n : Nat} {ts : Array TypeId} (ho : o.op = .call { callee := .value (.func 9), args := #[x, .const (.int .i64 (n : Int))], argTypes := ts }) (hx : Of FX L o x (pVal (.int .i64 m))) (hm : isI m) (hn : 0 < n) (hN : n ≤ 1000) : OkS TA base W v0 X FX L o (pPick n) := by
  intro a w K Q hC hf hk hK
  unfold Oper.wp
  rw [run_pick ho rfl (hx a w hf hk) rfl]
  refine (picked_any m n hm (by omega) (by omega) w).mono ?_
  rintro e w' ⟨rfl, rfl⟩
  obtain ⟨p0, p1⟩ := pk_in m (show (0 : Int) < (n : Int) by omega)
  obtain ⟨i, hi⟩ : ∃ i : Nat, pk m n = (i : Int) := ⟨(pk m n).toNat, by omega⟩
  rw [hi] at p1 ⊢
  exact hK _ _ hC (RS.refl _) ⟨i, rfl, by omega⟩
theorem ok_idxS {x y : Operand} {n : Nat} (ho : o.op = .indexAddr 48 x y) (hx : Of FX L o x (sLit n)) (hy : Of FX L o y (pPick n)) : OkS TA base W v0 X FX L o sElt :=
  okv RS.refl fun a w _ hf hk => by
    obtain ⟨g, cs, h1, h2, h3, h4⟩ := hx a w hf hk
    obtain ⟨i, hi, hi'⟩ := hy a w hf hk
    obtain ⟨s, hs⟩ := h4 i hi'
    exact ⟨_, run_idx ho h1 hi hi', g, i, s, rfl, h2, (h3 i).trans hs⟩
theorem ok_ldSS {x : Operand} (ho : o.op = .load 9 x) (hx : Of FX L o x sElt) : OkS TA base W v0 X FX L o sStr :=
  okv RS.refl fun a w _ hf hk => by
    obtain ⟨g, i, s, h1, _, h3⟩ := hx a w hf hk
    exact ⟨_, run_ldS ho h1 h3, s, rfl⟩
theorem ok_litS {n : Nat} (h : ∀ a w, Fixed FX a → Known L o a w → ∃ cs : Array Value, (execOp a.eval o).run Tryz.prog w = .ok (.value (.slice (some ⟨w.heap.size, 0, none⟩) n n)) (w.alloc (.cells cs 9)) ∧ ∀ i, i < n → ∃ s : ByteArray, cs[i]? = some (.string s)) : OkS TA base W v0 X FX L o (sLit n) :=
  okn fun a w hC hf hk => by
    obtain ⟨cs, hr, hc⟩ := h a w hf hk
    exact ⟨_, _, hr, hC.alloc _, below_a (Below.refl _ _) _, w.heap.size, cs, rfl, by simp, fun j => cell_new w cs _ j, hc⟩
theorem ok_dat {x : Operand} {n : Nat} (ho : o.op = .build 50 #[(0, .const (.int .i64 1)), (1, x)]) (hx : Of FX L o x (pPick n)) : OkS TA base W v0 X FX L o sDat :=
  okv RS.refl fun a w _ hf hk => by
    obtain ⟨i, hi, _⟩ := hx a w hf hk
    exact ⟨_, run_dat ho rfl hi, _, rfl⟩
theorem ok_dats {x : Operand} (ho : o.op = .buildSlice 42 1 #[(0, x)]) (hx : Of FX L o x sDat) : OkS TA base W v0 X FX L o sOne :=
  okn fun a w hC hf hk => by
    obtain ⟨m, hm⟩ := hx a w hf hk
    exact ⟨_, _, run_dats ho hm, hC.alloc _, below_a (Below.refl _ _) _, _, rfl⟩
theorem ok_act {x y z : Operand} {n : Nat} (ho : o.op = .build 44 #[(0, .const (.int .i64 2)), (2, x), (3, y), (4, z)]) (hx : Of FX L o x sStr) (hy : Of FX L o y sOne) (hz : Of FX L o z (pPick n)) : OkS TA base W v0 X FX L o sAct :=
  okv RS.refl fun a w _ hf hk => by
    obtain ⟨s, hs⟩ := hx a w hf hk
    obtain ⟨g, hg⟩ := hy a w hf hk
    obtain ⟨i, hi, _⟩ := hz a w hf hk
    exact ⟨_, run_act ho rfl hs hg hi, ⟨2, ⟨#[]⟩, s, some ⟨g, 0, none⟩, 1, 1, i⟩, rfl⟩
theorem ok_acts {x : Operand} (ho : o.op = .buildSlice 23 1 #[(0, x)]) (hx : Of FX L o x sAct) : OkS TA base W v0 X FX L o sActs :=
  okn fun a w hC hf hk => by
    obtain ⟨x', hx'⟩ := hx a w hf hk
    refine ⟨_, _, run_acts ho hx', hC.alloc _, below_a (Below.refl _ _) _, w.heap.size, x', rfl, by simp, fun j u hu => ?_⟩
    rw [add_at, cell_new]
    simpa [kitAct] using hu
end
end Go.Proofs.YtadcklijdbbkjaaGreatDoor
