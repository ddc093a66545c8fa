/- What each kind of operation of bard.expr's returns keeps: the rule's steps. -/
import Derived.Test.YtadcklijdbbkjaaGreatDoorKinds
namespace Go.Proofs.YtadcklijdbbkjaaGreatDoor
open Go.RowKit
set_option linter.unusedVariables false

section
variable {ty base : Nat} {F : Fr}
/-- The bard is whole. -/
def CB (ty base : Nat) (F : Fr) (w : World) : Prop := ∃ v, St ty base F w v
def FixW (ty base : Nat) (F : Fr) (w : World) (g : Nat) (cs : List Value) : Prop := ∃ v, St ty base F w v ∧ Fix F.b w v g cs
def RB (ty base : Nat) (F : Fr) (w w' : World) : Prop := ∀ g cs, FixW ty base F w g cs → FixW ty base F w' g cs
theorem RB.refl (w : World) : RB ty base F w w := fun _ _ h => h
theorem CB.new {w w' : World} (h : CB ty base F w) (hb : Below w.heap.size w w') : CB ty base F w' := by
  obtain ⟨v, h⟩ := h
  exact ⟨v, h.new hb⟩
theorem RB.new {w w' : World} (hb : Below w.heap.size w w') : RB ty base F w w' := by
  rintro g cs ⟨v, h, hf⟩
  exact ⟨v, h.new hb, hf.new hb⟩
theorem St.same {w : World} {v v' : Value} (h : St ty base F w v) (h' : St ty base F w v') : v = v' := by
  have e := h.bard.loc
  rw [h'.bard.loc] at e
  exact (Option.some.inj e).symm
theorem RB.tr {w w' : World} {v v' : Value} (h : St ty base F w v) (h' : St ty base F w' v') (ht : Tr (bO F.b v) (bO F.b v') w w') : RB ty base F w w' := by
  rintro g cs ⟨v2, h2, hf⟩
  obtain rfl := h.same h2
  exact ⟨v', h', hf.tr ht⟩
def Stable (ty base : Nat) (F : Fr) (ψ : Value → World → Prop) : Prop := ∀ v w w', ψ v w → RB ty base F w w' → ψ v w'
def pVal (u : Value) (v : Value) (_ : World) : Prop := v = u
def pStr (B : Nat) (v : Value) (_ : World) : Prop := ∃ s : ByteArray, v = .string s ∧ s.size ≤ B
def pPick (n : Nat) (v : Value) (_ : World) : Prop := ∃ i : Nat, v = .int .i64 (i : Int) ∧ i < n
def pRng (lo hi : Int) (v : Value) (_ : World) : Prop := ∃ m : Int, v = .int .i64 m ∧ lo ≤ m ∧ m ≤ hi
def pLit (ty base : Nat) (F : Fr) (n : Nat) (v : Value) (w : World) : Prop := ∃ g cs, v = .slice (some ⟨g, 0, none⟩) n n ∧ FixW ty base F w g cs ∧ ∀ i, i < n → ∃ s : ByteArray, cs[i]? = some (.string s) ∧ s.size ≤ 20
def pElt (ty base : Nat) (F : Fr) (v : Value) (w : World) : Prop := ∃ g i cs, ∃ s : ByteArray, v = .pointer (some ⟨g, i, none⟩) ∧ FixW ty base F w g cs ∧ cs[i]? = some (.string s) ∧ s.size ≤ 20
theorem st_val (u : Value) : Stable ty base F (pVal u) := fun _ _ _ h _ => h
theorem st_str (B : Nat) : Stable ty base F (pStr B) := fun _ _ _ h _ => h
theorem st_pick (n : Nat) : Stable ty base F (pPick n) := fun _ _ _ h _ => h
theorem st_rng (lo hi : Int) : Stable ty base F (pRng lo hi) := fun _ _ _ h _ => h
theorem st_lit (n : Nat) : Stable ty base F (pLit ty base F n) := by
  rintro v w w' ⟨g, cs, h1, h2, h3⟩ hR
  exact ⟨g, cs, h1, hR g cs h2, h3⟩
theorem st_elt : Stable ty base F (pElt ty base F) := by
  rintro v w w' ⟨g, i, cs, s, h1, h2, h3⟩ hR
  exact ⟨g, i, cs, s, h1, hR g cs h2, h3⟩

variable {FX : List (Nat × Value)} {L : List Told} {o : Oper}
def Fixed (FX : List (Nat × Value)) (a : Act) : Prop := ∀ p ∈ FX, slot a p.1 = p.2
/-- What is known of an operand. -/
def Of (FX : List (Nat × Value)) (L : List Told) (o : Oper) (x : Operand) (ψ : Value → World → Prop) : Prop := ∀ (a : Act) (w : World), Fixed FX a → Known L o a w → ψ (a.eval x) w
theorem of_const {v : Value} {ψ : Value → World → Prop} (h : ∀ w, ψ v w) : Of FX L o (.const v) ψ := fun _ w _ _ => h w
theorem of_fixed {k : Nat} {v : Value} (h : (k, v) ∈ FX) : Of FX L o (.tmp k) (pVal v) := fun _ _ hf _ => hf _ h
theorem of_dep {k : Nat} (e : Edge) (he : e ∈ o.after) (hb : Region.binds .any e = true) (t : Told) (ht : L[e.on]? = some t) (hd : t.1.dst = some k) : Of FX L o (.tmp k) t.2 := fun _ _ _ hk => hk e he hb t k ht hd
theorem ok_value {ψ : Value → World → Prop} (h : ∀ a w, CB ty base F w → Fixed FX a → Known L o a w → ∃ v, (execOp a.eval o).run Tryz.prog w = .ok (.value v) w ∧ ψ v w) : OpOk Tryz.prog (CB ty base F) (RB ty base F) FX L (o, ψ) := by
  intro a w K Q hC hf hk hK
  obtain ⟨v, hr, hψ⟩ := h a w hC hf hk
  unfold Oper.wp
  rw [hr]
  exact hK v w hC (RB.refl w) hψ
theorem ok_new {ψ : Value → World → Prop} (h : ∀ a w, CB ty base F w → Fixed FX a → Known L o a w → ∃ v w', (execOp a.eval o).run Tryz.prog w = .ok (.value v) w' ∧ CB ty base F w' ∧ RB ty base F w w' ∧ ψ v w') : OpOk Tryz.prog (CB ty base F) (RB ty base F) FX L (o, ψ) := by
  intro a w K Q hC hf hk hK
  obtain ⟨v, w', hr, h1, h2, h3⟩ := h a w hC hf hk
  unfold Oper.wp
  rw [hr]
  exact hK v w' h1 h2 h3
theorem ok_call {ψ : Value → World → Prop} (h : ∀ a w, CB ty base F w → Fixed FX a → Known L o a w → ∃ f args, (execOp a.eval o).run Tryz.prog w = .ok (.enter f args) w ∧ Calls Tryz.prog f args w fun e w' => ∃ v, e = .returned v ∧ CB ty base F w' ∧ RB ty base F w w' ∧ ψ v w') : OpOk Tryz.prog (CB ty base F) (RB ty base F) FX L (o, ψ) := by
  intro a w K Q hC hf hk hK
  obtain ⟨f, args, hr, hc⟩ := h a w hC hf hk
  unfold Oper.wp
  rw [hr]
  refine hc.mono ?_
  rintro e w' ⟨v, rfl, h1, h2, h3⟩
  exact hK v w' h1 h2 h3
theorem ok_add {x y : Operand} {A B N : Nat} (ho : o.op = .binOp .add 9 x y 9) (hx : Of FX L o x (pStr A)) (hy : Of FX L o y (pStr B)) (hN : A + B ≤ N) (hM : N ≤ 9223372036854775807) : OpOk Tryz.prog (CB ty base F) (RB ty base F) FX L (o, pStr N) :=
  ok_value fun a w _ hf hk => by
    obtain ⟨s, hs, hs1⟩ := hx a w hf hk
    obtain ⟨t, ht, ht1⟩ := hy a w hf hk
    exact ⟨_, run_add ho hs ht (by omega), s ++ t, rfl, by rw [size_add]; omega⟩
theorem ok_mov {x : Operand} {ψ : Value → World → Prop} (ho : o.op = .move x) (hx : Of FX L o x ψ) : OpOk Tryz.prog (CB ty base F) (RB ty base F) FX L (o, ψ) := ok_value fun a w _ hf hk => ⟨_, run_mov ho rfl, hx a w hf hk⟩
theorem ok_asg {x : Operand} {ψ : Value → World → Prop} (ho : o.op = .assign x) (hx : Of FX L o x ψ) : OpOk Tryz.prog (CB ty base F) (RB ty base F) FX L (o, ψ) := ok_value fun a w _ hf hk => ⟨_, run_asg ho rfl, hx a w hf hk⟩
theorem ok_fld {x : Operand} {j : Nat} (hj : j < 4) (ho : o.op = .fieldAddr 46 x j) (hx : Of FX L o x (pVal (.pointer (some ⟨F.R, 0, none⟩)))) : OpOk Tryz.prog (CB ty base F) (RB ty base F) FX L (o, pVal (.pointer (some ⟨F.R, j, none⟩))) :=
  ok_value fun a w _ hf hk => ⟨_, run_fld hj ho (hx a w hf hk), rfl⟩
theorem ok_ldI {x : Operand} {j : Nat} {m : Int} (ho : o.op = .load 3 x) (hx : Of FX L o x (pVal (.pointer (some ⟨F.R, j, none⟩)))) (hm : [F.k, F.a, F.c, F.e][j]? = some m) : OpOk Tryz.prog (CB ty base F) (RB ty base F) FX L (o, pVal (.int .i64 m)) :=
  ok_value fun a w hC hf hk => by
    obtain ⟨v, h⟩ := hC
    have hc : w.cell? ⟨F.R, j, none⟩ = some (.int .i64 m) := h.fr.get (by
      match j, hm with
      | 0, hm => simp at hm; subst hm; rfl
      | 1, hm => simp at hm; subst hm; rfl
      | 2, hm => simp at hm; subst hm; rfl
      | 3, hm => simp at hm; subst hm; rfl)
    exact ⟨_, run_ldI ho (hx a w hf hk) hc, rfl⟩
theorem ok_ldB {x : Operand} (ho : o.op = .load 93 x) (hx : Of FX L o x (pVal (.pointer (some ⟨F.B, 0, none⟩)))) : OpOk Tryz.prog (CB ty base F) (RB ty base F) FX L (o, pVal (.pointer (some ⟨F.b, 0, none⟩))) :=
  ok_value fun a w hC hf hk => by
    obtain ⟨v, h⟩ := hC
    exact ⟨_, run_ldP ho (hx a w hf hk) h.cb, rfl⟩
theorem ok_ldS {x : Operand} (ho : o.op = .load 9 x) (hx : Of FX L o x (pElt ty base F)) : OpOk Tryz.prog (CB ty base F) (RB ty base F) FX L (o, pStr 20) :=
  ok_value fun a w hC hf hk => by
    obtain ⟨g, i, cs, s, h1, ⟨v, h2, h2'⟩, h3, h4⟩ := hx a w hf hk
    exact ⟨_, run_ldS ho h1 (h2'.get h3), s, rfl, h4⟩
theorem ok_idx {x y : Operand} {n : Nat} (ho : o.op = .indexAddr 48 x y) (hx : Of FX L o x (pLit ty base F n)) (hy : Of FX L o y (pPick n)) : OpOk Tryz.prog (CB ty base F) (RB ty base F) FX L (o, pElt ty base F) :=
  ok_value fun a w hC hf hk => by
    obtain ⟨g, cs, h1, h2, h3⟩ := hx a w hf hk
    obtain ⟨i, hi, hi'⟩ := hy a w hf hk
    obtain ⟨s, hs, hs'⟩ := h3 i hi'
    exact ⟨_, run_idx ho h1 hi hi', g, i, cs, s, rfl, h2, hs, hs'⟩
theorem ok_pick {x : Operand} {m : Int} {n : Nat} {ts : Array TypeId} (ho : o.op = .call { callee := .value (.func 9), args := #[x, .const (.int .i64 (n : Int))], argTypes := ts }) (hx : Of FX L o x (pVal (.int .i64 m))) (hm : isI m) (hn : 0 < n) (hN : n ≤ 1000) : OpOk Tryz.prog (CB ty base F) (RB ty base F) FX L (o, pPick n) :=
  ok_call fun a w hC hf hk => ⟨_, _, run_pick ho rfl (hx a w hf hk) rfl, (picked_any m n hm (by omega) (by omega) w).mono (by
    rintro e w' ⟨rfl, rfl⟩
    obtain ⟨p0, p1⟩ := pk_in m (show (0 : Int) < (n : Int) by omega)
    exact ⟨_, rfl, hC, RB.refl _, (pk m n).toNat, by congr 1; omega, by omega⟩)⟩
theorem ok_subI {x : Operand} {n : Nat} (hn : n ≤ 1000) (ho : o.op = .binOp .sub 3 x (.const (.int .i64 2)) 3) (hx : Of FX L o x (pPick n)) : OpOk Tryz.prog (CB ty base F) (RB ty base F) FX L (o, pRng (-2) ((n : Int) - 3)) :=
  ok_value fun a w hC hf hk => by
    obtain ⟨i, hi, hi'⟩ := hx a w hf hk
    exact ⟨_, run_subI ho hi rfl (by omega), _, rfl, by omega, by omega⟩
theorem of_rng {x : Operand} {n : Nat} (h : Of FX L o x (pPick n)) : Of FX L o x (pRng 0 ((n : Int) - 1)) := fun a w hf hk => by
  obtain ⟨i, hi, hi'⟩ := h a w hf hk
  exact ⟨i, hi, by omega, by omega⟩
theorem run_itoa {ev : Operand → Value} {w : World} {x : Operand} {m : Int} {ts : Array TypeId} (ho : o.op = .call { callee := .value (.func 15), args := #[x], argTypes := ts }) (hf : ev (.func 15) = .func (.func 15) #[] #[]) (hx : ev x = .int .i64 m) :
    (execOp ev o).run Tryz.prog w = .ok (.enter 15 #[.int .i64 m]) w := by
  unfold execOp
  simp [ho, go_sem, hx, hf]
theorem ok_itoa {x : Operand} {lo hi : Int} {ts : Array TypeId} (ho : o.op = .call { callee := .value (.func 15), args := #[x], argTypes := ts }) (hx : Of FX L o x (pRng lo hi)) (hlo : -9 ≤ lo) (hhi : hi ≤ 9) : OpOk Tryz.prog (CB ty base F) (RB ty base F) FX L (o, pStr 20) :=
  ok_call fun a w hC hf hk => by
    obtain ⟨m, hm, m0, m1⟩ := hx a w hf hk
    obtain ⟨v, h⟩ := hC
    refine ⟨_, _, run_itoa ho rfl hm, (itoa_any m (by omega) (by omega) w h.bard.tab.tab).mono ?_⟩
    rintro e w' ⟨rfl, hb⟩
    exact ⟨_, rfl, CB.new ⟨v, h⟩ hb, RB.new hb, _, rfl, itoa_short m (by omega) (by omega)⟩
theorem run_local {ev : Operand → Value} {w : World} {x y : Operand} {b : Nat} {m : Int} {ts : Array TypeId} (ho : o.op = .call { callee := .value (.func 70), args := #[x, y], argTypes := ts }) (hf : ev (.func 70) = .func (.func 70) #[] #[]) (hx : ev x = .pointer (some ⟨b, 0, none⟩)) (hy : ev y = .int .i64 m) :
    (execOp ev o).run Tryz.prog w = .ok (.enter 70 #[.pointer (some ⟨b, 0, none⟩), .int .i64 m]) w := by
  unfold execOp
  simp [ho, go_sem, hx, hy, hf]
theorem ok_local {x y : Operand} {m : Int} {ts : Array TypeId} (ho : o.op = .call { callee := .value (.func 70), args := #[x, y], argTypes := ts }) (hx : Of FX L o x (pVal (.pointer (some ⟨F.b, 0, none⟩)))) (hy : Of FX L o y (pVal (.int .i64 m))) (hm : isI m) (hn : F.n ≤ 100) : OpOk Tryz.prog (CB ty base F) (RB ty base F) FX L (o, pStr 20) :=
  ok_call fun a w hC hf hk => by
    obtain ⟨v, h⟩ := hC
    refine ⟨_, _, run_local ho rfl (hx a w hf hk) (hy a w hf hk), (local_any h.bard hn m hm).mono ?_⟩
    rintro e w' ⟨s, rfl, hs, hb⟩
    exact ⟨_, rfl, CB.new ⟨v, h⟩ hb, RB.new hb, s, rfl, hs⟩
theorem run_subC {ev : Operand → Value} {w : World} {x : Operand} {B D : Nat} {ts : Array TypeId} (ho : o.op = .call { callee := .value x, args := #[], argTypes := ts }) (hx : ev x = .func (.func 71) #[] #[.pointer (some ⟨B, 0, none⟩), .pointer (some ⟨D, 0, none⟩)]) :
    (execOp ev o).run Tryz.prog w = .ok (.enter 71 #[.pointer (some ⟨B, 0, none⟩), .pointer (some ⟨D, 0, none⟩)]) w := by
  unfold execOp
  simp [ho, go_sem, hx]
theorem ok_sub {x : Operand} {ts : Array TypeId} (hE : ExprAt ty base F.d) (hn : F.n + F.d ≤ 10) (hX : F.x = (F.d : Int) + 1) (ho : o.op = .call { callee := .value x, args := #[], argTypes := ts }) (hx : Of FX L o x (pVal (.func (.func 71) #[] #[.pointer (some ⟨F.B, 0, none⟩), .pointer (some ⟨F.D, 0, none⟩)]))) : OpOk Tryz.prog (CB ty base F) (RB ty base F) FX L (o, pStr (Lb F.d)) :=
  ok_call fun a w hC hf hk => by
    obtain ⟨v, h⟩ := hC
    refine ⟨_, _, run_subC ho (hx a w hf hk), (h.sub hE hn hX).mono ?_⟩
    rintro e w' ⟨s, v', rfl, hs, h', ht⟩
    exact ⟨_, rfl, ⟨v', h'⟩, RB.tr h h' ht, s, rfl, hs⟩
theorem ok_ldD {x : Operand} (ho : o.op = .load 3 x) (hx : Of FX L o x (pVal (.pointer (some ⟨F.D, 0, none⟩)))) : OpOk Tryz.prog (CB ty base F) (RB ty base F) FX L (o, pVal (.int .i64 F.x)) :=
  ok_value fun a w hC hf hk => by
    obtain ⟨v, h⟩ := hC
    exact ⟨_, run_ldI ho (hx a w hf hk) h.cd, rfl⟩
theorem ok_dec {x : Operand} {m : Nat} (hm : m ≤ 1000) (ho : o.op = .binOp .sub 3 x (.const (.int .i64 1)) 3) (hx : Of FX L o x (pVal (.int .i64 ((m : Int) + 1)))) : OpOk Tryz.prog (CB ty base F) (RB ty base F) FX L (o, pVal (.int .i64 (m : Int))) :=
  ok_value fun a w hC hf hk => ⟨_, run_subI ho (hx a w hf hk) rfl (by omega), by show _ = _; congr 1; omega⟩
theorem run_exprC {ev : Operand → Value} {w : World} {x y : Operand} {b : Nat} {m : Int} {ts : Array TypeId} (ho : o.op = .call { callee := .value (.func 27), args := #[x, y], argTypes := ts }) (hf : ev (.func 27) = .func (.func 27) #[] #[]) (hx : ev x = .pointer (some ⟨b, 0, none⟩)) (hy : ev y = .int .i64 m) :
    (execOp ev o).run Tryz.prog w = .ok (.enter 27 #[.pointer (some ⟨b, 0, none⟩), .int .i64 m]) w := by
  unfold execOp
  simp [ho, go_sem, hx, hy, hf]
theorem ok_expr {x y : Operand} {ts : Array TypeId} (hE : ExprAt ty base F.d) (hn : F.n + F.d ≤ 10) (ho : o.op = .call { callee := .value (.func 27), args := #[x, y], argTypes := ts }) (hx : Of FX L o x (pVal (.pointer (some ⟨F.b, 0, none⟩)))) (hy : Of FX L o y (pVal (.int .i64 (F.d : Int)))) : OpOk Tryz.prog (CB ty base F) (RB ty base F) FX L (o, pStr (Lb F.d)) :=
  ok_call fun a w hC hf hk => by
    obtain ⟨v, h⟩ := hC
    refine ⟨_, _, run_exprC ho rfl (hx a w hf hk) (hy a w hf hk), (h.expr hE hn).mono ?_⟩
    rintro e w' ⟨s, v', rfl, hs, h', ht⟩
    exact ⟨_, rfl, ⟨v', h'⟩, RB.tr h h' ht, s, rfl, hs⟩
/-- A literal of texts. -/
theorem ok_lit {n : Nat} (h : ∀ a w, Fixed FX a → Known L o a w → ∃ cs : Array Value, (execOp a.eval o).run Tryz.prog w = .ok (.value (.slice (some ⟨w.heap.size, 0, none⟩) n n)) (w.alloc (.cells cs 9)) ∧ ∀ i, i < n → ∃ s : ByteArray, cs[i]? = some (.string s) ∧ s.size ≤ 20) : OpOk Tryz.prog (CB ty base F) (RB ty base F) FX L (o, pLit ty base F n) :=
  ok_new fun a w hC hf hk => by
    obtain ⟨cs, hr, hc⟩ := h a w hf hk
    obtain ⟨v, hS⟩ := hC
    have hb : Below w.heap.size w (w.alloc (.cells cs 9)) := below_a (Below.refl _ _) _
    exact ⟨_, _, hr, ⟨v, hS.new hb⟩, RB.new hb, w.heap.size, cs.toList, rfl, ⟨v, hS.new hb, Fix.alloc hS.bard cs _⟩, fun i hi => by
      obtain ⟨s, h1, h2⟩ := hc i hi
      exact ⟨s, by simpa using h1, h2⟩⟩
end
end Go.Proofs.YtadcklijdbbkjaaGreatDoor
