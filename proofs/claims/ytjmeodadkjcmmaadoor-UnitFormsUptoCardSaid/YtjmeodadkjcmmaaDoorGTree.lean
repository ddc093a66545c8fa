import Derived.Test.YtjmeodadkjcmmaaDoorGEnv
import Derived.Maps.AppendAt
import Derived.Deep.RegionHeld3
namespace Go.Proofs.YtjmeodadkjcmmaaDoor
open Go.RowKit Go.ChangeShapes Go.WideShapes Go.Deep Go.ChangeAt Go.Shelf
set_option linter.unusedVariables false
set_option maxRecDepth 20000
theorem zb {w w' : World} (hb : Below w.heap.size w w') (row : Option Nat) : w.grownBy w' row := ⟨hb.os, hb.tape, hb.output, hb.size, fun i hi _ => hb.block i hi⟩
theorem cells_lit {w : World} {e : TypeId} (cs : Array Value) (news : List Value) (hx : cs.toList = news) :
  ∀ j u, news[j]? = some u -> (w.alloc (.cells cs e)).cell? (Addr.add ⟨w.heap.size, 0, none⟩ j) = some u := by
 intro j u hj
 have h1 : (Addr.add ⟨w.heap.size, 0, none⟩ j) = ⟨w.heap.size, j, none⟩ := by unfold Addr.add; by_cases h0 : j = 0 <;> simp [h0]
 rw [h1, za]
 subst hx
 simpa using hj
theorem flatten_at {k : Nat} : (C : List (List Value)) -> (∀ c ∈ C, c.length = k) -> (i : Nat) -> (hi : i < C.length) -> (j : Nat) -> j < k -> C.flatten[i * k + j]? = C[i][j]?
 | c :: C, hk, 0, _, j, hj => by
  have h0 := hk c (by simp)
  simp only [List.flatten_cons, Nat.zero_mul, Nat.zero_add, List.getElem_cons_zero]
  exact List.getElem?_append_left (by omega)
 | c :: C, hk, i + 1, hi, j, hj => by
  have h0 := hk c (by simp)
  have h := flatten_at C (fun x hx => hk x (by simp [hx])) i (by simpa using hi) j hj
  simp only [List.flatten_cons, List.getElem_cons_succ]
  rw [List.getElem?_append_right (by rw [h0, Nat.add_mul]; omega), <- h]
  congr 1
  rw [h0, Nat.add_mul]
  omega
structure RowsF (w : World) (A : Option Addr) (len k : Nat) (C : List (List Value)) : Prop where
 size : C.length = len
 at_ : 0 < len -> ∃ b o, A = some ⟨b, o, none⟩ /\ b < w.heap.size /\ ∀ i, (h : i < C.length) -> C[i].length = k /\ RowAt w b (o + i * k) C[i]
theorem RowsF.below {w w' : World} {A : Option Addr} {len k : Nat} {C : List (List Value)} (h : RowsF w A len k C) (hb : Below w.heap.size w w') : RowsF w' A len k C :=
 ⟨h.size, fun h0 => by
  obtain ⟨b, o, rfl, hl, hc⟩ := h.at_ h0
  exact ⟨b, o, rfl, Nat.lt_of_lt_of_le hl hb.size, fun i hi => ⟨(hc i hi).1, (hc i hi).2.below hb hl⟩⟩⟩
theorem RowsF.drewN {w : World} {A : Option Addr} {len k : Nat} {C : List (List Value)} (h : RowsF w A len k C) (n : Nat) : RowsF (w.drewN n) A len k C := h.below (below_drewN (Below.refl _ _) n)
theorem ownsRow_form {w : World} {base : Nat} {t : TypeId} {k : Nat} {v : Value} {n : Nat} {C : List (List Value)} (h : w.ownsRow base t k v n C.flatten) (hn : C.length = n) (hk : ∀ c ∈ C, c.length = k) :
  ∃ A cap, v = .slice A n cap /\ n <= cap /\ cap <= maxLen /\ RowsF w A n k C /\ ∀ a, A = some a -> base <= a.block := by
 rcases h.2 with ⟨rfl, h0⟩ | ⟨g, cap, cur, hv, hg, hh, h1, h2, _⟩
 ·
  subst h0
  exact ⟨none, 0, rfl, by simp, by unfold maxLen; omega, ⟨hn, fun h => absurd h (by simp)⟩, fun a ha => by cases ha⟩
 ·
  have hrow := h
  rw [hv] at hrow
  refine ⟨some ⟨g, 0, none⟩, cap, hv, h1, h2, ⟨hn, fun h0 => ⟨g, 0, rfl, (Array.getElem?_eq_some_iff.1 hh).1, fun i hi => ⟨hk _ (List.getElem_mem hi), ?_⟩⟩⟩, fun a ha => by cases ha; exact hg⟩
  intro j hj
  rw [hk _ (List.getElem_mem hi)] at hj
  rw [Nat.zero_add, <- flatten_at C hk i hi j hj]
  refine hrow.cellAt (i * k + j) ?_
  rw [<- hn]
  have h1 : i * k + k <= C.length * k := by rw [<- Nat.succ_mul]; exact Nat.mul_le_mul_right k hi
  omega
structure Kit (α : Type) where
 k : Nat
 cells : α -> List Value
 len : ∀ x, (cells x).length = k
 one : ∀ x, ∀ u ∈ cells x, u.oneCell' = true
 ok : World -> α -> Prop
 uses : α -> Nat -> Prop
 lt : ∀ w x b, ok w x -> uses x b -> b < w.heap.size
 kept : ∀ w w' x row, ok w x -> w.grownBy w' row -> (∀ b, uses x b -> row ≠ some b) -> ok w' x
structure OwnAt {α : Type} (K : Kit α) (ty : TypeId) (base : Nat) (w : World) (v : Value) (X : List α) : Prop where
 row : w.ownsRow base ty K.k v X.length (X.map K.cells).flatten
 each : ∀ x ∈ X, K.ok w x
 from_ : ∀ x ∈ X, ∀ b, K.uses x b -> base <= b
 apart : ∀ x ∈ X, ∀ b, K.uses x b -> v.ownBlock ≠ some b
section
variable {α : Type} {K : Kit α} {ty : TypeId} {base : Nat}
theorem OwnAt.start (K : Kit α) (ty : TypeId) (base : Nat) (w : World) : OwnAt K ty base w (.slice none 0 0) [] := ⟨World.ownsRow_nil _ _ _ _, by simp, by simp, by simp⟩
theorem OwnAt.grown {w w' : World} {v : Value} {X : List α} {row : Option Nat} (h : OwnAt K ty base w v X) (hg : w.grownBy w' row) (hv : v.ownBlock = none \/ v.ownBlock ≠ row) (hx : ∀ x ∈ X, ∀ b, K.uses x b -> row ≠ some b) : OwnAt K ty base w' v X :=
 ⟨h.row.kept hg hv, fun x hx' => K.kept _ _ _ _ (h.each x hx') hg (hx x hx'), h.from_, h.apart⟩
theorem OwnAt.new {w w' : World} {v : Value} {X : List α} (h : OwnAt K ty base w v X) (hb : Below w.heap.size w w') : OwnAt K ty base w' v X :=
 h.grown (zb hb none) (by cases v.ownBlock <;> simp) (fun x hx b hb => by simp)
theorem OwnAt.other {w w' : World} {v : Value} {X : List α} {g : Nat} (h : OwnAt K ty base w v X) (hg : w.grownBy w' (some g)) (hlt : g < base) : OwnAt K ty base w' v X := by
 refine h.grown hg ?_ ?_
 ·
  cases hv : v.ownBlock with
  | none => exact Or.inl rfl
  | some b =>
   right
   intro e
   have := (h.row.lt b hv).1
   have := Option.some.inj e
   omega
 intro x hx b hb e
 have := h.from_ x hx b hb
 have := Option.some.inj e
 omega
theorem OwnAt.free {w : World} {v : Value} {X : List α} (h : OwnAt K ty base w v X) {b : Nat} (hk : w.heap.size <= b) : v.ownBlock ≠ some b := by
 intro e
 have := (h.row.lt b e).2
 omega
theorem OwnAt.form {w : World} {v : Value} {X : List α} (h : OwnAt K ty base w v X) : ∃ A cap, v = .slice A X.length cap /\ X.length <= cap /\ cap <= maxLen /\ RowsF w A X.length K.k (X.map K.cells) /\ ∀ a, A = some a -> base <= a.block :=
 ownsRow_form h.row (by simp) (fun c hc => by obtain ⟨x, _, rfl⟩ := List.mem_map.1 hc; exact K.len x)
end
theorem wpList_own {α : Type} {K : Kit α} {ty : TypeId} {base bytes : Nat} {sl : TypeId} {i : TypeInfo} {z : Value} {ops : Array Oper} {rest : List Oper} {o : Oper} {act : Act} {Q : Exit -> Act -> World -> Prop} {w : World} (hgd : o.guard = none) (s y : Operand)
  (ho : o.op = .call { callee := .builtin .append, args := #[s, y], argTypes := #[sl, sl] })
  (ht : Tryd.prog.underlying sl = some (.slice ty)) (hi : Tryd.prog.info? ty = some i) (hz : i.zero = some z) (hsize : i.size = K.k) (hby : i.bytes = bytes) (hzs : z.cells.size = K.k) (hsz : 0 < K.k)
  {v : Value} {X : List α} (hO : OwnAt K ty base w v X) (x : α) (cs : Array Value) (hcs : cs.toList = K.cells x) (hx : K.ok w x) (hfrom : ∀ b, K.uses x b -> base <= b) (hap : ∀ b, K.uses x b -> v.ownBlock ≠ some b)
  (hs : act.eval s = v) (hy : act.eval y = .slice (some ⟨w.heap.size, 0, none⟩) 1 1) (hb : (X.length + 1) * bytes <= 140737488355328 /\ X.length + 1 <= maxLen) (hbase : base <= w.heap.size)
  (h : ∀ v' w', OwnAt K ty base w' v' (X ++ [x]) -> w.grownBy w' v.ownBlock -> (v'.ownBlock = v.ownBlock \/ ∃ b, v'.ownBlock = some b /\ w.heap.size <= b) -> wpList Tryd.prog ops Q rest (act.put o.dst v') w') : wpList Tryd.prog ops Q (o :: rest) act (w.alloc (.cells cs ty)) := by
 have hbl : Below w.heap.size w (w.alloc (.cells cs ty)) := (Below.refl w.heap.size w).alloc (Nat.le_refl _) _
 have hA := hO.new hbl
 have hxA : K.ok (w.alloc (.cells cs ty)) x := K.kept _ _ _ none hx (zb hbl none) (fun b _ => by simp)
 refine wpList_append_own_at _ hgd s y sl ho base ty i z K.k bytes ht hi hz hsize hby hzs hsz v X.length (X.map K.cells).flatten hs hA.row
  ⟨w.heap.size, 0, none⟩ 1 1 (K.cells x) hy (by rw [K.len]; omega) (cells_lit cs _ hcs) (K.one x) hb.2 hb.1 (Nat.le_trans hbase hbl.size) ?_
 intro v' w' h1 h2 _ h4
 have hga : w.grownBy w' v.ownBlock := (zb hbl v.ownBlock).trans h2
 have hv' : v'.ownBlock = v.ownBlock \/ ∃ b, v'.ownBlock = some b /\ w.heap.size <= b := by
  rcases h4 with h4 | h4
  ·
   exact Or.inl h4
  exact Or.inr ⟨_, h4, by simp⟩
 refine h v' w' ⟨?_, ?_, ?_, ?_⟩ hga hv'
 ·
  rw [List.map_append, List.flatten_append, List.length_append]
  simpa using h1
 ·
  intro y hy
  rcases List.mem_append.1 hy with hy | hy
  ·
   exact K.kept _ _ _ _ (hA.each y hy) h2 (hO.apart y hy)
  obtain rfl : y = x := by simpa using hy
  exact K.kept _ _ _ _ hxA h2 hap
 ·
  intro y hy
  rcases List.mem_append.1 hy with hy | hy
  ·
   exact hO.from_ y hy
  obtain rfl : y = x := by simpa using hy
  exact hfrom
 intro y hy b hb
 have hy2 : K.ok w y /\ v.ownBlock ≠ some b := by
  rcases List.mem_append.1 hy with hy | hy
  ·
   exact ⟨hO.each y hy, hO.apart y hy b hb⟩
  obtain rfl : y = x := by simpa using hy
  exact ⟨hx, hap b hb⟩
 rcases hv' with e | ⟨c, e, hc⟩
 ·
  rw [e]; exact hy2.2
 rw [e]
 intro e'
 have := K.lt _ _ _ hy2.1 hb
 have := Option.some.inj e'
 omega
def inSl (A : Option Addr) (len : Nat) (b : Nat) : Prop := ∃ a, A = some a /\ 0 < len /\ a.block = b
theorem RowsF.grown {w w' : World} {A : Option Addr} {len k : Nat} {C : List (List Value)} {row : Option Nat} (h : RowsF w A len k C) (hg : w.grownBy w' row) (hne : ∀ b, inSl A len b -> row ≠ some b) : RowsF w' A len k C :=
 ⟨h.size, fun h0 => by
  obtain ⟨b, o, rfl, hl, hc⟩ := h.at_ h0
  have hb : w'.heap[b]? = w.heap[b]? := hg.block b hl (fun e => hne b ⟨_, rfl, h0, rfl⟩ e.symm)
  exact ⟨b, o, rfl, Nat.lt_of_lt_of_le hl hg.size, fun i hi => ⟨(hc i hi).1, fun j hj => by rw [World.cell?_of_block (a := ⟨b, _, none⟩) hb]; exact (hc i hi).2 j hj⟩⟩⟩
theorem RowsF.lt {w : World} {A : Option Addr} {len k : Nat} {C : List (List Value)} (h : RowsF w A len k C) {b : Nat} (hb : inSl A len b) : b < w.heap.size := by
 obtain ⟨a, rfl, h0, rfl⟩ := hb
 obtain ⟨b, o, e, hl, _⟩ := h.at_ h0
 cases e
 exact hl
theorem run_own {α : Type} {K : Kit α} {ty : TypeId} {base bytes : Nat} {sl rt : TypeId} {i : TypeInfo} {z : Value} {w : World}
  (ht : Tryd.prog.underlying sl = some (.slice ty)) (hi : Tryd.prog.info? ty = some i) (hz : i.zero = some z) (hsize : i.size = K.k) (hby : i.bytes = bytes) (hzs : z.cells.size = K.k) (hsz : 0 < K.k)
  {v : Value} {X : List α} (hO : OwnAt K ty base w v X) (x : α) (cs : Array Value) (hcs : cs.toList = K.cells x) (hx : K.ok w x) (hfrom : ∀ b, K.uses x b -> base <= b) (hap : ∀ b, K.uses x b -> v.ownBlock ≠ some b)
  (hb : (X.length + 1) * bytes <= 140737488355328 /\ X.length + 1 <= maxLen) (hbase : base <= w.heap.size) :
  ∃ v' w', (Builtin.append_ #[sl, sl] rt #[v, .slice (some ⟨w.heap.size, 0, none⟩) 1 1]).run Tryd.prog (w.alloc (.cells cs ty)) = .ok v' w' /\ OwnAt K ty base w' v' (X ++ [x]) /\ w.grownBy w' v.ownBlock /\ (v'.ownBlock = v.ownBlock \/ ∃ b, v'.ownBlock = some b /\ w.heap.size <= b) := by
 have hbl : Below w.heap.size w (w.alloc (.cells cs ty)) := (Below.refl w.heap.size w).alloc (Nat.le_refl _) _
 have hA := hO.new hbl
 have hxA : K.ok (w.alloc (.cells cs ty)) x := K.kept _ _ _ none hx (zb hbl none) (fun b _ => by simp)
 obtain ⟨v', w', hr, h1, h2, _, h4⟩ := run_append_own_at (P := Tryd.prog) (w.alloc (.cells cs ty)) base sl rt ty i z K.k bytes ht hi hz hsize hby hzs hsz v X.length (X.map K.cells).flatten hA.row
  ⟨w.heap.size, 0, none⟩ 1 1 (K.cells x) (by rw [K.len]; omega) (cells_lit cs _ hcs) (K.one x) hb.2 hb.1 (Nat.le_trans hbase hbl.size)
 have hga : w.grownBy w' v.ownBlock := (zb hbl v.ownBlock).trans h2
 have hv' : v'.ownBlock = v.ownBlock \/ ∃ b, v'.ownBlock = some b /\ w.heap.size <= b := by
  rcases h4 with h4 | h4
  ·
   exact Or.inl h4
  exact Or.inr ⟨_, h4, by simp⟩
 refine ⟨v', w', hr, ⟨?_, ?_, ?_, ?_⟩, hga, hv'⟩
 ·
  rw [List.map_append, List.flatten_append, List.length_append]
  simpa using h1
 ·
  intro y hy
  rcases List.mem_append.1 hy with hy | hy
  ·
   exact K.kept _ _ _ _ (hA.each y hy) h2 (hO.apart y hy)
  obtain rfl : y = x := by simpa using hy
  exact K.kept _ _ _ _ hxA h2 hap
 ·
  intro y hy
  rcases List.mem_append.1 hy with hy | hy
  ·
   exact hO.from_ y hy
  obtain rfl : y = x := by simpa using hy
  exact hfrom
 intro y hy b hb
 have hy2 : K.ok w y /\ v.ownBlock ≠ some b := by
  rcases List.mem_append.1 hy with hy | hy
  ·
   exact ⟨hO.each y hy, hO.apart y hy b hb⟩
  obtain rfl : y = x := by simpa using hy
  exact ⟨hx, hap b hb⟩
 rcases hv' with e | ⟨c, e, hc⟩
 ·
  rw [e]; exact hy2.2
 rw [e]
 intro e'
 have := K.lt _ _ _ hy2.1 hb
 have := Option.some.inj e'
 omega
theorem step_own {α : Type} {K : Kit α} {ty : TypeId} {base bytes : Nat} {sl : TypeId} {i : TypeInfo} {z : Value} {ops : Array Oper} {o : Oper} {act : Act} {KK : Act -> World -> Prop} {Q : Exit -> Act -> World -> Prop} {E : Prop} {w : World} (hgd : o.guard = none) (s y : Operand)
  (ho : o.op = .call { callee := .builtin .append, args := #[s, y], argTypes := #[sl, sl] })
  (ht : Tryd.prog.underlying sl = some (.slice ty)) (hi : Tryd.prog.info? ty = some i) (hz : i.zero = some z) (hsize : i.size = K.k) (hby : i.bytes = bytes) (hzs : z.cells.size = K.k) (hsz : 0 < K.k)
  {v : Value} {X : List α} (hO : OwnAt K ty base w v X) (x : α) (cs : Array Value) (hcs : cs.toList = K.cells x) (hx : K.ok w x) (hfrom : ∀ b, K.uses x b -> base <= b) (hap : ∀ b, K.uses x b -> v.ownBlock ≠ some b)
  (hs : act.eval s = v) (hy : act.eval y = .slice (some ⟨w.heap.size, 0, none⟩) 1 1) (hb : (X.length + 1) * bytes <= 140737488355328 /\ X.length + 1 <= maxLen) (hbase : base <= w.heap.size)
  (h : ∀ v' w', OwnAt K ty base w' v' (X ++ [x]) -> w.grownBy w' v.ownBlock -> KK (act.put o.dst v') w') :
  if Region.wanted o (yielded ops act.tmps) = true then Oper.wp Tryd.prog o act (w.alloc (.cells cs ty)) KK Q else E := by
 have hw : Region.wanted o (yielded ops act.tmps) = true := by simp [Region.wanted, hgd]
 rw [if_pos hw]
 obtain ⟨v', w', hr, h1, h2, _⟩ := run_own (rt := o.type) ht hi hz hsize hby hzs hsz hO x cs hcs hx hfrom hap hb hbase
 unfold Oper.wp execOp
 simp only [ho, resolve, invoke, builtin, Sem.run_bind, Sem.run_pure, Result.andThen_ok, List.map_toArray, List.map_cons, List.map_nil, hs, hy, hr]
 exact h v' w' h1 h2
theorem zi (w : World) (cs : Array Value) (T : TypeId) (j : Nat) : (w.alloc (.cells cs T)).frozen? ⟨w.heap.size, j, none⟩ = false := by simp
theorem zd (w : World) (g j : Nat) (u : Value) : w.grownBy (w.setCell ⟨g, j, none⟩ u) (some g) :=
 ⟨rfl, rfl, rfl, by simp, fun k _ hk => heap_setCell_other w ⟨g, j, none⟩ k u (fun e => hk (by simp [e]))⟩
theorem zj {w : World} {p j i : Nat} {u v : Value} (h : w.cell? ⟨p, i, none⟩ = some v) (hne : i ≠ j) : (w.setCell ⟨p, j, none⟩ u).cell? ⟨p, i, none⟩ = some v := by
 have h1 : (⟨p, j, none⟩ : Addr) ≠ ⟨p, i, none⟩ := by intro e; cases e; exact hne rfl
 exact (World.cell?_setCell_other (h := h1) ..).trans h
theorem zk {w : World} {p i : Nat} {u v : Value} (h : w.cell? ⟨p, i, none⟩ = some v) : (w.setCell ⟨p, i, none⟩ u).cell? ⟨p, i, none⟩ = some u := World.cell?_setCell_same (h := h) ..
def Keep (lo hi : Nat) (w w' : World) : Prop := ∀ b, lo <= b -> b < hi -> b < w.heap.size -> w'.heap[b]? = w.heap[b]?
def RowIn (w : World) (lo hi : Nat) (A : Option Addr) (cs : List (List Value)) : Prop := 0 < cs.length -> ∃ b o, A = some ⟨b, o, none⟩ /\ lo <= b /\ b < hi /\ b < w.heap.size /\ ∀ i, (h : i < cs.length) -> RowAt w b (o + i * 4) cs[i]
inductive DtIn (w : World) (lo hi : Nat) : List Value -> Dt -> Prop
 | mk (k n : Int) (s : ByteArray) (A : Option Addr) (cap : Nat) (l : List Dt) (cs : List (List Value)) (hl : cs.length = l.length) (h1 : l.length <= cap) (h2 : cap <= maxLen) (row : RowIn w lo hi A cs)
   (each : ∀ i, (h : i < l.length) -> (h' : i < cs.length) -> DtIn w lo hi cs[i] l[i]) : DtIn w lo hi [.int .i64 k, .int .i64 n, .string s, .slice A l.length cap] (.mk k n s l)
theorem RowIn.mono {w w' : World} {lo hi lo' hi' : Nat} {A : Option Addr} {cs : List (List Value)} (h : RowIn w lo hi A cs) (hk : Keep lo hi w w') (hs : w.heap.size <= w'.heap.size) (h1 : lo' <= lo) (h2 : hi <= hi') : RowIn w' lo' hi' A cs := by
 intro h0
 obtain ⟨b, o, hA, l1, l2, l3, hr⟩ := h h0
 refine ⟨b, o, hA, by omega, by omega, by omega, fun i hi j hj => ?_⟩
 rw [World.cell?_of_block (a := ⟨b, o + i * 4 + j, none⟩) (hk b l1 l2 l3)]
 exact hr i hi j hj
theorem DtIn.mono {w w' : World} {lo hi lo' hi' : Nat} {c : List Value} {t : Dt} (h : DtIn w lo hi c t) (hk : Keep lo hi w w') (hs : w.heap.size <= w'.heap.size) (h1 : lo' <= lo) (h2 : hi <= hi') : DtIn w' lo' hi' c t := by
 induction h with
 | mk k n s A cap l cs hl a1 a2 row each ih => exact .mk k n s A cap l cs hl a1 a2 (row.mono hk hs h1 h2) ih
theorem DtIn.empty {w : World} {lo hi lo' hi' : Nat} {c : List Value} {t : Dt} (h : DtIn w lo hi c t) (he : hi <= lo) : DtIn w lo' hi' c t := by
 induction h with
 | mk k n s A cap l cs hl a1 a2 row each ih =>
  refine .mk k n s A cap l cs hl a1 a2 (fun h0 => ?_) ih
  obtain ⟨b, o, _, l1, l2, _⟩ := row h0
  omega
theorem DtIn.len {w : World} {lo hi : Nat} {c : List Value} {t : Dt} (h : DtIn w lo hi c t) : c.length = 4 := by cases h; rfl
theorem DtIn.one {w : World} {lo hi : Nat} {c : List Value} {t : Dt} (h : DtIn w lo hi c t) : ∀ u ∈ c, u.oneCell' = true := by
 cases h
 intro u hu
 simp only [List.mem_cons, List.not_mem_nil, or_false] at hu
 rcases hu with rfl | rfl | rfl | rfl <;> rfl
theorem keep_refl (lo hi : Nat) (w : World) : Keep lo hi w w := fun _ _ _ _ => rfl
theorem zm {w w' : World} {row : Option Nat} {lo hi : Nat} (hg : w.grownBy w' row) (hn : ∀ b, lo <= b -> b < hi -> row ≠ some b) : Keep lo hi w w' := fun b h1 h2 h3 => hg.block b h3 (fun e => hn b h1 h2 e.symm)
theorem zw {w w' : World} {lo hi : Nat} (hb : Below w.heap.size w w') : Keep lo hi w w' := fun b _ _ h3 => hb.block b h3
structure DV where
 k : Int
 n : Int
 s : ByteArray
 A : Option Addr
 len : Nat
 cap : Nat
 t : Dt
 lo : Nat
 hi : Nat
def DV.cells (x : DV) : List Value := [.int .i64 x.k, .int .i64 x.n, .string x.s, .slice x.A x.len x.cap]
def kitDt : Kit DV where
 k := 4
 cells := DV.cells
 len x := rfl
 one x u hu := by
  simp only [DV.cells, List.mem_cons, List.not_mem_nil, or_false] at hu
  rcases hu with rfl | rfl | rfl | rfl <;> rfl
 ok w x := DtIn w x.lo x.hi x.cells x.t /\ x.hi <= w.heap.size
 uses x b := x.lo <= b /\ b < x.hi
 lt w x b h hb := Nat.lt_of_lt_of_le hb.2 h.2
 kept w w' x row h hg hn := ⟨h.1.mono (zm hg (fun b h1 h2 => hn b ⟨h1, h2⟩)) hg.size (Nat.le_refl _) (Nat.le_refl _), Nat.le_trans h.2 hg.size⟩
theorem DtIn.view {w : World} {lo hi : Nat} {c : List Value} {t : Dt} (h : DtIn w lo hi c t) (hh : hi <= w.heap.size) : ∃ x : DV, x.cells = c /\ x.t = t /\ x.lo = lo /\ x.hi = hi /\ kitDt.ok w x := by
 cases h with
 | mk k n s A cap l cs hl a1 a2 row each => exact ⟨⟨k, n, s, A, l.length, cap, .mk k n s l, lo, hi⟩, rfl, rfl, rfl, rfl, ⟨.mk k n s A cap l cs hl a1 a2 row each, hh⟩⟩
theorem OwnAt.tree {ty : TypeId} {base lo : Nat} {w : World} {v : Value} {X : List DV} (h : OwnAt kitDt ty base w v X) (hlo : lo <= base) (k n : Int) (s : ByteArray) : DtIn w lo w.heap.size [.int .i64 k, .int .i64 n, .string s, v] (.mk k n s (X.map (·.t))) := by
 obtain ⟨A, cap, rfl, h1, h2, hr, hA⟩ := h.form
 have e : X.length = (X.map (·.t)).length := by simp
 rw [e]
 refine .mk k n s A cap _ (X.map DV.cells) (by simp) (by rw [<- e]; exact h1) h2 ?_ ?_
 ·
  intro h0
  obtain ⟨b, o, rfl, hl, hc⟩ := hr.at_ (by simpa using h0)
  exact ⟨b, o, rfl, Nat.le_trans hlo (hA _ rfl), hl, hl, fun i hi => (hc i hi).2⟩
 ·
  intro i hi hi'
  have hx : i < X.length := by simpa using hi
  have hm : X[i] ∈ X := List.getElem_mem hx
  obtain ⟨o1, o2⟩ := h.each _ hm
  rw [List.getElem_map, List.getElem_map]
  by_cases hlt : X[i].lo < X[i].hi
  ·
   exact o1.mono (keep_refl _ _ _) (Nat.le_refl _) (Nat.le_trans hlo (h.from_ _ hm _ ⟨Nat.le_refl _, hlt⟩)) o2
  exact o1.empty (by omega)
/- Memory of unit.Form: expressions as trees, the former, scopes, rows of data. -/
open Go.RowKit Go.ChangeShapes Go.WideShapes Go.Deep Go.ChangeAt
def RowK (w : World) (lo hi k : Nat) (A : Option Addr) (cs : List (List Value)) : Prop := 0 < cs.length -> ∃ b o, A = some ⟨b, o, none⟩ /\ lo <= b /\ b < hi /\ b < w.heap.size /\ ∀ i, (h : i < cs.length) -> RowAt w b (o + i * k) cs[i]
theorem RowK.mono {w w' : World} {lo hi lo' hi' k : Nat} {A : Option Addr} {cs : List (List Value)} (h : RowK w lo hi k A cs) (hk : Keep lo hi w w') (hs : w.heap.size <= w'.heap.size) (h1 : lo' <= lo) (h2 : hi <= hi') : RowK w' lo' hi' k A cs := by
 intro h0
 obtain ⟨b, o, hA, l1, l2, l3, hr⟩ := h h0
 refine ⟨b, o, hA, by omega, by omega, by omega, fun i hi j hj => ?_⟩
 rw [World.cell?_of_block (a := ⟨b, o + i * k + j, none⟩) (hk b l1 l2 l3)]
 exact hr i hi j hj
structure NmIn (w : World) (lo hi : Nat) (A : Option Addr) (cap : Nat) (ss : List ByteArray) : Prop where
 le : ss.length <= cap
 cap_ : cap <= maxLen
 at_ : 0 < ss.length -> ∃ b o, A = some ⟨b, o, none⟩ /\ lo <= b /\ b < hi /\ b < w.heap.size /\ ∀ i, (h : i < ss.length) -> w.cell? ⟨b, o + i, none⟩ = some (.string ss[i])
theorem NmIn.mono {w w' : World} {lo hi lo' hi' : Nat} {A : Option Addr} {cap : Nat} {ss : List ByteArray} (h : NmIn w lo hi A cap ss) (hk : Keep lo hi w w') (hs : w.heap.size <= w'.heap.size) (h1 : lo' <= lo) (h2 : hi <= hi') : NmIn w' lo' hi' A cap ss :=
 ⟨h.le, h.cap_, fun h0 => by
  obtain ⟨b, o, hA, l1, l2, l3, hr⟩ := h.at_ h0
  refine ⟨b, o, hA, by omega, by omega, by omega, fun i hi => ?_⟩
  rw [World.cell?_of_block (a := ⟨b, o + i, none⟩) (hk b l1 l2 l3)]
  exact hr i hi⟩
theorem NmIn.nil (w : World) (lo hi : Nat) : NmIn w lo hi none 0 [] := ⟨Nat.le_refl _, by unfold maxLen; omega, fun h => absurd h (by simp)⟩
theorem NmIn.strs {w : World} {lo hi : Nat} {A : Option Addr} {cap : Nat} {ss : List ByteArray} (h : NmIn w lo hi A cap ss) : zb1 w A ss.length ss :=
 ⟨rfl, fun h0 => by obtain ⟨b, o, hA, _, _, l3, hr⟩ := h.at_ h0; exact ⟨b, o, hA, l3, hr⟩⟩
inductive ExIn (W0 w : World) (lo hi : Nat) : List Value -> Ex -> Prop
 | mk (k dk dn : Int) (ds : ByteArray) (dA : Option Addr) (dl dc : Nat) (d : Dt) (hd : DtIn W0 0 W0.heap.size [.int .i64 dk, .int .i64 dn, .string ds, .slice dA dl dc] d) (s : ByteArray) (n : Int) (nA : Option Addr) (nc : Nat) (names : List ByteArray) (hn : NmIn w lo hi nA nc names)
   (aA : Option Addr) (ac : Nat) (args : List Ex) (cs : List (List Value)) (hl : cs.length = args.length) (h1 : args.length <= ac) (h2 : ac <= maxLen) (row : RowK w lo hi 9 aA cs)
   (each : ∀ i, (h : i < args.length) -> (h' : i < cs.length) -> ExIn W0 w lo hi cs[i] args[i]) :
   ExIn W0 w lo hi [.int .i64 k, .int .i64 dk, .int .i64 dn, .string ds, .slice dA dl dc, .string s, .int .i64 n, .slice nA names.length nc, .slice aA args.length ac] (.mk k d s n names args)
theorem ExIn.mono {W0 w w' : World} {lo hi lo' hi' : Nat} {c : List Value} {t : Ex} (h : ExIn W0 w lo hi c t) (hk : Keep lo hi w w') (hs : w.heap.size <= w'.heap.size) (h1 : lo' <= lo) (h2 : hi <= hi') : ExIn W0 w' lo' hi' c t := by
 induction h with
 | mk k dk dn ds dA dl dc d hd s n nA nc names hn aA ac args cs hl a1 a2 row each ih => exact .mk k dk dn ds dA dl dc d hd s n nA nc names (hn.mono hk hs h1 h2) aA ac args cs hl a1 a2 (row.mono hk hs h1 h2) ih
theorem ExIn.empty {W0 w : World} {lo hi lo' hi' : Nat} {c : List Value} {t : Ex} (h : ExIn W0 w lo hi c t) (he : hi <= lo) : ExIn W0 w lo' hi' c t := by
 induction h with
 | mk k dk dn ds dA dl dc d hd s n nA nc names hn aA ac args cs hl a1 a2 row each ih =>
  refine .mk k dk dn ds dA dl dc d hd s n nA nc names ⟨hn.le, hn.cap_, fun h0 => ?_⟩ aA ac args cs hl a1 a2 (fun h0 => ?_) ih
  ·
   obtain ⟨b, o, _, l1, l2, _⟩ := hn.at_ h0
   omega
  obtain ⟨b, o, _, l1, l2, _⟩ := row h0
  omega
structure EV where
 k : Int
 dk : Int
 dn : Int
 ds : ByteArray
 dA : Option Addr
 dl : Nat
 dc : Nat
 S : ByteArray
 N : Int
 nA : Option Addr
 nl : Nat
 nc : Nat
 aA : Option Addr
 al : Nat
 ac : Nat
 t : Ex
 lo : Nat
 hi : Nat
def EV.cells (x : EV) : List Value := [.int .i64 x.k, .int .i64 x.dk, .int .i64 x.dn, .string x.ds, .slice x.dA x.dl x.dc, .string x.S, .int .i64 x.N, .slice x.nA x.nl x.nc, .slice x.aA x.al x.ac]
def EV.agg (x : EV) : Value := .agg #[.int .i64 x.k, .int .i64 x.dk, .int .i64 x.dn, .string x.ds, .slice x.dA x.dl x.dc, .string x.S, .int .i64 x.N, .slice x.nA x.nl x.nc, .slice x.aA x.al x.ac]
theorem EV.one (x : EV) : ∀ u ∈ x.cells, u.oneCell' = true := by
 intro u hu
 simp only [EV.cells, List.mem_cons, List.not_mem_nil, or_false] at hu
 rcases hu with rfl | rfl | rfl | rfl | rfl | rfl | rfl | rfl | rfl <;> rfl
def kitAny : Kit EV where
 k := 9
 cells := EV.cells
 len x := rfl
 one := EV.one
 ok w x := True
 uses x b := False
 lt w x b h hb := hb.elim
 kept w w' x row h hg hn := trivial
def kitEx (W0 : World) : Kit EV where
 k := 9
 cells := EV.cells
 len x := rfl
 one := EV.one
 ok w x := ExIn W0 w x.lo x.hi x.cells x.t /\ x.hi <= w.heap.size
 uses x b := x.lo <= b /\ b < x.hi
 lt w x b h hb := Nat.lt_of_lt_of_le hb.2 h.2
 kept w w' x row h hg hn := ⟨h.1.mono (zm hg (fun b h1 h2 => hn b ⟨h1, h2⟩)) hg.size (Nat.le_refl _) (Nat.le_refl _), Nat.le_trans h.2 hg.size⟩
theorem OwnAt.any {W0 : World} {ty : TypeId} {base : Nat} {w : World} {v : Value} {X : List EV} (h : OwnAt (kitEx W0) ty base w v X) : OwnAt kitAny ty base w v X :=
 ⟨h.row, fun _ _ => trivial, fun _ _ _ hb => hb.elim, fun _ _ _ hb => hb.elim⟩
theorem OwnAt.args {W0 : World} {ty : TypeId} {base : Nat} {w : World} {v : Value} {X : List EV} (h : OwnAt (kitEx W0) ty base w v X) :
  ∃ A cap, v = .slice A X.length cap /\ X.length <= cap /\ cap <= maxLen /\ RowK w base w.heap.size 9 A (X.map EV.cells) /\ ∀ i, (h : i < (X.map (·.t)).length) -> (h' : i < (X.map EV.cells).length) -> ExIn W0 w base w.heap.size (X.map EV.cells)[i] (X.map (·.t))[i] := by
 obtain ⟨A, cap, rfl, h1, h2, hr, hA⟩ := h.form
 refine ⟨A, cap, rfl, h1, h2, ?_, ?_⟩
 ·
  intro h0
  obtain ⟨b, o, rfl, hl, hc⟩ := hr.at_ (by simpa using h0)
  exact ⟨b, o, rfl, hA _ rfl, hl, hl, fun i hi => (hc i hi).2⟩
 ·
  intro i hi hi'
  have hx : i < X.length := by simpa using hi
  have hm : X[i] ∈ X := List.getElem_mem hx
  obtain ⟨o1, o2⟩ := h.each _ hm
  rw [List.getElem_map, List.getElem_map]
  by_cases hlt : X[i].lo < X[i].hi
  ·
   exact o1.mono (keep_refl _ _ _) (Nat.le_refl _) (h.from_ _ hm _ ⟨Nat.le_refl _, hlt⟩) o2
  exact o1.empty (by omega)
structure DsAt (W0 w : World) (F : Nat) (A : Option Addr) (cap : Nat) (l : List Dt) : Prop where
 le : l.length <= cap
 cap_ : cap <= maxLen
 at_ : 0 < l.length -> ∃ b o, A = some ⟨b, o, none⟩ /\ b < w.heap.size /\ b ≠ F /\ ∀ i, (h : i < l.length) -> ∃ cs : List Value, RowAt w b (o + i * 4) cs /\ DtIn W0 0 W0.heap.size cs l[i]
theorem DsAt.grown {W0 w w' : World} {F : Nat} {A : Option Addr} {cap : Nat} {l : List Dt} (h : DsAt W0 w F A cap l) (hg : w.grownBy w' (some F)) : DsAt W0 w' F A cap l :=
 ⟨h.le, h.cap_, fun h0 => by
  obtain ⟨b, o, hA, l1, l2, hr⟩ := h.at_ h0
  refine ⟨b, o, hA, Nat.lt_of_lt_of_le l1 hg.size, l2, fun i hi => ?_⟩
  obtain ⟨cs, r, d⟩ := hr i hi
  refine ⟨cs, fun j hj => ?_, d⟩
  rw [World.cell?_of_block (a := ⟨b, o + i * 4 + j, none⟩) (hg.block b l1 (fun e => l2 (Option.some.inj e)))]
  exact r j hj⟩
theorem DsAt.below {W0 w w' : World} {F : Nat} {A : Option Addr} {cap : Nat} {l : List Dt} (h : DsAt W0 w F A cap l) (hb : Below w.heap.size w w') : DsAt W0 w' F A cap l := h.grown (zb hb _)
theorem DtIn.items {W0 w : World} {F : Nat} {c : List Value} {d : Dt} (h : DtIn W0 0 W0.heap.size c d) (hb : Below W0.heap.size W0 w) (hF : W0.heap.size <= F) :
  ∃ A cap, c = [.int .i64 d.k, .int .i64 d.n, .string d.s, .slice A d.l.length cap] /\ DsAt W0 w F A cap d.l := by
 cases h with
 | mk k n s A cap l cs hl a1 a2 row each =>
  refine ⟨A, cap, rfl, a1, a2, fun h0 => ?_⟩
  simp only [Dt.l] at h0
  obtain ⟨b, o, hA, _, l2, l3, hr⟩ := row (by omega)
  refine ⟨b, o, hA, Nat.lt_of_lt_of_le l3 hb.size, by omega, fun i hi => ?_⟩
  simp only [Dt.l] at hi
  exact ⟨cs[i], (hr i (by omega)).below hb l2, each i hi (by omega)⟩
theorem DsAt.nth {W0 w : World} {F : Nat} {A : Option Addr} {cap : Nat} {l : List Dt} (h : DsAt W0 w F A cap l) (i : Nat) (hi : i < l.length) :
  ∃ b o, A = some ⟨b, o, none⟩ /\ b < w.heap.size /\ b ≠ F /\ ∃ cs : List Value, RowAt w b (o + i * 4) cs /\ DtIn W0 0 W0.heap.size cs l[i] := by
 obtain ⟨b, o, hA, l1, l2, hr⟩ := h.at_ (by omega)
 exact ⟨b, o, hA, l1, l2, hr i hi⟩
structure ScAt (w : World) (F : Nat) (A : Option Addr) (cap : Nat) (ls : List ByteArray) : Prop where
 strs : zb1 w A ls.length ls
 le : ls.length <= cap
 cap_ : cap <= maxLen
 off : ∀ a, A = some a -> a.block ≠ F
theorem zb1.grownF {w w' : World} {F : Nat} {A : Option Addr} {len : Nat} {ss : List ByteArray} (h : zb1 w A len ss) (hg : w.grownBy w' (some F)) (hne : 0 < len -> ∀ a, A = some a -> a.block ≠ F) : zb1 w' A len ss :=
 ⟨h.size, fun h0 => by
  obtain ⟨b, o, rfl, hl, hc⟩ := h.at_ h0
  refine ⟨b, o, rfl, Nat.lt_of_lt_of_le hl hg.size, fun i hi => ?_⟩
  rw [World.cell?_of_block (a := ⟨b, o + i, none⟩) (hg.block b hl (fun e => hne h0 _ rfl (Option.some.inj e)))]
  exact hc i hi⟩
theorem ScAt.grown {w w' : World} {F : Nat} {A : Option Addr} {cap : Nat} {ls : List ByteArray} (h : ScAt w F A cap ls) (hg : w.grownBy w' (some F)) : ScAt w' F A cap ls := ⟨h.strs.grownF hg (fun _ => h.off), h.le, h.cap_, h.off⟩
theorem ScAt.below {w w' : World} {F : Nat} {A : Option Addr} {cap : Nat} {ls : List ByteArray} (h : ScAt w F A cap ls) (hb : Below w.heap.size w w') : ScAt w' F A cap ls := h.grown (zb hb _)
theorem ScAt.nil (w : World) (F : Nat) : ScAt w F none 0 [] := ⟨⟨rfl, fun h => absurd h (by simp)⟩, Nat.le_refl _, by unfold maxLen; omega, fun a h => by cases h⟩
def Shp.sh (x : Shp) : Sh := (x.name, x.ss)
structure Fm where
 F : Nat
 G : Option Addr
 gl : Nat
 gc : Nat
 gs : List ByteArray
 S : Option Addr
 sl : Nat
 sc : Nat
 sh : List Shp
 O : Option Addr
 ol : Nat
 oc : Nat
 os : List ByteArray
 up : Bool
def Fm.pl (m : Fm) : Pl := ⟨m.gs, m.sh.map Shp.sh, m.os, m.up⟩
structure ShOff (w : World) (F : Nat) (A : Option Addr) (len : Nat) (L : List Shp) : Prop where
 at_ : zz w A len L
 off : 0 < len -> ∀ a, A = some a -> a.block ≠ F
 each : ∀ x ∈ L, 0 < x.len -> ∀ a, x.A = some a -> a.block ≠ F
theorem ShOff.grown {w w' : World} {F : Nat} {A : Option Addr} {len : Nat} {L : List Shp} (h : ShOff w F A len L) (hg : w.grownBy w' (some F)) : ShOff w' F A len L :=
 ⟨⟨h.at_.size, fun h0 => by
  obtain ⟨b, o, rfl, hl, hc⟩ := h.at_.at_ h0
  have hb : w'.heap[b]? = w.heap[b]? := hg.block b hl (fun e => h.off h0 _ rfl (Option.some.inj e))
  refine ⟨b, o, rfl, Nat.lt_of_lt_of_le hl hg.size, fun i hi => ?_⟩
  rw [World.cell?_of_block (a := ⟨b, o + i * 2, none⟩) hb, World.cell?_of_block (a := ⟨b, o + i * 2 + 1, none⟩) hb]
  exact hc i hi, fun x hx => by
   have hx0 := h.at_.each x hx
   exact ⟨hx0.cells, hx0.wide, hx0.strs.grownF hg (h.each x hx), hx0.each, hx0.le, hx0.cap_⟩⟩, h.off, h.each⟩
structure zx (W0 w : World) (m : Fm) (e : Int) : Prop where
 below : Below W0.heap.size W0 w
 ge : W0.heap.size <= m.F
 lt : m.F < w.heap.size
 maps : UMaps W0
 c0 : w.cell? ⟨m.F, 0, none⟩ = some (.slice m.G m.gl m.gc)
 c1 : w.cell? ⟨m.F, 1, none⟩ = some (.slice m.S m.sl m.sc)
 c2 : w.cell? ⟨m.F, 2, none⟩ = some (.slice m.O m.ol m.oc)
 c3 : w.cell? ⟨m.F, 3, none⟩ = some (.bool m.up)
 c4 : w.cell? ⟨m.F, 4, none⟩ = some (.int .i64 e)
 fz : ∀ j, w.frozen? ⟨m.F, j, none⟩ = false
 g : zb1 w m.G m.gl m.gs
 gle : m.gl <= m.gc
 gcap : m.gc <= maxLen
 goff : 0 < m.gl -> ∀ a, m.G = some a -> a.block ≠ m.F
 s : ShOff w m.F m.S m.sl m.sh
 sle : m.sl <= m.sc
 scap : m.sc <= maxLen
 o : zb1 w m.O m.ol m.os
 ole : m.ol <= m.oc
 ocap : m.oc <= maxLen
 ooff : 0 < m.ol -> ∀ a, m.O = some a -> a.block ≠ m.F
theorem zx.next {W0 w w' : World} {m : Fm} {e : Int} (h : zx W0 w m e) (hb : Below w.heap.size w w') : zx W0 w' m e := by
 have hg := zb hb (some m.F)
 have hc : ∀ j, w'.cell? ⟨m.F, j, none⟩ = w.cell? ⟨m.F, j, none⟩ := fun j => hb.cell (p := ⟨m.F, j, none⟩) h.lt
 exact ⟨h.below.trans (hb.mono h.below.size), h.ge, Nat.lt_of_lt_of_le h.lt hb.size, h.maps, (hc 0).trans h.c0, (hc 1).trans h.c1, (hc 2).trans h.c2, (hc 3).trans h.c3, (hc 4).trans h.c4,
  fun j => (hb.frozen (p := ⟨m.F, j, none⟩) h.lt).trans (h.fz j), h.g.grownF hg h.goff, h.gle, h.gcap, h.goff, h.s.grown hg, h.sle, h.scap, h.o.grownF hg h.ooff, h.ole, h.ocap, h.ooff⟩
theorem zx.set {W0 w : World} {m : Fm} {e : Int} (h : zx W0 w m e) (c : Int) : zx W0 (w.setCell ⟨m.F, 4, none⟩ (.int .i64 c)) m c := by
 have hg := zd w m.F 4 (.int .i64 c)
 have hc : ∀ j u, j ≠ 4 -> w.cell? ⟨m.F, j, none⟩ = some u -> (w.setCell ⟨m.F, 4, none⟩ (.int .i64 c)).cell? ⟨m.F, j, none⟩ = some u := fun j u hj hu => zj hu hj
 exact ⟨h.below.setCell (p := ⟨m.F, 4, none⟩) h.ge _, h.ge, by simpa [World.setCell] using h.lt, h.maps, hc 0 _ (by decide) h.c0, hc 1 _ (by decide) h.c1, hc 2 _ (by decide) h.c2, hc 3 _ (by decide) h.c3, zk h.c4,
  fun j => by simpa using h.fz j, h.g.grownF hg h.goff, h.gle, h.gcap, h.goff, h.s.grown hg, h.sle, h.scap, h.o.grownF hg h.ooff, h.ole, h.ocap, h.ooff⟩
theorem zx.umaps {W0 w : World} {m : Fm} {e : Int} (h : zx W0 w m e) : UMaps w := h.maps.below h.below
def GotEx (W0 w : World) (x : Ex) (e : Ending) (w' : World) : Prop := ∃ v : EV, e = .returned v.agg /\ v.t = x /\ v.lo = w.heap.size /\ v.hi = w'.heap.size /\ (kitEx W0).ok w' v /\ Below w.heap.size w w'
def BadEx (W0 w : World) (m : Fm) (c : Int) (e : Ending) (w' : World) : Prop := ∃ v : EV, e = .returned v.agg /\ 1 <= c /\ zx W0 w' m c /\ w.grownBy w' (some m.F)
def ExPost (W0 w : World) (m : Fm) (r : Fd Ex) (e : Ending) (w' : World) : Prop := match r with
 | .ok x => GotEx W0 w x e w'
 | .err c => BadEx W0 w m c e w'
def ExIdle (w : World) (e : Ending) (w' : World) : Prop := ∃ v : EV, e = .returned v.agg /\ Below w.heap.size w w'
end Go.Proofs.YtjmeodadkjcmmaaDoor
